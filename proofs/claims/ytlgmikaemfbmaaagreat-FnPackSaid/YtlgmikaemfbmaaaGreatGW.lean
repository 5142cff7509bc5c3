/- Walks of functions of this program (printed by a program of ours, by the rules of the layer). No condition. -/
import Derived.Test.YtlgmikaemfbmaaaGreatG9
import Derived.Test.YtlgmikaemfbmaaaGreatGU
import Derived.Test.YtlgmikaemfbmaaaGreatNs
namespace Go.Proofs.YtlgmikaemfbmaaaGreat
open Go.RowKit

noncomputable def x_spec_l01New_b0 (code : List UInt8) (h7 : Int) (i8 : Int) : Option (Lr (Int × Int) Int) :=
  Option.bind (bif decide (i8 < (code.length : Int)) then (some (decide (i8 < 4000))) else (some false)) fun c41 => bif c41 then (xg (0 ≤ i8 ∧ i8 < (code.length : Int)) <| some (Lr.go (bAnd (iw ((iw ((iw (h7 * 43)) + ((el code i8.toNat).toNat : Int))) + 7)) 1073741823, iw (i8 + 1)))) else (some (Lr.out h7))
noncomputable def x_spec_l01New_f0 (code : List UInt8) (s63 : Int × Int) : Option (Lr (Int × Int) Int) := x_spec_l01New_b0 code s63.1 s63.2
noncomputable def x_spec_l01New (code : List UInt8) : Option DL01Cur :=
  Option.bind (iter (x_spec_l01New_f0 code) (iw (1621 + (code.length : Int)), 0)) fun (y64 : Int) => some (⟨code, 0, y64⟩ : DL01Cur)
theorem ct_spec_l01New (w : World) (X S : Bs) (code : List UInt8) (s_code : Sv) (hS : ∀ b, S b → b < w.heap.size ∧ ¬ X b) (a_code_0 : (cSl 1 fY code).rd S w s_code.v) (oL : Sep [] X w) {r : DL01Cur} (hx : x_spec_l01New code = some r) :
  Ret Tryz.prog 27 [s_code.v] w (fun u w' => ∃ y : Nat × Sv, u = (.pointer (some ⟨y.1, 0, none⟩)) ∧ Gives X S w [oBox y.1 #[y.2.v, (.int .i64 r.i), (.int .i64 r.h)] 78] [rV y.2.v (cSl 1 fY r.b)] w') := by
 unfold x_spec_l01New at hx
 refine enter Tryz.func27 rfl Tryz.ntmps27 (by kernel_rfl) rfl ?_
 have hM := St.enter oL hS
 have hM := hM.addE (r := rV s_code.v (cSl 1 fY code)) a_code_0
 refine wc_sr ?_
 refine was rfl rfl ?_
 refine wl_sq ?_
 refine wc_sr ?_
 refine wmv rfl rfl ?_
 refine wv rfl (r_lenC Tryz.underlying22 rfl (hM.seeR (.head _))) ?_
 refine wv rfl (r_addw rfl rfl) ?_
 refine was rfl rfl ?_
 refine wl_sq ?_
 refine wc_seq ?_
 refine wc_sr ?_
 refine was rfl rfl ?_
 refine wl_sq ?_
 refine wc_block ?_
 obtain ⟨y79, hx, hx80⟩ := bind_some' hx
 obtain ⟨m85, hx⟩ := iter_run hx
 refine wc_loop (un fun (m83 : Nat) => un fun (h81 : Int) => fun (i82 : Int) => [(0, s_code.v), (3, (.int .i64 h81)), (4, (.int .i64 i82))]) (un fun (m83 : Nat) => un fun (h81 : Int) => fun (i82 : Int) w' => St ⟨w, X, S⟩ [] [rV s_code.v (cSl 1 fY code)] w' ∧ iterN _ m83 (h81, i82) = some y79) (fun p => p.1) (m85, iw (1621 + (code.length : Int)), 0) ⟨rfl, rfl, rfl, trivial⟩ ⟨hM, hx⟩ ?_
 rintro ⟨m83, h81, i82⟩ w86 ⟨hM, hx⟩
 obtain ⟨m87, z88, rfl, hx, hx89⟩ := iterN_step hx
 unfold x_spec_l01New_f0 x_spec_l01New_b0 at hx
 try dsimp only at hx
 refine wc_seq ?_
 refine wc_sr ?_
 refine wmv rfl rfl ?_
 refine wmv rfl rfl ?_
 refine wv rfl (r_lenC Tryz.underlying22 rfl (hM.seeR (.head _))) ?_
 refine wv rfl (r_lss rfl rfl) ?_
 refine wmv rfl rfl ?_
 obtain ⟨c95, hx, hx99⟩ := bind_some' hx
 refine wl_mid 3 (fun _ : Unit => [(15, (.bool c95)), (0, s_code.v), (3, (.int .i64 h81)), (4, (.int .i64 i82))]) (fun _ w' => St ⟨w, X, S⟩ [] [rV s_code.v (cSl 1 fY code)] w') ?_ ?_
 ·
  rcases Bool.eq_false_or_eq_true (decide (i82 < (code.length : Int))) with hg96 | hg96
  ·
   replace hx := xif_t hg96 hx
   refine gv rfl hg96 rfl (r_move rfl) ?_
   refine gv rfl hg96 rfl (r_lss rfl rfl) ?_
   refine wv rfl (p_t rfl hg96 rfl) ?_
   obtain rfl := Option.some.inj hx
   exact mid_nil () ⟨rfl, rfl, rfl, rfl, trivial⟩ hM
  ·
   replace hx := xif_f hg96 hx
   refine gs rfl (isB_no hg96) rfl ?_
   refine gs rfl (isB_no hg96) rfl ?_
   refine wv rfl (p_f rfl hg96 rfl) ?_
   obtain rfl := Option.some.inj hx
   exact mid_nil () ⟨rfl, rfl, rfl, rfl, trivial⟩ hM
 rintro _ w102 hM
 replace hx := hx99
 refine wl_sq ?_
 refine wc_cond rfl (fun hc103 => ?_) (fun hc103 => ?_)
 ·
  replace hx := xif_t hc103 hx
  refine wc_skip ?_
  refine sq_n ?_
  refine wc_seq ?_
  refine wc_block ?_
  refine wc_region ?_
  refine wmv rfl rfl ?_
  refine wv rfl (r_mulw rfl rfl) ?_
  refine wmv rfl rfl ?_
  refine wmv rfl rfl ?_
  obtain ⟨hg110, hx⟩ := xg_some hx
  have hi109 : i82.toNat < code.length := by omega
  refine wv rfl (r_ixC Tryz.underlying22 sz5 rfl rfl (hM.seeR (.head _)) hg110) ?_
  refine wv rfl (r_ld Tryz.underlying5 rfl rfl (Cs.get (i := i82.toNat) (j := 0) (hM.seeR (.head _)) (fun _ => rfl) hi109 rfl)) ?_
  refine wv rfl (r_cvt Tryz.underlying5 Tryz.underlying3 rfl (u8_cvt _)) ?_
  refine wv rfl (r_addw rfl rfl) ?_
  refine wv rfl (r_addw rfl rfl) ?_
  refine wv rfl (r_and rfl rfl) ?_
  refine was rfl rfl ?_
  refine wl_nil ?_
  refine bk_n ?_
  refine sq_n ?_
  refine wc_region ?_
  refine wmv rfl rfl ?_
  refine wv rfl (r_addw rfl rfl) ?_
  refine was rfl rfl ?_
  refine wl_nil ?_
  obtain rfl := Option.some.inj hx
  exact lp_end (m87, bAnd (iw ((iw ((iw (h81 * 43)) + ((el code i82.toNat).toNat : Int))) + 7)) 1073741823, iw (i82 + 1)) (Nat.lt_succ_self _) ⟨rfl, rfl, rfl, trivial⟩ ⟨hM, hx89⟩
 ·
  replace hx := xif_f hc103 hx
  refine wc_exit ?_
  refine sq_exit ?_
  refine lp1_exit ?_
  obtain rfl := Option.some.inj hx
  obtain rfl := Option.some.inj hx89
  replace hx := hx80
  try dsimp only [Sum.elim_inl, Sum.elim_inr] at hx
  refine bk_here ?_
  refine sq_n ?_
  refine wc_sr ?_
  refine wmv rfl rfl ?_
  refine wmv rfl rfl ?_
  refine wv rfl (r_build (cells := #[s_code.v, (.int .i64 0), (.int .i64 h81)]) rfl (by kernel_rfl)) ?_
  refine w_ex rfl (x_box rfl hM ?_); intro b124 w123 hR125 hM
  dsimp only [Value.cells] at hM
  refine was rfl rfl ?_
  refine wl_sq ?_
  refine wc_ret ?_
  obtain rfl := Option.some.inj hx
  refine fin_ret [(.pointer (some ⟨b124, 0, none⟩))] ⟨rfl, trivial⟩ ?_
  replace hM := hM.t1
  have hM := hM.fewer (rsC (.head _) rsN)
  exact ⟨(b124, s_code), rfl, hM.gives⟩

noncomputable def x_spec_l01Byte (c : DL01Cur) : Option (Int × DL01Cur) :=
  xg (0 ≤ (33 : Int)) <| xg (0 ≤ (45 : Int)) <| bif decide (c.i < (c.b.length : Int)) then (xg (0 ≤ c.i ∧ c.i < (c.b.length : Int)) <| some (bAnd (iw ((bAnd (bXor (bShr (iw ((iw (c.h * 6364136223846793005)) + 1442695040888963407)) 33) (bShr (iw ((iw (c.h * 6364136223846793005)) + 1442695040888963407)) 45)) 255) + ((el c.b c.i.toNat).toNat : Int))) 255, (⟨c.b, iw (c.i + 1), iw ((iw (c.h * 6364136223846793005)) + 1442695040888963407)⟩ : DL01Cur))) else (some (bAnd (bXor (bShr (iw ((iw (c.h * 6364136223846793005)) + 1442695040888963407)) 33) (bShr (iw ((iw (c.h * 6364136223846793005)) + 1442695040888963407)) 45)) 255, (⟨c.b, c.i, iw ((iw (c.h * 6364136223846793005)) + 1442695040888963407)⟩ : DL01Cur)))
theorem ct_spec_l01Byte (w : World) (X S : Bs) (b_c : Nat) (c : DL01Cur) (s_c_0 : Sv) (hS : ∀ b, S b → b < w.heap.size ∧ ¬ X b) (a_c_0 : (cSl 1 fY c.b).rd S w s_c_0.v) (oL : Sep [oBox b_c #[s_c_0.v, (.int .i64 c.i), (.int .i64 c.h)] 78] X w) {r : Int × DL01Cur} (hx : x_spec_l01Byte c = some r) :
  Ret Tryz.prog 72 [(.pointer (some ⟨b_c, 0, none⟩))] w (fun u w' => ∃ y : Sv, u = (.int .i64 r.1) ∧ Gives X S w [oBox b_c #[y.v, (.int .i64 r.2.i), (.int .i64 r.2.h)] 78] [rV y.v (cSl 1 fY r.2.b)] w') := by
 unfold x_spec_l01Byte at hx
 refine enter Tryz.func72 rfl Tryz.ntmps72 (by kernel_rfl) rfl ?_
 have hM := St.enter oL hS
 have hM := hM.addE (r := rV s_c_0.v (cSl 1 fY c.b)) a_c_0
 refine wc_sr ?_
 refine was rfl rfl ?_
 refine wl_sq ?_
 refine wc_sr ?_
 refine wmv rfl rfl ?_
 refine wmv rfl rfl ?_
 refine wv rfl (r_nilck rfl) ?_
 refine wv rfl (r_fld Tryz.underlying78 rfl rfl sz3 rfl) ?_
 refine wv rfl (r_ldB Tryz.underlying3 rfl rfl hM (.head _) rfl) ?_
 refine wv rfl (r_mulw rfl rfl) ?_
 refine wv rfl (r_addw rfl rfl) ?_
 refine wv rfl (r_nilck rfl) ?_
 refine wv rfl (r_fld Tryz.underlying78 rfl rfl sz3 rfl) ?_
 refine w_exu (x_stB #[s_c_0.v, (.int .i64 c.i), (.int .i64 (iw ((iw (c.h * 6364136223846793005)) + 1442695040888963407)))] sz3 rfl rfl rfl rfl rfl rfl hM ?_); intro w86 hM
 refine wl_sq ?_
 refine wc_seq ?_
 refine wc_draw [(0, 0), (1, 0), (2, 0), (3, 0), (4, 0), (5, 0), (6, 0), (7, 0), (8, 0), (9, 0), (10, 0), (11, 0), (12, 0)] Tryz_mixed (by kernel_rfl) rfl (by kernel_rfl) rfl ?_
 refine omv rfl rfl ?_
 refine ov rfl (fun w' h' => r_nilck rfl) ?_
 refine ov rfl (fun w' h' => r_fld Tryz.underlying78 rfl rfl sz3 rfl) ?_
 refine ov rfl (fun w' h' => r_ldB Tryz.underlying3 rfl rfl (hM.call h') (.head _) rfl) ?_
 obtain ⟨hg93, hx⟩ := xg_some hx
 refine ov rfl (fun w' h' => r_shr rfl rfl hg93) ?_
 refine omv rfl rfl ?_
 refine ov rfl (fun w' h' => r_nilck rfl) ?_
 refine ov rfl (fun w' h' => r_fld Tryz.underlying78 rfl rfl sz3 rfl) ?_
 refine ov rfl (fun w' h' => r_ldB Tryz.underlying3 rfl rfl (hM.call h') (.head _) rfl) ?_
 obtain ⟨hg99, hx⟩ := xg_some hx
 refine ov rfl (fun w' h' => r_shr rfl rfl hg99) ?_
 refine ov rfl (fun w' h' => r_xor rfl rfl) ?_
 refine ov rfl (fun w' h' => r_and rfl rfl) ?_
 refine ov rfl (fun w' h' => r_assign rfl) ?_
 refine o_nilM hM fun w103 hM => ?_
 refine sq_n ?_
 refine wc_seq ?_
 refine wc_seq ?_
 refine wc_draw [(0, 0), (1, 0), (2, 0), (3, 0), (4, 0), (5, 0), (6, 0), (7, 0), (8, 0), (9, 0)] Tryz_mixed (by kernel_rfl) rfl (by kernel_rfl) rfl ?_
 refine omv rfl rfl ?_
 refine ov rfl (fun w' h' => r_nilck rfl) ?_
 refine ov rfl (fun w' h' => r_fld Tryz.underlying78 rfl rfl sz3 rfl) ?_
 refine ov rfl (fun w' h' => r_ldB Tryz.underlying3 rfl rfl (hM.call h') (.head _) rfl) ?_
 refine omv rfl rfl ?_
 refine ov rfl (fun w' h' => r_nilck rfl) ?_
 refine ov rfl (fun w' h' => r_fld Tryz.underlying78 rfl rfl sz22 rfl) ?_
 refine ov rfl (fun w' h' => r_ldB Tryz.underlying22 rfl rfl (hM.call h') (.head _) rfl) ?_
 refine ov rfl (fun w' h' => r_lenC Tryz.underlying22 rfl ((hM.call h').seeR (.head _))) ?_
 refine ov rfl (fun w' h' => r_lss rfl rfl) ?_
 refine o_nilM hM fun w115 hM => ?_
 refine sq_n ?_
 refine wc_cond rfl (fun hc117 => ?_) (fun hc117 => ?_)
 ·
  replace hx := xif_t hc117 hx
  refine wc_seq ?_
  refine wc_draw [(0, 0), (1, 0), (2, 0), (3, 0), (4, 0), (5, 0), (6, 0), (7, 0), (8, 0), (9, 0), (10, 0), (11, 0), (12, 0), (13, 0), (14, 0)] Tryz_mixed (by kernel_rfl) rfl (by kernel_rfl) rfl ?_
  refine omv rfl rfl ?_
  refine omv rfl rfl ?_
  refine ov rfl (fun w' h' => r_nilck rfl) ?_
  refine ov rfl (fun w' h' => r_fld Tryz.underlying78 rfl rfl sz22 rfl) ?_
  refine ov rfl (fun w' h' => r_ldB Tryz.underlying22 rfl rfl (hM.call h') (.head _) rfl) ?_
  refine omv rfl rfl ?_
  refine ov rfl (fun w' h' => r_nilck rfl) ?_
  refine ov rfl (fun w' h' => r_fld Tryz.underlying78 rfl rfl sz3 rfl) ?_
  refine ov rfl (fun w' h' => r_ldB Tryz.underlying3 rfl rfl (hM.call h') (.head _) rfl) ?_
  obtain ⟨hg129, hx⟩ := xg_some hx
  have hi128 : c.i.toNat < c.b.length := by omega
  refine ov rfl (fun w' h' => r_ixC Tryz.underlying22 sz5 rfl rfl ((hM.call h').seeR (.head _)) hg129) ?_
  refine ov rfl (fun w' h' => r_ld Tryz.underlying5 rfl rfl (Cs.get (i := c.i.toNat) (j := 0) ((hM.call h').seeR (.head _)) (fun _ => rfl) hi128 rfl)) ?_
  refine ov rfl (fun w' h' => r_cvt Tryz.underlying5 Tryz.underlying3 rfl (u8_cvt _)) ?_
  refine ov rfl (fun w' h' => r_addw rfl rfl) ?_
  refine ov rfl (fun w' h' => r_and rfl rfl) ?_
  refine ov rfl (fun w' h' => r_assign rfl) ?_
  refine o_nilM hM fun w135 hM => ?_
  refine sq_n ?_
  refine wc_region ?_
  refine wmv rfl rfl ?_
  refine wmv rfl rfl ?_
  refine wv rfl (r_nilck rfl) ?_
  refine wv rfl (r_fld Tryz.underlying78 rfl rfl sz3 rfl) ?_
  refine wv rfl (r_ldB Tryz.underlying3 rfl rfl hM (.head _) rfl) ?_
  refine wv rfl (r_addw rfl rfl) ?_
  refine wv rfl (r_nilck rfl) ?_
  refine wv rfl (r_fld Tryz.underlying78 rfl rfl sz3 rfl) ?_
  refine w_exu (x_stB #[s_c_0.v, (.int .i64 (iw (c.i + 1))), (.int .i64 (iw ((iw (c.h * 6364136223846793005)) + 1442695040888963407)))] sz3 rfl rfl rfl rfl rfl rfl hM ?_); intro w145 hM
  refine wl_sq ?_
  refine wc_sr ?_
  refine wmv rfl rfl ?_
  refine was rfl rfl ?_
  refine wl_sq ?_
  refine wc_ret ?_
  obtain rfl := Option.some.inj hx
  refine fin_ret [(.int .i64 (bAnd (iw ((bAnd (bXor (bShr (iw ((iw (c.h * 6364136223846793005)) + 1442695040888963407)) 33) (bShr (iw ((iw (c.h * 6364136223846793005)) + 1442695040888963407)) 45)) 255) + ((el c.b c.i.toNat).toNat : Int))) 255))] ⟨rfl, trivial⟩ ?_
  replace hM := hM.t1
  have hM := hM.fewer (rsC (.head _) rsN)
  exact ⟨s_c_0, rfl, hM.gives⟩
 ·
  replace hx := xif_f hc117 hx
  refine wc_skip ?_
  refine sq_n ?_
  refine wc_sr ?_
  refine wmv rfl rfl ?_
  refine was rfl rfl ?_
  refine wl_sq ?_
  refine wc_ret ?_
  obtain rfl := Option.some.inj hx
  refine fin_ret [(.int .i64 (bAnd (bXor (bShr (iw ((iw (c.h * 6364136223846793005)) + 1442695040888963407)) 33) (bShr (iw ((iw (c.h * 6364136223846793005)) + 1442695040888963407)) 45)) 255))] ⟨rfl, trivial⟩ ?_
  replace hM := hM.t1
  have hM := hM.fewer (rsC (.head _) rsN)
  exact ⟨s_c_0, rfl, hM.gives⟩

noncomputable def x_spec_l01Below (c : DL01Cur) (n : Int) : Option (Int × DL01Cur) :=
  bif decide (n ≤ 0) then (some (0, c)) else (bif decide (n ≤ 256) then (Option.bind (x_spec_l01Byte c) fun r9 => xg (0 ≤ r9.1 ∧ 0 < n) <| some (r9.1 % n, r9.2)) else (Option.bind (x_spec_l01Byte c) fun r18 => Option.bind (x_spec_l01Byte r18.2) fun r24 => Option.bind (x_spec_l01Byte r24.2) fun r30 => Option.bind (x_spec_l01Byte r30.2) fun r36 => xg (inI (r18.1 * 16777216)) <| xg (inI (r24.1 * 65536)) <| xg (inI ((r18.1 * 16777216) + (r24.1 * 65536))) <| xg (inI (r30.1 * 256)) <| xg (inI (((r18.1 * 16777216) + (r24.1 * 65536)) + (r30.1 * 256))) <| xg (inI ((((r18.1 * 16777216) + (r24.1 * 65536)) + (r30.1 * 256)) + r36.1)) <| xg (0 ≤ ((((r18.1 * 16777216) + (r24.1 * 65536)) + (r30.1 * 256)) + r36.1) ∧ 0 < n) <| some (((((r18.1 * 16777216) + (r24.1 * 65536)) + (r30.1 * 256)) + r36.1) % n, r36.2)))
theorem ct_spec_l01Below (w : World) (X S : Bs) (b_c : Nat) (c : DL01Cur) (s_c_0 : Sv) (n : Int) (hS : ∀ b, S b → b < w.heap.size ∧ ¬ X b) (a_c_0 : (cSl 1 fY c.b).rd S w s_c_0.v) (oL : Sep [oBox b_c #[s_c_0.v, (.int .i64 c.i), (.int .i64 c.h)] 78] X w) {r : Int × DL01Cur} (hx : x_spec_l01Below c n = some r) :
  Ret Tryz.prog 41 [(.pointer (some ⟨b_c, 0, none⟩)), (.int .i64 n)] w (fun u w' => ∃ y : Sv, u = (.int .i64 r.1) ∧ Gives X S w [oBox b_c #[y.v, (.int .i64 r.2.i), (.int .i64 r.2.h)] 78] [rV y.v (cSl 1 fY r.2.b)] w') := by
 unfold x_spec_l01Below at hx
 refine enter Tryz.func41 rfl Tryz.ntmps41 (by kernel_rfl) rfl ?_
 have hM := St.enter oL hS
 have hM := hM.addE (r := rV s_c_0.v (cSl 1 fY c.b)) a_c_0
 refine wc_sr ?_
 refine was rfl rfl ?_
 refine wl_sq ?_
 refine wc_seq ?_
 refine wc_sr ?_
 refine wmv rfl rfl ?_
 refine wv rfl (r_leq rfl rfl) ?_
 refine wl_sq ?_
 refine wc_cond rfl (fun hc64 => ?_) (fun hc64 => ?_)
 ·
  replace hx := xif_t hc64 hx
  refine wc_sr ?_
  refine was rfl rfl ?_
  refine wl_sq ?_
  refine wc_ret ?_
  refine sq_ret ?_
  obtain rfl := Option.some.inj hx
  refine fin_ret [(.int .i64 0)] ⟨rfl, trivial⟩ ?_
  replace hM := hM.t1
  have hM := hM.fewer (rsC (.head _) rsN)
  exact ⟨s_c_0, rfl, hM.gives⟩
 ·
  replace hx := xif_f hc64 hx
  refine wc_skip ?_
  refine sq_n ?_
  refine wc_seq ?_
  refine wc_sr ?_
  refine wmv rfl rfl ?_
  refine wv rfl (r_leq rfl rfl) ?_
  refine wl_sq ?_
  refine wc_cond rfl (fun hc68 => ?_) (fun hc68 => ?_)
  ·
   replace hx := xif_t hc68 hx
   refine wc_sr ?_
   refine wmv rfl rfl ?_
   obtain ⟨r70, h71, hx⟩ := bind_some' hx
   refine w_call rfl rfl (hM.callR (l := [oBox b_c #[s_c_0.v, (.int .i64 c.i), (.int .i64 c.h)] 78]) fun X S oL hS hR => ct_spec_l01Byte _ X S b_c c s_c_0 hS (hR _ (.head _)) oL h71) ?_
   rintro _ w72 ⟨s73, rfl, hM⟩
   dsimp only [List.cons_append, List.nil_append] at hM
   refine wmv rfl rfl ?_
   obtain ⟨hg76, hx⟩ := xg_some hx
   refine wv rfl (r_rem rfl rfl hg76) ?_
   refine was rfl rfl ?_
   refine wl_sq ?_
   refine wc_ret ?_
   refine sq_ret ?_
   obtain rfl := Option.some.inj hx
   refine fin_ret [(.int .i64 (r70.1 % n))] ⟨rfl, trivial⟩ ?_
   replace hM := hM.t1
   have hM := hM.fewer (rsC (.head _) rsN)
   exact ⟨s73, rfl, hM.gives⟩
  ·
   replace hx := xif_f hc68 hx
   refine wc_skip ?_
   refine sq_n ?_
   refine wc_sr ?_
   refine wmv rfl rfl ?_
   obtain ⟨r79, h80, hx⟩ := bind_some' hx
   refine w_call rfl rfl (hM.callR (l := [oBox b_c #[s_c_0.v, (.int .i64 c.i), (.int .i64 c.h)] 78]) fun X S oL hS hR => ct_spec_l01Byte _ X S b_c c s_c_0 hS (hR _ (.head _)) oL h80) ?_
   rintro _ w81 ⟨s82, rfl, hM⟩
   dsimp only [List.cons_append, List.nil_append] at hM
   refine was rfl rfl ?_
   refine wl_sq ?_
   refine wc_sr ?_
   refine wmv rfl rfl ?_
   obtain ⟨r85, h86, hx⟩ := bind_some' hx
   refine w_call rfl rfl (hM.callR (l := [oBox b_c #[s82.v, (.int .i64 r79.2.i), (.int .i64 r79.2.h)] 78]) fun X S oL hS hR => ct_spec_l01Byte _ X S b_c r79.2 s82 hS (hR _ (.head _)) oL h86) ?_
   rintro _ w87 ⟨s88, rfl, hM⟩
   dsimp only [List.cons_append, List.nil_append] at hM
   refine was rfl rfl ?_
   refine wl_sq ?_
   refine wc_sr ?_
   refine wmv rfl rfl ?_
   obtain ⟨r91, h92, hx⟩ := bind_some' hx
   refine w_call rfl rfl (hM.callR (l := [oBox b_c #[s88.v, (.int .i64 r85.2.i), (.int .i64 r85.2.h)] 78]) fun X S oL hS hR => ct_spec_l01Byte _ X S b_c r85.2 s88 hS (hR _ (.head _)) oL h92) ?_
   rintro _ w93 ⟨s94, rfl, hM⟩
   dsimp only [List.cons_append, List.nil_append] at hM
   refine was rfl rfl ?_
   refine wl_sq ?_
   refine wc_sr ?_
   refine wmv rfl rfl ?_
   obtain ⟨r97, h98, hx⟩ := bind_some' hx
   refine w_call rfl rfl (hM.callR (l := [oBox b_c #[s94.v, (.int .i64 r91.2.i), (.int .i64 r91.2.h)] 78]) fun X S oL hS hR => ct_spec_l01Byte _ X S b_c r91.2 s94 hS (hR _ (.head _)) oL h98) ?_
   rintro _ w99 ⟨s100, rfl, hM⟩
   dsimp only [List.cons_append, List.nil_append] at hM
   refine was rfl rfl ?_
   refine wl_sq ?_
   refine wc_sr ?_
   refine wmv rfl rfl ?_
   obtain ⟨hg104, hx⟩ := xg_some hx
   refine wv rfl (r_mul rfl rfl hg104) ?_
   refine wmv rfl rfl ?_
   obtain ⟨hg107, hx⟩ := xg_some hx
   refine wv rfl (r_mul rfl rfl hg107) ?_
   obtain ⟨hg109, hx⟩ := xg_some hx
   refine wv rfl (r_add rfl rfl hg109) ?_
   refine wmv rfl rfl ?_
   obtain ⟨hg112, hx⟩ := xg_some hx
   refine wv rfl (r_mul rfl rfl hg112) ?_
   obtain ⟨hg114, hx⟩ := xg_some hx
   refine wv rfl (r_add rfl rfl hg114) ?_
   refine wmv rfl rfl ?_
   obtain ⟨hg117, hx⟩ := xg_some hx
   refine wv rfl (r_add rfl rfl hg117) ?_
   refine wmv rfl rfl ?_
   obtain ⟨hg120, hx⟩ := xg_some hx
   refine wv rfl (r_rem rfl rfl hg120) ?_
   refine was rfl rfl ?_
   refine wl_sq ?_
   refine wc_ret ?_
   obtain rfl := Option.some.inj hx
   refine fin_ret [(.int .i64 (((((r79.1 * 16777216) + (r85.1 * 65536)) + (r91.1 * 256)) + r97.1) % n))] ⟨rfl, trivial⟩ ?_
   replace hM := hM.t1
   have hM := hM.fewer (rsC (.head _) rsN)
   exact ⟨s100, rfl, hM.gives⟩

noncomputable def x_spec_l01Str (c : DL01Cur) (l : List ByteArray) : Option (ByteArray × DL01Cur) :=
  Option.bind (x_spec_l01Below c (l.length : Int)) fun r7 => xg (0 ≤ r7.1 ∧ r7.1 < (l.length : Int)) <| some (el l r7.1.toNat, r7.2)
theorem ct_spec_l01Str (w : World) (X S : Bs) (b_c : Nat) (c : DL01Cur) (s_c_0 : Sv) (l : List ByteArray) (s_l : Sv) (hS : ∀ b, S b → b < w.heap.size ∧ ¬ X b) (a_c_0 : (cSl 1 fY c.b).rd S w s_c_0.v) (a_l_0 : (cSl 1 fT l).rd S w s_l.v) (oL : Sep [oBox b_c #[s_c_0.v, (.int .i64 c.i), (.int .i64 c.h)] 78] X w) {r : ByteArray × DL01Cur} (hx : x_spec_l01Str c l = some r) :
  Ret Tryz.prog 63 [(.pointer (some ⟨b_c, 0, none⟩)), s_l.v] w (fun u w' => ∃ y : Sv, u = (.string r.1) ∧ Gives X S w [oBox b_c #[y.v, (.int .i64 r.2.i), (.int .i64 r.2.h)] 78] [rV y.v (cSl 1 fY r.2.b)] w') := by
 unfold x_spec_l01Str at hx
 refine enter Tryz.func63 rfl Tryz.ntmps63 (by kernel_rfl) rfl ?_
 have hM := St.enter oL hS
 have hM := hM.addE (r := rV s_c_0.v (cSl 1 fY c.b)) a_c_0
 have hM := hM.addE (r := rV s_l.v (cSl 1 fT l)) a_l_0
 refine wc_sr ?_
 refine was rfl rfl ?_
 refine wl_sq ?_
 refine wc_sr ?_
 refine wmv rfl rfl ?_
 refine wmv rfl rfl ?_
 refine wmv rfl rfl ?_
 refine wv rfl (r_lenC Tryz.underlying107 rfl (hM.seeR (.head _))) ?_
 obtain ⟨r21, h22, hx⟩ := bind_some' hx
 refine w_call rfl rfl (hM.callR (l := [oBox b_c #[s_c_0.v, (.int .i64 c.i), (.int .i64 c.h)] 78]) fun X S oL hS hR => ct_spec_l01Below _ X S b_c c s_c_0 (l.length : Int) hS (hR _ (.tail _ (.head _))) oL h22) ?_
 rintro _ w23 ⟨s24, rfl, hM⟩
 dsimp only [List.cons_append, List.nil_append] at hM
 obtain ⟨hg27, hx⟩ := xg_some hx
 have hi26 : r21.1.toNat < l.length := by omega
 refine wv rfl (r_ixC Tryz.underlying107 sz9 rfl rfl (hM.seeR (.tail _ (.head _))) hg27) ?_
 refine wv rfl (r_ld Tryz.underlying9 rfl rfl (Cs.get (i := r21.1.toNat) (j := 0) (hM.seeR (.tail _ (.head _))) (fun _ => rfl) hi26 rfl)) ?_
 refine was rfl rfl ?_
 refine wl_sq ?_
 refine wc_ret ?_
 obtain rfl := Option.some.inj hx
 refine fin_ret [(.string (el l r21.1.toNat))] ⟨rfl, trivial⟩ ?_
 replace hM := hM.t1
 have hM := hM.fewer (rsC (.head _) rsN)
 exact ⟨s24, rfl, hM.gives⟩

noncomputable def x_spec_l08Name (c : DL01Cur) : Option (ByteArray × DL01Cur) :=
  Option.bind (x_spec_l01Str c [(⟨#[97]⟩ : ByteArray), (⟨#[98]⟩ : ByteArray), (⟨#[110, 111, 116, 101, 115]⟩ : ByteArray), (⟨#[116, 111, 100, 111]⟩ : ByteArray)]) fun r8 => some (r8.1, r8.2)
theorem ct_spec_l08Name (w : World) (X S : Bs) (b_c : Nat) (c : DL01Cur) (s_c_0 : Sv) (hS : ∀ b, S b → b < w.heap.size ∧ ¬ X b) (a_c_0 : (cSl 1 fY c.b).rd S w s_c_0.v) (oL : Sep [oBox b_c #[s_c_0.v, (.int .i64 c.i), (.int .i64 c.h)] 78] X w) {r : ByteArray × DL01Cur} (hx : x_spec_l08Name c = some r) :
  Ret Tryz.prog 29 [(.pointer (some ⟨b_c, 0, none⟩))] w (fun u w' => ∃ y : Sv, u = (.string r.1) ∧ Gives X S w [oBox b_c #[y.v, (.int .i64 r.2.i), (.int .i64 r.2.h)] 78] [rV y.v (cSl 1 fY r.2.b)] w') := by
 unfold x_spec_l08Name at hx
 refine enter Tryz.func29 rfl Tryz.ntmps29 (by kernel_rfl) rfl ?_
 have hM := St.enter oL hS
 have hM := hM.addE (r := rV s_c_0.v (cSl 1 fY c.b)) a_c_0
 refine wc_sr ?_
 refine was rfl rfl ?_
 refine wl_sq ?_
 refine wc_sr ?_
 refine wmv rfl rfl ?_
 refine w_ex rfl (x_lit (f := fT) (own := []) [(⟨#[97]⟩ : ByteArray), (⟨#[98]⟩ : ByteArray), (⟨#[110, 111, 116, 101, 115]⟩ : ByteArray), (⟨#[116, 111, 100, 111]⟩ : ByteArray)] [(.string (⟨#[97]⟩ : ByteArray)), (.string (⟨#[98]⟩ : ByteArray)), (.string (⟨#[110, 111, 116, 101, 115]⟩ : ByteArray)), (.string (⟨#[116, 111, 100, 111]⟩ : ByteArray))] 4 Tryz.underlying107 sz9 (fun _ => rfl) rfl rfl rfl rfl rfl (by kernel_rfl) (fun _ => zP (pV _ rfl) (zP (pV _ rfl) (zP (pV _ rfl) (zP (pV _ rfl) zN)))) hM ?_); intro s16 w15 hR17 hM
 have hM := hM.selO
 obtain ⟨r19, h20, hx⟩ := bind_some' hx
 refine w_call rfl rfl (hM.callR (l := [oBox b_c #[s_c_0.v, (.int .i64 c.i), (.int .i64 c.h)] 78]) fun X S oL hS hR => ct_spec_l01Str _ X S b_c c s_c_0 [(⟨#[97]⟩ : ByteArray), (⟨#[98]⟩ : ByteArray), (⟨#[110, 111, 116, 101, 115]⟩ : ByteArray), (⟨#[116, 111, 100, 111]⟩ : ByteArray)] s16 hS (hR _ (.tail _ (.head _))) (hR _ (.head _)) oL h20) ?_
 rintro _ w21 ⟨s22, rfl, hM⟩
 dsimp only [List.cons_append, List.nil_append] at hM
 refine was rfl rfl ?_
 refine wl_sq ?_
 refine wc_ret ?_
 obtain rfl := Option.some.inj hx
 refine fin_ret [(.string r19.1)] ⟨rfl, trivial⟩ ?_
 replace hM := hM.t1
 have hM := hM.fewer (rsC (.head _) rsN)
 exact ⟨s22, rfl, hM.gives⟩

noncomputable def x_spec_l01Once (c : DL01Cur) (n : Int) : Option (Bool × DL01Cur) :=
  Option.bind (x_spec_l01Below c n) fun r5 => some (decide (r5.1 = 0), r5.2)
theorem ct_spec_l01Once (w : World) (X S : Bs) (b_c : Nat) (c : DL01Cur) (s_c_0 : Sv) (n : Int) (hS : ∀ b, S b → b < w.heap.size ∧ ¬ X b) (a_c_0 : (cSl 1 fY c.b).rd S w s_c_0.v) (oL : Sep [oBox b_c #[s_c_0.v, (.int .i64 c.i), (.int .i64 c.h)] 78] X w) {r : Bool × DL01Cur} (hx : x_spec_l01Once c n = some r) :
  Ret Tryz.prog 74 [(.pointer (some ⟨b_c, 0, none⟩)), (.int .i64 n)] w (fun u w' => ∃ y : Sv, u = (.bool r.1) ∧ Gives X S w [oBox b_c #[y.v, (.int .i64 r.2.i), (.int .i64 r.2.h)] 78] [rV y.v (cSl 1 fY r.2.b)] w') := by
 unfold x_spec_l01Once at hx
 refine enter Tryz.func74 rfl Tryz.ntmps74 (by kernel_rfl) rfl ?_
 have hM := St.enter oL hS
 have hM := hM.addE (r := rV s_c_0.v (cSl 1 fY c.b)) a_c_0
 refine wc_sr ?_
 refine was rfl rfl ?_
 refine wl_sq ?_
 refine wc_sr ?_
 refine wmv rfl rfl ?_
 refine wmv rfl rfl ?_
 obtain ⟨r14, h15, hx⟩ := bind_some' hx
 refine w_call rfl rfl (hM.callR (l := [oBox b_c #[s_c_0.v, (.int .i64 c.i), (.int .i64 c.h)] 78]) fun X S oL hS hR => ct_spec_l01Below _ X S b_c c s_c_0 n hS (hR _ (.head _)) oL h15) ?_
 rintro _ w16 ⟨s17, rfl, hM⟩
 dsimp only [List.cons_append, List.nil_append] at hM
 refine wv rfl (r_eql rfl rfl) ?_
 refine was rfl rfl ?_
 refine wl_sq ?_
 refine wc_ret ?_
 obtain rfl := Option.some.inj hx
 refine fin_ret [(.bool (decide (r14.1 = 0)))] ⟨rfl, trivial⟩ ?_
 replace hM := hM.t1
 have hM := hM.fewer (rsC (.head _) rsN)
 exact ⟨s17, rfl, hM.gives⟩

noncomputable def x_spec_l01Pick (c : DL01Cur) (l : List Int) : Option (Int × DL01Cur) :=
  Option.bind (x_spec_l01Below c (l.length : Int)) fun r7 => xg (0 ≤ r7.1 ∧ r7.1 < (l.length : Int)) <| some (el l r7.1.toNat, r7.2)
theorem ct_spec_l01Pick (w : World) (X S : Bs) (b_c : Nat) (c : DL01Cur) (s_c_0 : Sv) (l : List Int) (s_l : Sv) (hS : ∀ b, S b → b < w.heap.size ∧ ¬ X b) (a_c_0 : (cSl 1 fY c.b).rd S w s_c_0.v) (a_l_0 : (cSl 1 fI l).rd S w s_l.v) (oL : Sep [oBox b_c #[s_c_0.v, (.int .i64 c.i), (.int .i64 c.h)] 78] X w) {r : Int × DL01Cur} (hx : x_spec_l01Pick c l = some r) :
  Ret Tryz.prog 90 [(.pointer (some ⟨b_c, 0, none⟩)), s_l.v] w (fun u w' => ∃ y : Sv, u = (.int .i64 r.1) ∧ Gives X S w [oBox b_c #[y.v, (.int .i64 r.2.i), (.int .i64 r.2.h)] 78] [rV y.v (cSl 1 fY r.2.b)] w') := by
 unfold x_spec_l01Pick at hx
 refine enter Tryz.func90 rfl Tryz.ntmps90 (by kernel_rfl) rfl ?_
 have hM := St.enter oL hS
 have hM := hM.addE (r := rV s_c_0.v (cSl 1 fY c.b)) a_c_0
 have hM := hM.addE (r := rV s_l.v (cSl 1 fI l)) a_l_0
 refine wc_sr ?_
 refine was rfl rfl ?_
 refine wl_sq ?_
 refine wc_sr ?_
 refine wmv rfl rfl ?_
 refine wmv rfl rfl ?_
 refine wmv rfl rfl ?_
 refine wv rfl (r_lenC Tryz.underlying23 rfl (hM.seeR (.head _))) ?_
 obtain ⟨r21, h22, hx⟩ := bind_some' hx
 refine w_call rfl rfl (hM.callR (l := [oBox b_c #[s_c_0.v, (.int .i64 c.i), (.int .i64 c.h)] 78]) fun X S oL hS hR => ct_spec_l01Below _ X S b_c c s_c_0 (l.length : Int) hS (hR _ (.tail _ (.head _))) oL h22) ?_
 rintro _ w23 ⟨s24, rfl, hM⟩
 dsimp only [List.cons_append, List.nil_append] at hM
 obtain ⟨hg27, hx⟩ := xg_some hx
 have hi26 : r21.1.toNat < l.length := by omega
 refine wv rfl (r_ixC Tryz.underlying23 sz3 rfl rfl (hM.seeR (.tail _ (.head _))) hg27) ?_
 refine wv rfl (r_ld Tryz.underlying3 rfl rfl (Cs.get (i := r21.1.toNat) (j := 0) (hM.seeR (.tail _ (.head _))) (fun _ => rfl) hi26 rfl)) ?_
 refine was rfl rfl ?_
 refine wl_sq ?_
 refine wc_ret ?_
 obtain rfl := Option.some.inj hx
 refine fin_ret [(.int .i64 (el l r21.1.toNat))] ⟨rfl, trivial⟩ ?_
 replace hM := hM.t1
 have hM := hM.fewer (rsC (.head _) rsN)
 exact ⟨s24, rfl, hM.gives⟩

noncomputable def x_spec_l01Sign (c : DL01Cur) : Option (Int × DL01Cur) :=
  Option.bind (x_spec_l01Once c 8) fun r4 => bif r4.1 then (Option.bind (x_spec_l01Pick r4.2 [0, 127, 128, 2047, 2048, 55295, 57344, 65535, 65536, 1114111, 10, 32]) fun r13 => some (r13.1, r13.2)) else (Option.bind (x_spec_l01Below r4.2 6) fun r19 => xg (inI (97 + r19.1)) <| some (97 + r19.1, r19.2))
theorem ct_spec_l01Sign (w : World) (X S : Bs) (b_c : Nat) (c : DL01Cur) (s_c_0 : Sv) (hS : ∀ b, S b → b < w.heap.size ∧ ¬ X b) (a_c_0 : (cSl 1 fY c.b).rd S w s_c_0.v) (oL : Sep [oBox b_c #[s_c_0.v, (.int .i64 c.i), (.int .i64 c.h)] 78] X w) {r : Int × DL01Cur} (hx : x_spec_l01Sign c = some r) :
  Ret Tryz.prog 78 [(.pointer (some ⟨b_c, 0, none⟩))] w (fun u w' => ∃ y : Sv, u = (.int .i64 r.1) ∧ Gives X S w [oBox b_c #[y.v, (.int .i64 r.2.i), (.int .i64 r.2.h)] 78] [rV y.v (cSl 1 fY r.2.b)] w') := by
 unfold x_spec_l01Sign at hx
 refine enter Tryz.func78 rfl Tryz.ntmps78 (by kernel_rfl) rfl ?_
 have hM := St.enter oL hS
 have hM := hM.addE (r := rV s_c_0.v (cSl 1 fY c.b)) a_c_0
 refine wc_sr ?_
 refine was rfl rfl ?_
 refine wl_sq ?_
 refine wc_seq ?_
 refine wc_sr ?_
 refine wmv rfl rfl ?_
 obtain ⟨r28, h29, hx⟩ := bind_some' hx
 refine w_call rfl rfl (hM.callR (l := [oBox b_c #[s_c_0.v, (.int .i64 c.i), (.int .i64 c.h)] 78]) fun X S oL hS hR => ct_spec_l01Once _ X S b_c c s_c_0 (8 : Int) hS (hR _ (.head _)) oL h29) ?_
 rintro _ w30 ⟨s31, rfl, hM⟩
 dsimp only [List.cons_append, List.nil_append] at hM
 refine wl_sq ?_
 refine wc_cond rfl (fun hc32 => ?_) (fun hc32 => ?_)
 ·
  replace hx := xif_t hc32 hx
  refine wc_sr ?_
  refine wmv rfl rfl ?_
  refine w_ex rfl (x_lit (f := fI) (own := []) [0, 127, 128, 2047, 2048, 55295, 57344, 65535, 65536, 1114111, 10, 32] [(.int .i64 0), (.int .i64 127), (.int .i64 128), (.int .i64 2047), (.int .i64 2048), (.int .i64 55295), (.int .i64 57344), (.int .i64 65535), (.int .i64 65536), (.int .i64 1114111), (.int .i64 10), (.int .i64 32)] 12 Tryz.underlying23 sz3 (fun _ => rfl) rfl rfl rfl rfl rfl (by kernel_rfl) (fun _ => zP (pV _ rfl) (zP (pV _ rfl) (zP (pV _ rfl) (zP (pV _ rfl) (zP (pV _ rfl) (zP (pV _ rfl) (zP (pV _ rfl) (zP (pV _ rfl) (zP (pV _ rfl) (zP (pV _ rfl) (zP (pV _ rfl) (zP (pV _ rfl) zN)))))))))))) hM ?_); intro s35 w34 hR36 hM
  have hM := hM.selO
  obtain ⟨r38, h39, hx⟩ := bind_some' hx
  refine w_call rfl rfl (hM.callR (l := [oBox b_c #[s31.v, (.int .i64 r28.2.i), (.int .i64 r28.2.h)] 78]) fun X S oL hS hR => ct_spec_l01Pick _ X S b_c r28.2 s31 [0, 127, 128, 2047, 2048, 55295, 57344, 65535, 65536, 1114111, 10, 32] s35 hS (hR _ (.tail _ (.head _))) (hR _ (.head _)) oL h39) ?_
  rintro _ w40 ⟨s41, rfl, hM⟩
  dsimp only [List.cons_append, List.nil_append] at hM
  refine was rfl rfl ?_
  refine wl_sq ?_
  refine wc_ret ?_
  refine sq_ret ?_
  obtain rfl := Option.some.inj hx
  refine fin_ret [(.int .i64 r38.1)] ⟨rfl, trivial⟩ ?_
  replace hM := hM.t1
  have hM := hM.fewer (rsC (.head _) rsN)
  exact ⟨s41, rfl, hM.gives⟩
 ·
  replace hx := xif_f hc32 hx
  refine wc_skip ?_
  refine sq_n ?_
  refine wc_sr ?_
  refine wmv rfl rfl ?_
  obtain ⟨r44, h45, hx⟩ := bind_some' hx
  refine w_call rfl rfl (hM.callR (l := [oBox b_c #[s31.v, (.int .i64 r28.2.i), (.int .i64 r28.2.h)] 78]) fun X S oL hS hR => ct_spec_l01Below _ X S b_c r28.2 s31 (6 : Int) hS (hR _ (.head _)) oL h45) ?_
  rintro _ w46 ⟨s47, rfl, hM⟩
  dsimp only [List.cons_append, List.nil_append] at hM
  obtain ⟨hg49, hx⟩ := xg_some hx
  refine wv rfl (r_add rfl rfl hg49) ?_
  refine was rfl rfl ?_
  refine wl_sq ?_
  refine wc_ret ?_
  obtain rfl := Option.some.inj hx
  refine fin_ret [(.int .i64 (97 + r44.1))] ⟨rfl, trivial⟩ ?_
  replace hM := hM.t1
  have hM := hM.fewer (rsC (.head _) rsN)
  exact ⟨s47, rfl, hM.gives⟩

noncomputable def x_spec_l01Signs_b0 (l38 : List Int) (n39 : Int) (l40 : List UInt8) (n41 : Int) (n42 : Int) : Option (Lr (List Int × Int × List UInt8 × Int × Int) (List Int × List UInt8 × Int × Int)) :=
  bif decide ((0 : Int) < n39) then (Option.bind (x_spec_l01Sign (⟨l40, n41, n42⟩ : DL01Cur)) fun r67 => xg (l38.length < 1099511627776) <| xg (inI (n39 - 1)) <| some (Lr.go (l38 ++ [r67.1], n39 - 1, r67.2.b, r67.2.i, r67.2.h))) else (some (Lr.out (l38, l40, n41, n42)))
noncomputable def x_spec_l01Signs_f0 (s80 : List Int × Int × List UInt8 × Int × Int) : Option (Lr (List Int × Int × List UInt8 × Int × Int) (List Int × List UInt8 × Int × Int)) := x_spec_l01Signs_b0 s80.1 s80.2.1 s80.2.2.1 s80.2.2.2.1 s80.2.2.2.2
noncomputable def x_spec_l01Signs (c : DL01Cur) (most : Int) : Option (List Int × DL01Cur) :=
  xg (inI (most + 1)) <| Option.bind (x_spec_l01Below c (most + 1)) fun r12 => Option.bind (iter (x_spec_l01Signs_f0) ([], r12.1, r12.2.b, r12.2.i, r12.2.h)) fun (y81 : List Int × List UInt8 × Int × Int) => some (y81.1, (⟨y81.2.1, y81.2.2.1, y81.2.2.2⟩ : DL01Cur))
theorem ct_spec_l01Signs (w : World) (X S : Bs) (b_c : Nat) (c : DL01Cur) (s_c_0 : Sv) (most : Int) (hS : ∀ b, S b → b < w.heap.size ∧ ¬ X b) (a_c_0 : (cSl 1 fY c.b).rd S w s_c_0.v) (oL : Sep [oBox b_c #[s_c_0.v, (.int .i64 c.i), (.int .i64 c.h)] 78] X w) {r : List Int × DL01Cur} (hx : x_spec_l01Signs c most = some r) :
  Ret Tryz.prog 58 [(.pointer (some ⟨b_c, 0, none⟩)), (.int .i64 most)] w (fun u w' => ∃ y : Sv × Sv, u = y.1.v ∧ Gives X S w [oC (cSl 1 fI r.1) y.1.v, oBox b_c #[y.2.v, (.int .i64 r.2.i), (.int .i64 r.2.h)] 78] [rV y.2.v (cSl 1 fY r.2.b)] w') := by
 unfold x_spec_l01Signs at hx
 refine enter Tryz.func58 rfl Tryz.ntmps58 (by kernel_rfl) rfl ?_
 have hM := St.enter oL hS
 have hM := hM.addE (r := rV s_c_0.v (cSl 1 fY c.b)) a_c_0
 refine wc_sr ?_
 refine was rfl rfl ?_
 refine wl_sq ?_
 refine wc_sr ?_
 refine w_ex rfl (x_empty (f := fI) Tryz.underlying23 sz3 (fun _ => rfl) hM ?_); intro s89 w88 hR90 hM
 refine was rfl rfl ?_
 refine wl_sq ?_
 refine wc_seq ?_
 refine wc_sr ?_
 refine wmv rfl rfl ?_
 refine wmv rfl rfl ?_
 obtain ⟨hg96, hx⟩ := xg_some hx
 refine wv rfl (r_add rfl rfl hg96) ?_
 replace hM := hM.p1
 obtain ⟨r97, h98, hx⟩ := bind_some' hx
 refine w_call rfl rfl (hM.callR (l := [oBox b_c #[s_c_0.v, (.int .i64 c.i), (.int .i64 c.h)] 78]) fun X S oL hS hR => ct_spec_l01Below _ X S b_c c s_c_0 (most + 1) hS (hR _ (.head _)) oL h98) ?_
 rintro _ w99 ⟨s100, rfl, hM⟩
 dsimp only [List.cons_append, List.nil_append] at hM
 refine was rfl rfl ?_
 refine wl_sq ?_
 refine wc_block ?_
 obtain ⟨y102, hx, hx103⟩ := bind_some' hx
 have hM := hM.fewer (rsC (.head _) rsN)
 replace hM : St ⟨w, X, S⟩ [oBox b_c #[s100.v, (.int .i64 r97.2.i), (.int .i64 r97.2.h)] 78, oC (cSl 1 fI ([] : List Int)) s89.v] [rV s100.v (cSl 1 fY r97.2.b)] _ := hM
 obtain ⟨m114, hx⟩ := iter_run hx
 refine wc_loop (un fun (m112 : Nat) => un fun (l104 : List Int) => un fun (n105 : Int) => un fun (l106 : List UInt8) => un fun (n107 : Int) => un fun (n108 : Int) => un fun (s110 : Sv) => fun (s111 : Sv) => [(0, (.pointer (some ⟨b_c, 0, none⟩))), (5, s110.v), (6, (.int .i64 n105))]) (un fun (m112 : Nat) => un fun (l104 : List Int) => un fun (n105 : Int) => un fun (l106 : List UInt8) => un fun (n107 : Int) => un fun (n108 : Int) => un fun (s110 : Sv) => fun (s111 : Sv) w' => St ⟨w, X, S⟩ [oBox b_c #[s111.v, (.int .i64 n107), (.int .i64 n108)] 78, oC (cSl 1 fI l104) s110.v] [rV s111.v (cSl 1 fY l106)] w' ∧ iterN _ m112 (l104, n105, l106, n107, n108) = some y102) (fun p => p.1) (m114, [], r97.1, r97.2.b, r97.2.i, r97.2.h, s89, s100) ⟨rfl, rfl, rfl, trivial⟩ ⟨hM, hx⟩ ?_
 rintro ⟨m112, l104, n105, l106, n107, n108, s110, s111⟩ w115 ⟨hM, hx⟩
 obtain ⟨m116, z117, rfl, hx, hx118⟩ := iterN_step hx
 unfold x_spec_l01Signs_f0 x_spec_l01Signs_b0 at hx
 try dsimp only at hx
 refine wc_seq ?_
 refine wc_sr ?_
 refine wmv rfl rfl ?_
 refine wv rfl (r_gtr rfl rfl) ?_
 refine wl_sq ?_
 refine wc_cond rfl (fun hc121 => ?_) (fun hc121 => ?_)
 ·
  replace hx := xif_t hc121 hx
  refine wc_skip ?_
  refine sq_n ?_
  refine wc_seq ?_
  refine wc_block ?_
  refine wc_region ?_
  refine wmv rfl rfl ?_
  refine wmv rfl rfl ?_
  obtain ⟨r124, h125, hx⟩ := bind_some' hx
  refine w_call rfl rfl (hM.callR (l := [oBox b_c #[s111.v, (.int .i64 n107), (.int .i64 n108)] 78]) fun X S oL hS hR => ct_spec_l01Sign _ X S b_c (⟨l106, n107, n108⟩ : DL01Cur) s111 hS (hR _ (.head _)) oL h125) ?_
  rintro _ w126 ⟨s127, rfl, hM⟩
  dsimp only [List.cons_append, List.nil_append] at hM
  replace hM := hM.p1
  obtain ⟨hg131, hx⟩ := xg_some hx
  refine w_push (f := fI) r124.1 rfl rfl Tryz.underlying23 sz3 rfl rfl rfl rfl (fun _ => rfl) hM (fun _ => zP (pV _ rfl) zN) rfl hg131 rfl ?_; intro u129 s130 w128 hM
  refine was rfl rfl ?_
  refine wl_nil ?_
  refine bk_n ?_
  refine sq_n ?_
  refine wc_region ?_
  refine wmv rfl rfl ?_
  obtain ⟨hg135, hx⟩ := xg_some hx
  refine wv rfl (r_sub rfl rfl hg135) ?_
  refine was rfl rfl ?_
  refine wl_nil ?_
  obtain rfl := Option.some.inj hx
  replace hM := hM.p1
  have hM := hM.fewer (rsC (.head _) rsN)
  replace hM : St ⟨w, X, S⟩ [oBox b_c #[s127.v, (.int .i64 r124.2.i), (.int .i64 r124.2.h)] 78, oC (cSl 1 fI (l104 ++ [r124.1])) s130.v] [rV s127.v (cSl 1 fY r124.2.b)] _ := hM
  exact lp_end (m116, l104 ++ [r124.1], n105 - 1, r124.2.b, r124.2.i, r124.2.h, s130, s127) (Nat.lt_succ_self _) ⟨rfl, rfl, rfl, trivial⟩ ⟨hM, hx118⟩
 ·
  replace hx := xif_f hc121 hx
  refine wc_exit ?_
  refine sq_exit ?_
  refine lp1_exit ?_
  obtain rfl := Option.some.inj hx
  obtain rfl := Option.some.inj hx118
  replace hx := hx103
  try dsimp only [Sum.elim_inl, Sum.elim_inr] at hx
  refine bk_here ?_
  refine sq_n ?_
  refine wc_sr ?_
  refine wmv rfl rfl ?_
  refine was rfl rfl ?_
  refine wl_sq ?_
  refine wc_ret ?_
  obtain rfl := Option.some.inj hx
  refine fin_ret [s110.v] ⟨rfl, trivial⟩ ?_
  replace hM := hM.p1
  replace hM := hM.t2
  have hM := hM.fewer (rsC (.head _) rsN)
  exact ⟨(s110, s111), rfl, hM.gives⟩

noncomputable def x_spec_DocNew (name : ByteArray) (t : List Int) : Option (DDoc × Bool) :=
  xg (0 + t.length ≤ 1099511627776) <| Option.bind (x_spec_DocOk (⟨name, 0, [] ++ t, [], []⟩ : DDoc)) fun r24 => bif !r24 then (some ((⟨ByteArray.empty, 0, [], [], []⟩ : DDoc), false)) else (some ((⟨name, 0, [] ++ t, [], []⟩ : DDoc), true))
theorem ct_spec_DocNew (w : World) (X S : Bs) (name : ByteArray) (t : List Int) (s_t : Sv) (hS : ∀ b, S b → b < w.heap.size ∧ ¬ X b) (a_t_0 : (cSl 1 fI t).rd S w s_t.v) (oL : Sep [] X w) {r : DDoc × Bool} (hx : x_spec_DocNew name t = some r) :
  Ret Tryz.prog 57 [(.string name), s_t.v] w (fun u w' => ∃ y : Sv × Sv × Sv, u = .tuple #[.agg #[(.string r.1.name), (.int .i64 r.1.from_), y.1.v, y.2.1.v, y.2.2.v], (.bool r.2)] ∧ Gives X S w [oC (cSl 1 fI r.1.text) y.1.v, oC (cSl 3 fDEntry r.1.list) y.2.1.v, oC (cSl 3 fDSeen r.1.seen) y.2.2.v] [] w') := by
 unfold x_spec_DocNew at hx
 refine enter Tryz.func57 rfl Tryz.ntmps57 (by kernel_rfl) rfl ?_
 have hM := St.enter oL hS
 have hM := hM.addE (r := rV s_t.v (cSl 1 fI t)) a_t_0
 refine wc_sr ?_
 refine w_ex rfl (x_alloc sz27 hM ?_); intro b38 w37 hR39 hM
 dsimp only [Value.cells] at hM
 refine was rfl rfl ?_
 refine wl_sq ?_
 refine wc_sr ?_
 refine wmv rfl rfl ?_
 refine w_ex rfl (x_empty (f := fI) Tryz.underlying23 sz3 (fun _ => rfl) hM ?_); intro s44 w43 hR45 hM
 refine wmv rfl rfl ?_
 obtain ⟨hg50, hx⟩ := xg_some hx
 refine w_ex rfl (x_append Tryz.underlying23 sz3 rfl rfl (hM.seeR (.head _)) flI hM hg50 rfl ?_); intro s49 w48 hM
 refine wv rfl (r_build (cells := #[(.string name), (.int .i64 0), s49.v, (.slice none 0 0), (.slice none 0 0)]) rfl (by kernel_rfl)) ?_
 refine w_ex rfl (x_alloc sz27 hM ?_); intro b54 w53 hR55 hM
 dsimp only [Value.cells] at hM
 refine w_exu (x_stB #[(.string name), (.int .i64 0), s49.v, (.slice none 0 0), (.slice none 0 0)] sz27 rfl rfl rfl rfl rfl rfl hM ?_); intro w57 hM
 refine wl_sq ?_
 refine wc_seq ?_
 refine wc_sr ?_
 refine wv rfl (r_ldBS Tryz.underlying27 sz27 rfl (us := [(.string name), (.int .i64 0), s49.v, (.slice none 0 0), (.slice none 0 0)]) rfl hM (.head _) rfl) ?_
 obtain ⟨r60, h61, hx⟩ := bind_some' hx
 refine w_call rfl rfl (hM.callV fun X S oL hS hR hO => ct_spec_DocOk _ X S (⟨name, 0, [] ++ t, [], []⟩ : DDoc) s49 nS nS hS (seeA hO (.tail _ (.head _))) (rd_nil _ _) (rd_nil _ _) oL h61) ?_
 rintro _ w62 ⟨rfl, hR63⟩
 have hM := hM.call hR63
 refine wv rfl (r_not rfl) ?_
 refine wl_sq ?_
 refine wc_cond rfl (fun hc65 => ?_) (fun hc65 => ?_)
 ·
  replace hx := xif_t hc65 hx
  refine wc_sr ?_
  refine wv rfl (r_build (cells := #[(.string ByteArray.empty), (.int .i64 0), (.slice none 0 0), (.slice none 0 0), (.slice none 0 0)]) rfl (by kernel_rfl)) ?_
  replace hM := hM.p2
  refine w_exu (x_stB #[(.string ByteArray.empty), (.int .i64 0), (.slice none 0 0), (.slice none 0 0), (.slice none 0 0)] sz27 rfl rfl rfl rfl rfl rfl hM ?_); intro w67 hM
  refine was rfl rfl ?_
  refine wl_sq ?_
  refine wc_ret ?_
  refine sq_ret ?_
  obtain rfl := Option.some.inj hx
  have hM := hM.nil0 (T := Int) 1 fI
  have hM := hM.nil0 (T := DEntry) 3 fDEntry
  have hM := hM.nil0 (T := DSeen) 3 fDSeen
  refine fin_ret [(.agg #[(.string ByteArray.empty), (.int .i64 0), nS.v, nS.v, nS.v]), (.bool false)] ⟨rv_box Tryz.underlying27 sz27 rfl rfl hM (.tail _ (.tail _ (.tail _ (.head _)))), rfl, trivial⟩ ?_
  replace hM := hM.p1.p2
  replace hM := hM.t3
  have hM := hM.fewer rsN
  exact ⟨(nS, nS, nS), rfl, hM.gives⟩
 ·
  replace hx := xif_f hc65 hx
  refine wc_skip ?_
  refine sq_n ?_
  refine wc_sr ?_
  refine wv rfl (r_ldBS Tryz.underlying27 sz27 rfl (us := [(.string name), (.int .i64 0), s49.v, (.slice none 0 0), (.slice none 0 0)]) rfl hM (.head _) rfl) ?_
  replace hM := hM.p2
  refine w_exu (x_stB #[(.string name), (.int .i64 0), s49.v, (.slice none 0 0), (.slice none 0 0)] sz27 rfl rfl rfl rfl rfl rfl hM ?_); intro w74 hM
  refine was rfl rfl ?_
  refine wl_sq ?_
  refine wc_ret ?_
  obtain rfl := Option.some.inj hx
  have hM := hM.nil0 (T := DEntry) 3 fDEntry
  have hM := hM.nil0 (T := DSeen) 3 fDSeen
  refine fin_ret [(.agg #[(.string name), (.int .i64 0), s49.v, nS.v, nS.v]), (.bool true)] ⟨rv_box Tryz.underlying27 sz27 rfl rfl hM (.tail _ (.tail _ (.head _))), rfl, trivial⟩ ?_
  replace hM := hM.p1.p4
  replace hM := hM.t3
  have hM := hM.fewer rsN
  exact ⟨(s49, nS, nS), rfl, hM.gives⟩

noncomputable def x_spec_SeenOf_b0 (client : Int) (_d : DDoc) (_k14 : Nat) (x55 : DSeen) : Option (Lr Unit (Sum Unit (Bool × Int × Int × Int))) :=
  bif decide ((x55.client) = client) then (some (Lr.out (Sum.inr ((true, x55.client, x55.seq, x55.rev))))) else (some (Lr.go ()))
noncomputable def x_spec_SeenOf_f0 (client : Int) (d : DDoc) (k14 : Nat) (_s56 : Unit) : Option (Lr Unit (Sum Unit (Bool × Int × Int × Int))) := x_spec_SeenOf_b0 client d k14 (el d.seen k14)
noncomputable def x_spec_SeenOf (d : DDoc) (client : Int) : Option (DSeen × Bool) :=
  Option.bind (eachN (x_spec_SeenOf_f0 client d) (fun (_s56 : Unit) => (Sum.inl () : Sum Unit (Bool × Int × Int × Int))) d.seen.length 0 ()) fun (y57 : Sum Unit (Bool × Int × Int × Int)) => Sum.elim (fun _y58 => some ((⟨0, 0, 0⟩ : DSeen), false)) (fun y59 => some ((⟨y59.2.1, y59.2.2.1, y59.2.2.2⟩ : DSeen), y59.1)) y57
theorem ct_spec_SeenOf (w : World) (X S : Bs) (d : DDoc) (s_d_2 : Sv) (s_d_3 : Sv) (s_d_4 : Sv) (client : Int) (hS : ∀ b, S b → b < w.heap.size ∧ ¬ X b) (a_d_2 : (cSl 1 fI d.text).rd S w s_d_2.v) (a_d_3 : (cSl 3 fDEntry d.list).rd S w s_d_3.v) (a_d_4 : (cSl 3 fDSeen d.seen).rd S w s_d_4.v) (oL : Sep [] X w) {r : DSeen × Bool} (hx : x_spec_SeenOf d client = some r) :
  Ret Tryz.prog 59 [(.agg #[(.string d.name), (.int .i64 d.from_), s_d_2.v, s_d_3.v, s_d_4.v]), (.int .i64 client)] w (fun u w' => ∃ _ : Unit, u = .tuple #[.agg #[(.int .i64 r.1.client), (.int .i64 r.1.seq), (.int .i64 r.1.rev)], (.bool r.2)] ∧ Gives X S w [] [] w') := by
 unfold x_spec_SeenOf at hx
 refine enter Tryz.func59 rfl Tryz.ntmps59 (by kernel_rfl) rfl ?_
 have hM := St.enter oL hS
 have hM := hM.addE (r := rV s_d_2.v (cSl 1 fI d.text)) a_d_2
 have hM := hM.addE (r := rV s_d_3.v (cSl 3 fDEntry d.list)) a_d_3
 have hM := hM.addE (r := rV s_d_4.v (cSl 3 fDSeen d.seen)) a_d_4
 refine wc_sr ?_
 refine w_ex rfl (x_box rfl hM ?_); intro b65 w64 hR66 hM
 dsimp only [Value.cells] at hM
 refine w_ex rfl (x_alloc sz83 hM ?_); intro b69 w68 hR70 hM
 dsimp only [Value.cells] at hM
 refine was rfl rfl ?_
 refine wl_sq ?_
 refine wc_seq ?_
 refine wc_sr ?_
 refine wv rfl (r_fld Tryz.underlying27 rfl rfl sz25 rfl) ?_
 refine wv rfl (r_ldB Tryz.underlying25 rfl rfl hM (.tail _ (.head _)) rfl) ?_
 refine wv rfl (r_lenC Tryz.underlying25 rfl (hM.seeR (.head _))) ?_
 refine wmv rfl rfl ?_
 refine wl_sq ?_
 refine wc_block ?_
 obtain ⟨y77, hx, hx78⟩ := bind_some' hx
 replace hM := hM.t1
 have hM := hM.fewer (rsC (.head _) rsN)
 replace hM : St ⟨w, X, S⟩ [oBox b69 #[(.int .i64 0), (.int .i64 0), (.int .i64 0)] 83] [rV s_d_4.v (cSl 3 fDSeen d.seen)] _ := hM
 have hl82 := Cs.le (hM.seeR (.head _))
 refine wc_loop (un fun (m79 : Nat) => fun (k80 : Nat) => [(1, (.int .i64 client)), (4, (.pointer (some ⟨b69, 0, none⟩))), (9, s_d_4.v), (10, (.int .i64 (d.seen.length : Int))), (11, (.int .i64 (k80 : Int)))]) (un fun (m79 : Nat) => fun (k80 : Nat) w' => St ⟨w, X, S⟩ [oBox b69 #[(.int .i64 0), (.int .i64 0), (.int .i64 0)] 83] [rV s_d_4.v (cSl 3 fDSeen d.seen)] w' ∧ eachN _ _ m79 k80 () = some y77 ∧ k80 + m79 = d.seen.length) (fun p => p.1) (d.seen.length, 0) ⟨rfl, rfl, rfl, rfl, rfl, trivial⟩ ⟨hM, hx, Nat.zero_add _⟩ ?_
 rintro ⟨m79, k80⟩ w83 ⟨hM, hx, hk81⟩
 refine wc_sr ?_
 refine wv rfl (r_lss rfl rfl) ?_
 refine wl_sq ?_
 refine wc_seq ?_
 refine wc_cond rfl (fun hc85 => ?_) (fun hc85 => ?_)
 ·
  replace hc85 := of_decide_eq_true hc85
  obtain ⟨m86, z87, rfl, hk81, hx, hx88⟩ := eachN_step hx hk81 hc85
  unfold x_spec_SeenOf_f0 x_spec_SeenOf_b0 at hx
  try dsimp only at hx
  refine wc_skip ?_
  refine sq_n ?_
  refine wc_seq ?_
  refine wc_block ?_
  refine wc_sr ?_
  have hi90 : k80 < d.seen.length := by omega
  refine wv rfl (r_ixC Tryz.underlying25 sz83 rfl rfl (hM.seeR (.head _)) ⟨by omega, hc85⟩) ?_
  refine wv rfl (r_ldC (o := k80 * 3) Tryz.underlying83 sz83 rfl (us := [(.int .i64 ((el d.seen k80).client)), (.int .i64 ((el d.seen k80).seq)), (.int .i64 ((el d.seen k80).rev))]) rfl (hM.seeR (.head _)) hi90 ⟨(Cs.get (i := k80) (j := 0) (hM.seeR (.head _)) (fun _ => rfl) hi90 rfl), (Cs.get (i := k80) (j := 1) (hM.seeR (.head _)) (fun _ => rfl) hi90 rfl), (Cs.get (i := k80) (j := 2) (hM.seeR (.head _)) (fun _ => rfl) hi90 rfl), trivial⟩) ?_
  refine w_ex rfl (x_alloc sz83 hM ?_); intro b93 w92 hR94 hM
  dsimp only [Value.cells] at hM
  refine w_exu (x_stB #[(.int .i64 ((el d.seen k80).client)), (.int .i64 ((el d.seen k80).seq)), (.int .i64 ((el d.seen k80).rev))] sz83 rfl rfl rfl rfl rfl rfl hM ?_); intro w96 hM
  refine wl_sq ?_
  refine wc_sr ?_
  refine wv rfl (r_fld Tryz.underlying83 rfl rfl sz3 rfl) ?_
  refine wv rfl (r_ldB Tryz.underlying3 rfl rfl hM (.head _) rfl) ?_
  refine wmv rfl rfl ?_
  refine wv rfl (r_eql rfl rfl) ?_
  refine wl_sq ?_
  refine wc_cond rfl (fun hc102 => ?_) (fun hc102 => ?_)
  ·
   replace hx := xif_t hc102 hx
   refine wc_sr ?_
   refine wv rfl (r_ldBS Tryz.underlying83 sz83 rfl (us := [(.int .i64 ((el d.seen k80).client)), (.int .i64 ((el d.seen k80).seq)), (.int .i64 ((el d.seen k80).rev))]) rfl hM (.head _) rfl) ?_
   replace hM := hM.p1
   refine w_exu (x_stB #[(.int .i64 ((el d.seen k80).client)), (.int .i64 ((el d.seen k80).seq)), (.int .i64 ((el d.seen k80).rev))] sz83 rfl rfl rfl rfl rfl rfl hM ?_); intro w104 hM
   refine was rfl rfl ?_
   refine wl_sq ?_
   refine wc_ret ?_
   refine bk_ret ?_
   refine sq_ret ?_
   refine lp1_ret ?_
   obtain rfl := Option.some.inj hx
   obtain rfl := Option.some.inj hx88
   replace hx := hx78
   try dsimp only [Sum.elim_inl, Sum.elim_inr] at hx
   refine bk_ret ?_
   refine sq_ret ?_
   obtain rfl := Option.some.inj hx
   refine fin_ret [(.agg #[(.int .i64 ((el d.seen k80).client)), (.int .i64 ((el d.seen k80).seq)), (.int .i64 ((el d.seen k80).rev))]), (.bool true)] ⟨rv_box Tryz.underlying83 sz83 rfl rfl hM (.head _), rfl, trivial⟩ ?_
   replace hM := hM.t0
   have hM := hM.fewer rsN
   exact ⟨(), rfl, hM.gives⟩
  ·
   replace hx := xif_f hc102 hx
   refine wc_skip ?_
   refine bk_n ?_
   refine sq_n ?_
   refine wc_region ?_
   refine wv rfl (r_add rfl rfl ⟨by omega, by omega⟩) ?_
   refine wmv rfl rfl ?_
   refine wl_nil ?_
   obtain rfl := Option.some.inj hx
   replace hM := hM.p1
   replace hM := hM.t1
   exact lp_end (m86, k80 + 1) (Nat.lt_succ_self _) ⟨rfl, rfl, rfl, rfl, rfl, trivial⟩ ⟨hM, hx88, hk81⟩
 ·
  replace hc85 := of_decide_eq_false hc85
  obtain rfl := eachN_end hx hk81 hc85
  refine wc_exit ?_
  refine sq_exit ?_
  refine lp1_exit ?_
  replace hx := hx78
  try dsimp only [Sum.elim_inl, Sum.elim_inr] at hx
  refine bk_here ?_
  refine sq_n ?_
  refine wc_sr ?_
  refine wv rfl (r_build (cells := #[(.int .i64 0), (.int .i64 0), (.int .i64 0)]) rfl (by kernel_rfl)) ?_
  refine w_exu (x_stB #[(.int .i64 0), (.int .i64 0), (.int .i64 0)] sz83 rfl rfl rfl rfl rfl rfl hM ?_); intro w110 hM
  refine was rfl rfl ?_
  refine wl_sq ?_
  refine wc_ret ?_
  obtain rfl := Option.some.inj hx
  refine fin_ret [(.agg #[(.int .i64 0), (.int .i64 0), (.int .i64 0)]), (.bool false)] ⟨rv_box Tryz.underlying83 sz83 rfl rfl hM (.head _), rfl, trivial⟩ ?_
  replace hM := hM.t0
  have hM := hM.fewer rsN
  exact ⟨(), rfl, hM.gives⟩

noncomputable def x_spec_TextAt_b0 (_d : DDoc) (_rev : Int) (_k63 : Nat) (x119 : DEntry) (t64 : List Int) : Option (Lr (List Int) (List Int)) :=
  Option.bind (x_spec_Apply (x119.o) t64) fun r108 => some (Lr.go r108.1)
noncomputable def x_spec_TextAt_f0 (d : DDoc) (rev : Int) (k63 : Nat) (s120 : List Int) : Option (Lr (List Int) (List Int)) := x_spec_TextAt_b0 d rev k63 (el ((d.list.take ((rev - d.from_).toNat)).drop 0) k63) s120
noncomputable def x_spec_TextAt (d : DDoc) (rev : Int) : Option (List Int × Bool) :=
  Option.bind (x_spec_DocOk d) fun r8 => Option.bind (bif !r8 then (some true) else (Option.bind (x_spec_HeadRev d) fun r30 => Option.bind (x_spec_l01In rev d.from_ r30) fun r33 => some (!r33))) fun c13 => bif c13 then (some ([], false)) else (xg (0 + d.text.length ≤ 1099511627776) <| xg (inI (rev - d.from_)) <| xg (0 ≤ (rev - d.from_) ∧ (rev - d.from_) ≤ (d.list.length : Int)) <| Option.bind (eachN (x_spec_TextAt_f0 d rev) (fun (s120 : List Int) => (s120 : List Int)) ((d.list.take ((rev - d.from_).toNat)).drop 0).length 0 ([] ++ d.text)) fun (y121 : List Int) => some (y121, true))
theorem ct_spec_TextAt (w : World) (X S : Bs) (d : DDoc) (s_d_2 : Sv) (s_d_3 : Sv) (s_d_4 : Sv) (rev : Int) (hS : ∀ b, S b → b < w.heap.size ∧ ¬ X b) (a_d_2 : (cSl 1 fI d.text).rd S w s_d_2.v) (a_d_3 : (cSl 3 fDEntry d.list).rd S w s_d_3.v) (a_d_4 : (cSl 3 fDSeen d.seen).rd S w s_d_4.v) (oL : Sep [] X w) {r : List Int × Bool} (hx : x_spec_TextAt d rev = some r) :
  Ret Tryz.prog 61 [(.agg #[(.string d.name), (.int .i64 d.from_), s_d_2.v, s_d_3.v, s_d_4.v]), (.int .i64 rev)] w (fun u w' => ∃ y : Sv, u = .tuple #[y.v, (.bool r.2)] ∧ Gives X S w [oC (cSl 1 fI r.1) y.v] [] w') := by
 unfold x_spec_TextAt at hx
 refine enter Tryz.func61 rfl Tryz.ntmps61 (by kernel_rfl) rfl ?_
 have hM := St.enter oL hS
 have hM := hM.addE (r := rV s_d_2.v (cSl 1 fI d.text)) a_d_2
 have hM := hM.addE (r := rV s_d_3.v (cSl 3 fDEntry d.list)) a_d_3
 have hM := hM.addE (r := rV s_d_4.v (cSl 3 fDSeen d.seen)) a_d_4
 refine wc_sr ?_
 refine w_ex rfl (x_box rfl hM ?_); intro b128 w127 hR129 hM
 dsimp only [Value.cells] at hM
 refine was rfl rfl ?_
 refine was rfl rfl ?_
 refine wl_sq ?_
 refine wc_seq ?_
 refine wc_seq ?_
 refine wc_draw [(0, 0), (1, 0), (2, 0), (3, 0), (4, 0), (5, 0), (6, 0), (7, 0), (8, 0), (9, 0), (10, 0), (11, 0)] Tryz_mixed (by kernel_rfl) rfl (by kernel_rfl) rfl ?_
 refine ov rfl (fun w' h' => r_ldBS Tryz.underlying27 sz27 rfl (us := [(.string d.name), (.int .i64 d.from_), s_d_2.v, s_d_3.v, s_d_4.v]) rfl (hM.call h') (.head _) rfl) ?_
 obtain ⟨r134, h135, hx⟩ := bind_some' hx
 refine oc rfl rfl (fun w' h' => (hM.call h').callV fun X S oL hS hR hO => ct_spec_DocOk _ X S d s_d_2 s_d_3 s_d_4 hS (hR _ (.tail _ (.tail _ (.head _)))) (hR _ (.tail _ (.head _))) (hR _ (.head _)) oL h135) ?_
 refine ov rfl (fun w' h' => r_not rfl) ?_
 refine omv rfl rfl ?_
 obtain ⟨c139, hx, hx152⟩ := bind_some' hx
 refine wo_mid 8 [(20, (.bool c139)), (1, (.int .i64 rev)), (2, (.pointer (some ⟨b128, 0, none⟩)))] rfl ?_ ?_
 ·
  rcases Bool.eq_false_or_eq_true (!r134) with hg140 | hg140
  ·
   replace hx := xif_t hg140 hx
   refine ogs rfl (isB_no hg140) rfl ?_
   refine ogs rfl (isB_no hg140) rfl ?_
   refine ogs rfl (isB_no hg140) rfl ?_
   refine ogs rfl (isB_no hg140) rfl ?_
   refine ogs rfl (isB_no hg140) rfl ?_
   refine ogs rfl (isB_no hg140) rfl ?_
   refine ogs rfl (isB_no hg140) rfl ?_
   refine ov rfl (fun w' h' => p_t rfl hg140 rfl) ?_
   obtain rfl := Option.some.inj hx
   exact mid_onil ⟨rfl, rfl, rfl, trivial⟩
  ·
   replace hx := xif_f hg140 hx
   refine ogv rfl hg140 rfl (fun w' h' => r_move rfl) ?_
   refine ogv rfl hg140 rfl (fun w' h' => r_fld Tryz.underlying27 rfl rfl sz3 rfl) ?_
   refine ogv rfl hg140 rfl (fun w' h' => r_ldB Tryz.underlying3 rfl rfl (hM.call h') (.head _) rfl) ?_
   refine ogv rfl hg140 rfl (fun w' h' => r_ldBS Tryz.underlying27 sz27 rfl (us := [(.string d.name), (.int .i64 d.from_), s_d_2.v, s_d_3.v, s_d_4.v]) rfl (hM.call h') (.head _) rfl) ?_
   obtain ⟨r157, h158, hx⟩ := bind_some' hx
   refine ogc rfl hg140 rfl rfl (fun w' h' => (hM.call h').callV fun X S oL hS hR hO => ct_spec_HeadRev _ X S d s_d_2 s_d_3 s_d_4 hS (hR _ (.tail _ (.tail _ (.head _)))) (hR _ (.tail _ (.head _))) (hR _ (.head _)) oL h158) ?_
   obtain ⟨r160, h161, hx⟩ := bind_some' hx
   refine ogc rfl hg140 rfl rfl (fun w' h' => (hM.call h').callV fun X S oL hS hR hO => ct_spec_l01In _ X S rev d.from_ r157 hS  oL h161) ?_
   refine ogv rfl hg140 rfl (fun w' h' => r_not rfl) ?_
   refine ov rfl (fun w' h' => p_f rfl hg140 rfl) ?_
   obtain rfl := Option.some.inj hx
   exact mid_onil ⟨rfl, rfl, rfl, trivial⟩
 replace hx := hx152
 refine o_nilM hM fun w164 hM => ?_
 refine sq_n ?_
 refine wc_cond rfl (fun hc166 => ?_) (fun hc166 => ?_)
 ·
  replace hx := xif_t hc166 hx
  refine wc_sr ?_
  refine was rfl rfl ?_
  refine was rfl rfl ?_
  refine wl_sq ?_
  refine wc_ret ?_
  refine sq_ret ?_
  obtain rfl := Option.some.inj hx
  have hM := hM.nil0 (T := Int) 1 fI
  refine fin_ret [nS.v, (.bool false)] ⟨rfl, rfl, trivial⟩ ?_
  replace hM := hM.t1
  have hM := hM.fewer rsN
  exact ⟨nS, rfl, hM.gives⟩
 ·
  replace hx := xif_f hc166 hx
  refine wc_skip ?_
  refine sq_n ?_
  refine wc_sr ?_
  refine w_ex rfl (x_empty (f := fI) Tryz.underlying23 sz3 (fun _ => rfl) hM ?_); intro s171 w170 hR172 hM
  refine wv rfl (r_fld Tryz.underlying27 rfl rfl sz23 rfl) ?_
  refine wv rfl (r_ldB Tryz.underlying23 rfl rfl hM (.tail _ (.head _)) rfl) ?_
  obtain ⟨hg178, hx⟩ := xg_some hx
  refine w_ex rfl (x_append Tryz.underlying23 sz3 rfl rfl (hM.seeR (.tail _ (.tail _ (.head _)))) flI hM hg178 rfl ?_); intro s177 w176 hM
  refine was rfl rfl ?_
  refine wl_sq ?_
  refine wc_seq ?_
  refine wc_sr ?_
  refine wv rfl (r_fld Tryz.underlying27 rfl rfl sz24 rfl) ?_
  refine wv rfl (r_ldB Tryz.underlying24 rfl rfl hM (.tail _ (.head _)) rfl) ?_
  refine wmv rfl rfl ?_
  refine wv rfl (r_fld Tryz.underlying27 rfl rfl sz3 rfl) ?_
  refine wv rfl (r_ldB Tryz.underlying3 rfl rfl hM (.tail _ (.head _)) rfl) ?_
  obtain ⟨hg187, hx⟩ := xg_some hx
  refine wv rfl (r_sub rfl rfl hg187) ?_
  obtain ⟨hg189, hx⟩ := xg_some hx
  have hM := hM.cutR (L := d.list) (f := fDEntry) (lo := 0) (hi := ((rev - d.from_).toNat)) (fun _ => rfl) (by omega) (by omega) (.tail _ (.head _))
  refine wv rfl (r_slc_hi Tryz.underlying24 sz70 rfl rfl (hM.seeR (.tail _ (.tail _ (.head _)))) hg189) ?_
  refine wv rfl (r_lenC Tryz.underlying24 rfl (hM.seeR (.head _))) ?_
  refine wmv rfl rfl ?_
  refine wl_sq ?_
  refine wc_block ?_
  obtain ⟨y192, hx, hx193⟩ := bind_some' hx
  replace hM := hM.t1
  have hM := hM.fewer (rsC (.head _) rsN)
  replace hM : St ⟨w, X, S⟩ [oC (cSl 1 fI ([] ++ d.text)) s177.v] [rV (s_d_3.cut 3 0 ((rev - d.from_).toNat)).v (cSl 3 fDEntry ((d.list.take ((rev - d.from_).toNat)).drop 0))] _ := hM
  have hl200 := Cs.le (hM.seeR (.head _))
  refine wc_loop (un fun (m197 : Nat) => un fun (k198 : Nat) => un fun (t194 : List Int) => fun (s196 : Sv) => [(6, s196.v), (31, (s_d_3.cut 3 0 ((rev - d.from_).toNat)).v), (32, (.int .i64 (((d.list.take ((rev - d.from_).toNat)).drop 0).length : Int))), (33, (.int .i64 (k198 : Int)))]) (un fun (m197 : Nat) => un fun (k198 : Nat) => un fun (t194 : List Int) => fun (s196 : Sv) w' => St ⟨w, X, S⟩ [oC (cSl 1 fI t194) s196.v] [rV (s_d_3.cut 3 0 ((rev - d.from_).toNat)).v (cSl 3 fDEntry ((d.list.take ((rev - d.from_).toNat)).drop 0))] w' ∧ eachN _ _ m197 k198 t194 = some y192 ∧ k198 + m197 = ((d.list.take ((rev - d.from_).toNat)).drop 0).length) (fun p => p.1) (((d.list.take ((rev - d.from_).toNat)).drop 0).length, 0, [] ++ d.text, s177) ⟨rfl, rfl, rfl, rfl, trivial⟩ ⟨hM, hx, Nat.zero_add _⟩ ?_
  rintro ⟨m197, k198, t194, s196⟩ w201 ⟨hM, hx, hk199⟩
  refine wc_sr ?_
  refine wv rfl (r_lss rfl rfl) ?_
  refine wl_sq ?_
  refine wc_seq ?_
  refine wc_cond rfl (fun hc203 => ?_) (fun hc203 => ?_)
  ·
   replace hc203 := of_decide_eq_true hc203
   obtain ⟨m204, z205, rfl, hk199, hx, hx206⟩ := eachN_step hx hk199 hc203
   unfold x_spec_TextAt_f0 x_spec_TextAt_b0 at hx
   try dsimp only at hx
   refine wc_skip ?_
   refine sq_n ?_
   refine wc_seq ?_
   refine wc_block ?_
   refine wc_sr ?_
   have hi208 : k198 < ((d.list.take ((rev - d.from_).toNat)).drop 0).length := by omega
   refine wv rfl (r_ixC Tryz.underlying24 sz70 rfl rfl (hM.seeR (.head _)) ⟨by omega, hc203⟩) ?_
   obtain ⟨s210, hM, hc211⟩ := hM.leaf (i := k198) (j := 2) (.head _) (fun _ => rfl) hi208 rfl
   refine wv rfl (r_ldC (o := k198 * 3) Tryz.underlying70 sz70 rfl (us := [(.int .i64 ((el ((d.list.take ((rev - d.from_).toNat)).drop 0) k198).client)), (.int .i64 ((el ((d.list.take ((rev - d.from_).toNat)).drop 0) k198).seq)), s210.v]) rfl (hM.seeR (.tail _ (.head _))) hi208 ⟨(Cs.get (i := k198) (j := 0) (hM.seeR (.tail _ (.head _))) (fun _ => rfl) hi208 rfl), (Cs.get (i := k198) (j := 1) (hM.seeR (.tail _ (.head _))) (fun _ => rfl) hi208 rfl), (hc211 _ (Rel.refl _)), trivial⟩) ?_
   refine w_ex rfl (x_alloc sz70 hM ?_); intro b213 w212 hR214 hM
   dsimp only [Value.cells] at hM
   refine w_exu (x_stB #[(.int .i64 ((el ((d.list.take ((rev - d.from_).toNat)).drop 0) k198).client)), (.int .i64 ((el ((d.list.take ((rev - d.from_).toNat)).drop 0) k198).seq)), s210.v] sz70 rfl rfl rfl rfl rfl rfl hM ?_); intro w216 hM
   refine wl_sq ?_
   refine wc_region ?_
   refine wv rfl (r_fld Tryz.underlying70 rfl rfl sz48 rfl) ?_
   refine wv rfl (r_ldB Tryz.underlying48 rfl rfl hM (.head _) rfl) ?_
   refine wmv rfl rfl ?_
   obtain ⟨r221, h222, hx⟩ := bind_some' hx
   refine w_call rfl rfl (hM.callO (l := []) fun X S oL hS hR hO => ct_spec_Apply _ X S ((el ((d.list.take ((rev - d.from_).toNat)).drop 0) k198).o) s210 t194 s196 hS (hR _ (.head _)) (seeA hO (.tail _ (.head _))) oL h222) ?_
   rintro _ w223 ⟨s224, rfl, hM⟩
   dsimp only [List.cons_append, List.nil_append] at hM
   refine wmv rfl rfl ?_
   refine wv rfl (r_extract rfl rfl) ?_
   refine wv rfl (r_extract rfl rfl) ?_
   refine was rfl rfl ?_
   refine wl_nil ?_
   refine bk_n ?_
   refine sq_n ?_
   refine wc_region ?_
   refine wv rfl (r_add rfl rfl ⟨by omega, by omega⟩) ?_
   refine wmv rfl rfl ?_
   refine wl_nil ?_
   obtain rfl := Option.some.inj hx
   replace hM := hM.t1
   have hM := hM.fewer (rsC (.tail _ (.head _)) rsN)
   replace hM : St ⟨w, X, S⟩ [oC (cSl 1 fI r221.1) s224.v] [rV (s_d_3.cut 3 0 ((rev - d.from_).toNat)).v (cSl 3 fDEntry ((d.list.take ((rev - d.from_).toNat)).drop 0))] _ := hM
   exact lp_end (m204, k198 + 1, r221.1, s224) (Nat.lt_succ_self _) ⟨rfl, rfl, rfl, rfl, trivial⟩ ⟨hM, hx206, hk199⟩
  ·
   replace hc203 := of_decide_eq_false hc203
   obtain rfl := eachN_end hx hk199 hc203
   refine wc_exit ?_
   refine sq_exit ?_
   refine lp1_exit ?_
   replace hx := hx193
   try dsimp only [Sum.elim_inl, Sum.elim_inr] at hx
   refine bk_here ?_
   refine sq_n ?_
   refine wc_sr ?_
   refine wmv rfl rfl ?_
   refine was rfl rfl ?_
   refine was rfl rfl ?_
   refine wl_sq ?_
   refine wc_ret ?_
   obtain rfl := Option.some.inj hx
   refine fin_ret [s196.v, (.bool true)] ⟨rfl, rfl, trivial⟩ ?_
   replace hM := hM.t1
   have hM := hM.fewer rsN
   exact ⟨s196, rfl, hM.gives⟩

noncomputable def x_spec_l02Draw_b0 (o203 : List DPart) (left204 : Int) (room205 : Int) (l206 : List UInt8) (n207 : Int) (n208 : Int) : Option (Lr (List DPart × Int × Int × List UInt8 × Int × Int) (List DPart × List UInt8 × Int × Int)) :=
  Option.bind (bif decide ((0 : Int) < left204) then (some (true, l206, n207, n208)) else (Option.bind (x_spec_l01Once (⟨l206, n207, n208⟩ : DL01Cur) 3) fun r411 => some (r411.1, r411.2.b, r411.2.i, r411.2.h))) fun (c409 : Bool × List UInt8 × Int × Int) => bif c409.1 then (Option.bind (x_spec_l01Below (⟨c409.2.1, c409.2.2.1, c409.2.2.2⟩ : DL01Cur) 4) fun r417 => bif decide (r417.1 = 0) then (Option.bind (x_spec_l01Signs r417.2 3) fun r424 => bif decide (room205 < (r424.1.length : Int)) then (xg (inI (room205 - ((0 : Nat) : Int))) <| xg (o203.length < 1099511627776) <| bif decide ((40 : Int) < ((o203 ++ [(⟨2, 0, []⟩ : DPart)]).length : Int)) then (xg ((o203 ++ [(⟨2, 0, []⟩ : DPart)]).length < 1099511627776) <| some (Lr.out ((o203 ++ [(⟨2, 0, []⟩ : DPart)]) ++ [(⟨1, left204, []⟩ : DPart)], r424.2.b, r424.2.i, r424.2.h))) else (some (Lr.go (o203 ++ [(⟨2, 0, []⟩ : DPart)], left204, room205 - ((0 : Nat) : Int), r424.2.b, r424.2.i, r424.2.h)))) else (xg (inI (room205 - (r424.1.length : Int))) <| xg (o203.length < 1099511627776) <| bif decide ((40 : Int) < ((o203 ++ [(⟨2, 0, r424.1⟩ : DPart)]).length : Int)) then (xg ((o203 ++ [(⟨2, 0, r424.1⟩ : DPart)]).length < 1099511627776) <| some (Lr.out ((o203 ++ [(⟨2, 0, r424.1⟩ : DPart)]) ++ [(⟨1, left204, []⟩ : DPart)], r424.2.b, r424.2.i, r424.2.h))) else (some (Lr.go (o203 ++ [(⟨2, 0, r424.1⟩ : DPart)], left204, room205 - (r424.1.length : Int), r424.2.b, r424.2.i, r424.2.h))))) else (bif decide (r417.1 = 1) then (xg (inI (left204 + 1)) <| Option.bind (x_spec_l01Below r417.2 (left204 + 1)) fun r494 => bif decide ((4 : Int) < r494.1) then (xg (inI (left204 - 4)) <| xg (o203.length < 1099511627776) <| bif decide ((40 : Int) < ((o203 ++ [(⟨3, 4, []⟩ : DPart)]).length : Int)) then (xg ((o203 ++ [(⟨3, 4, []⟩ : DPart)]).length < 1099511627776) <| some (Lr.out ((o203 ++ [(⟨3, 4, []⟩ : DPart)]) ++ [(⟨1, left204 - 4, []⟩ : DPart)], r494.2.b, r494.2.i, r494.2.h))) else (some (Lr.go (o203 ++ [(⟨3, 4, []⟩ : DPart)], left204 - 4, room205, r494.2.b, r494.2.i, r494.2.h)))) else (xg (inI (left204 - r494.1)) <| xg (o203.length < 1099511627776) <| bif decide ((40 : Int) < ((o203 ++ [(⟨3, r494.1, []⟩ : DPart)]).length : Int)) then (xg ((o203 ++ [(⟨3, r494.1, []⟩ : DPart)]).length < 1099511627776) <| some (Lr.out ((o203 ++ [(⟨3, r494.1, []⟩ : DPart)]) ++ [(⟨1, left204 - r494.1, []⟩ : DPart)], r494.2.b, r494.2.i, r494.2.h))) else (some (Lr.go (o203 ++ [(⟨3, r494.1, []⟩ : DPart)], left204 - r494.1, room205, r494.2.b, r494.2.i, r494.2.h))))) else (xg (inI (left204 + 1)) <| Option.bind (x_spec_l01Below r417.2 (left204 + 1)) fun r556 => xg (inI (left204 - r556.1)) <| xg (o203.length < 1099511627776) <| bif decide ((40 : Int) < ((o203 ++ [(⟨1, r556.1, []⟩ : DPart)]).length : Int)) then (xg ((o203 ++ [(⟨1, r556.1, []⟩ : DPart)]).length < 1099511627776) <| some (Lr.out ((o203 ++ [(⟨1, r556.1, []⟩ : DPart)]) ++ [(⟨1, left204 - r556.1, []⟩ : DPart)], r556.2.b, r556.2.i, r556.2.h))) else (some (Lr.go (o203 ++ [(⟨1, r556.1, []⟩ : DPart)], left204 - r556.1, room205, r556.2.b, r556.2.i, r556.2.h)))))) else (some (Lr.out (o203, c409.2.1, c409.2.2.1, c409.2.2.2)))
noncomputable def x_spec_l02Draw_f0 (s586 : List DPart × Int × Int × List UInt8 × Int × Int) : Option (Lr (List DPart × Int × Int × List UInt8 × Int × Int) (List DPart × List UInt8 × Int × Int)) := x_spec_l02Draw_b0 s586.1 s586.2.1 s586.2.2.1 s586.2.2.2.1 s586.2.2.2.2.1 s586.2.2.2.2.2
noncomputable def x_spec_l02Draw (c : DL01Cur) (from_ : Int) : Option (List DPart × DL01Cur) :=
  Option.bind (iter (x_spec_l02Draw_f0) ([], from_, 12, c.b, c.i, c.h)) fun (y587 : List DPart × List UInt8 × Int × Int) => some (y587.1, (⟨y587.2.1, y587.2.2.1, y587.2.2.2⟩ : DL01Cur))
theorem ct_spec_l02Draw (w : World) (X S : Bs) (b_c : Nat) (c : DL01Cur) (s_c_0 : Sv) (from_ : Int) (hS : ∀ b, S b → b < w.heap.size ∧ ¬ X b) (a_c_0 : (cSl 1 fY c.b).rd S w s_c_0.v) (oL : Sep [oBox b_c #[s_c_0.v, (.int .i64 c.i), (.int .i64 c.h)] 78] X w) {r : List DPart × DL01Cur} (hx : x_spec_l02Draw c from_ = some r) :
  Ret Tryz.prog 49 [(.pointer (some ⟨b_c, 0, none⟩)), (.int .i64 from_)] w (fun u w' => ∃ y : Sv × Sv, u = y.1.v ∧ Gives X S w [oC (cSl 3 fDPart r.1) y.1.v, oBox b_c #[y.2.v, (.int .i64 r.2.i), (.int .i64 r.2.h)] 78] [rV y.2.v (cSl 1 fY r.2.b)] w') := by
 unfold x_spec_l02Draw at hx
 refine enter Tryz.func49 rfl Tryz.ntmps49 (by kernel_rfl) rfl ?_
 have hM := St.enter oL hS
 have hM := hM.addE (r := rV s_c_0.v (cSl 1 fY c.b)) a_c_0
 refine wc_sr ?_
 refine was rfl rfl ?_
 refine wl_sq ?_
 refine wc_sr ?_
 refine w_ex rfl (x_empty (f := fDPart) Tryz.underlying48 sz95 (fun _ => rfl) hM ?_); intro s595 w594 hR596 hM
 refine was rfl rfl ?_
 refine wl_sq ?_
 refine wc_sr ?_
 refine wmv rfl rfl ?_
 refine was rfl rfl ?_
 refine wl_sq ?_
 refine wc_sr ?_
 refine was rfl rfl ?_
 refine wl_sq ?_
 refine wc_seq ?_
 refine wc_block ?_
 obtain ⟨y602, hx, hx603⟩ := bind_some' hx
 replace hM := hM.p1
 obtain ⟨m615, hx⟩ := iter_run hx
 refine wc_loop (un fun (m613 : Nat) => un fun (o604 : List DPart) => un fun (left605 : Int) => un fun (room606 : Int) => un fun (l607 : List UInt8) => un fun (n608 : Int) => un fun (n609 : Int) => un fun (s611 : Sv) => fun (s612 : Sv) => [(0, (.pointer (some ⟨b_c, 0, none⟩))), (5, s611.v), (6, (.int .i64 left605)), (7, (.int .i64 room606))]) (un fun (m613 : Nat) => un fun (o604 : List DPart) => un fun (left605 : Int) => un fun (room606 : Int) => un fun (l607 : List UInt8) => un fun (n608 : Int) => un fun (n609 : Int) => un fun (s611 : Sv) => fun (s612 : Sv) w' => St ⟨w, X, S⟩ [oBox b_c #[s612.v, (.int .i64 n608), (.int .i64 n609)] 78, oC (cSl 3 fDPart o604) s611.v] [rV s612.v (cSl 1 fY l607)] w' ∧ iterN _ m613 (o604, left605, room606, l607, n608, n609) = some y602) (fun p => p.1) (m615, [], from_, 12, c.b, c.i, c.h, s595, s_c_0) ⟨rfl, rfl, rfl, rfl, trivial⟩ ⟨hM, hx⟩ ?_
 rintro ⟨m613, o604, left605, room606, l607, n608, n609, s611, s612⟩ w616 ⟨hM, hx⟩
 obtain ⟨m617, z618, rfl, hx, hx619⟩ := iterN_step hx
 unfold x_spec_l02Draw_f0 x_spec_l02Draw_b0 at hx
 try dsimp only at hx
 refine wc_seq ?_
 refine wc_sr ?_
 refine wmv rfl rfl ?_
 refine wv rfl (r_gtr rfl rfl) ?_
 refine wmv rfl rfl ?_
 obtain ⟨c630, hx, hx631⟩ := bind_some' hx
 refine wl_mid 3 (fun (s632 : Sv) => [(0, (.pointer (some ⟨b_c, 0, none⟩))), (5, s611.v), (6, (.int .i64 left605)), (7, (.int .i64 room606)), (18, (.bool c630.1))]) (fun (s632 : Sv) w' => St ⟨w, X, S⟩ [oBox b_c #[s632.v, (.int .i64 c630.2.2.1), (.int .i64 c630.2.2.2)] 78, oC (cSl 3 fDPart o604) s611.v] [rV s632.v (cSl 1 fY c630.2.1)] w') ?_ ?_
 ·
  rcases Bool.eq_false_or_eq_true (decide ((0 : Int) < left605)) with hg624 | hg624
  ·
   replace hx := xif_t hg624 hx
   refine gs rfl (isB_no hg624) rfl ?_
   refine gs rfl (isB_no hg624) rfl ?_
   refine wv rfl (p_t rfl hg624 rfl) ?_
   obtain rfl := Option.some.inj hx
   exact mid_nil s612 ⟨rfl, rfl, rfl, rfl, rfl, trivial⟩ hM
  ·
   replace hx := xif_f hg624 hx
   refine gv rfl hg624 rfl (r_move rfl) ?_
   obtain ⟨r634, h635, hx⟩ := bind_some' hx
   refine gc rfl hg624 rfl rfl (hM.callR (l := [oBox b_c #[s612.v, (.int .i64 n608), (.int .i64 n609)] 78]) fun X S oL hS hR => ct_spec_l01Once _ X S b_c (⟨l607, n608, n609⟩ : DL01Cur) s612 (3 : Int) hS (hR _ (.head _)) oL h635) ?_
   rintro _ w636 ⟨s637, rfl, hM⟩
   dsimp only [List.cons_append, List.nil_append] at hM
   refine wv rfl (p_f rfl hg624 rfl) ?_
   obtain rfl := Option.some.inj hx
   have hM := hM.fewer (rsC (.head _) rsN)
   replace hM : St ⟨w, X, S⟩ [oBox b_c #[s637.v, (.int .i64 r634.2.i), (.int .i64 r634.2.h)] 78, oC (cSl 3 fDPart o604) s611.v] [rV s637.v (cSl 1 fY r634.2.b)] _ := hM
   exact mid_nil s637 ⟨rfl, rfl, rfl, rfl, rfl, trivial⟩ hM
 rintro s632 w638 hM
 replace hx := hx631
 refine wl_sq ?_
 refine wc_cond rfl (fun hc639 => ?_) (fun hc639 => ?_)
 ·
  replace hx := xif_t hc639 hx
  refine wc_skip ?_
  refine sq_n ?_
  refine wc_block ?_
  refine wc_seq ?_
  refine wc_sr ?_
  refine wmv rfl rfl ?_
  obtain ⟨r641, h642, hx⟩ := bind_some' hx
  refine w_call rfl rfl (hM.callR (l := [oBox b_c #[s632.v, (.int .i64 c630.2.2.1), (.int .i64 c630.2.2.2)] 78]) fun X S oL hS hR => ct_spec_l01Below _ X S b_c (⟨c630.2.1, c630.2.2.1, c630.2.2.2⟩ : DL01Cur) s632 (4 : Int) hS (hR _ (.head _)) oL h642) ?_
  rintro _ w643 ⟨s644, rfl, hM⟩
  dsimp only [List.cons_append, List.nil_append] at hM
  refine wl_sq ?_
  refine wc_block ?_
  refine wc_sr ?_
  refine wv rfl (r_eql rfl rfl) ?_
  refine was rfl rfl ?_
  refine wl_sq ?_
  refine wc_cond rfl (fun hc647 => ?_) (fun hc647 => ?_)
  ·
   replace hx := xif_t hc647 hx
   refine wc_sr ?_
   refine wmv rfl rfl ?_
   obtain ⟨r649, h650, hx⟩ := bind_some' hx
   refine w_call rfl rfl (hM.callR (l := [oBox b_c #[s644.v, (.int .i64 r641.2.i), (.int .i64 r641.2.h)] 78]) fun X S oL hS hR => ct_spec_l01Signs _ X S b_c r641.2 s644 (3 : Int) hS (hR _ (.head _)) oL h650) ?_
   rintro _ w651 ⟨⟨s652, s653⟩, rfl, hM⟩
   dsimp only [List.cons_append, List.nil_append] at hM
   refine was rfl rfl ?_
   refine wl_sq ?_
   refine wc_seq ?_
   refine wc_sr ?_
   refine wmv rfl rfl ?_
   refine wv rfl (r_lenC Tryz.underlying23 rfl (hM.seeO (.head _))) ?_
   refine wmv rfl rfl ?_
   refine wv rfl (r_gtr rfl rfl) ?_
   refine wl_sq ?_
   refine wc_cond rfl (fun hc660 => ?_) (fun hc660 => ?_)
   ·
    replace hx := xif_t hc660 hx
    refine wc_region ?_
    refine was rfl rfl ?_
    refine wl_sq ?_
    refine wc_sr ?_
    refine wmv rfl rfl ?_
    refine wmv rfl rfl ?_
    refine wv rfl (r_len Tryz.underlying23 rfl) ?_
    obtain ⟨hg666, hx⟩ := xg_some hx
    refine wv rfl (r_sub rfl rfl hg666) ?_
    refine was rfl rfl ?_
    refine wl_sq ?_
    refine wc_region ?_
    refine wmv rfl rfl ?_
    refine wmv rfl rfl ?_
    refine wv rfl (r_build (cells := #[(.int .i64 2), (.int .i64 0), (.slice none 0 0)]) rfl (by kernel_rfl)) ?_
    replace hM := hM.p2
    obtain ⟨hg674, hx⟩ := xg_some hx
    refine w_push (f := fDPart) (⟨2, 0, []⟩ : DPart) rfl rfl Tryz.underlying48 sz95 rfl rfl rfl rfl (fun _ => rfl) hM (fun _ => zP (pV _ rfl) (zP (pV _ rfl) (zP (pN _ _) zN))) rfl hg674 rfl ?_; intro u672 s673 w671 hM
    refine was rfl rfl ?_
    refine wl_nil ?_
    refine bk_n ?_
    refine sq_n ?_
    refine wc_sr ?_
    refine wmv rfl rfl ?_
    refine wv rfl (r_lenC Tryz.underlying48 rfl (hM.seeO (.head _))) ?_
    refine wv rfl (r_gtr rfl rfl) ?_
    refine wl_sq ?_
    refine wc_cond rfl (fun hc679 => ?_) (fun hc679 => ?_)
    ·
     replace hx := xif_t hc679 hx
     refine wc_sr ?_
     refine wmv rfl rfl ?_
     refine wmv rfl rfl ?_
     refine wv rfl (r_build (cells := #[(.int .i64 1), (.int .i64 left605), (.slice none 0 0)]) rfl (by kernel_rfl)) ?_
     obtain ⟨hg686, hx⟩ := xg_some hx
     refine w_push (f := fDPart) (⟨1, left605, []⟩ : DPart) rfl rfl Tryz.underlying48 sz95 rfl rfl rfl rfl (fun _ => rfl) hM (fun _ => zP (pV _ rfl) (zP (pV _ rfl) (zP (pN _ _) zN))) rfl hg686 rfl ?_; intro u684 s685 w683 hM
     refine was rfl rfl ?_
     refine wl_sq ?_
     refine wc_sr ?_
     refine was rfl rfl ?_
     refine wl_sq ?_
     refine wc_exit ?_
     refine bk_exit rfl ?_
     refine lp1_exit ?_
     obtain rfl := Option.some.inj hx
     obtain rfl := Option.some.inj hx619
     replace hx := hx603
     try dsimp only [Sum.elim_inl, Sum.elim_inr] at hx
     refine bk_here ?_
     refine sq_n ?_
     refine wc_sr ?_
     refine wmv rfl rfl ?_
     refine was rfl rfl ?_
     refine wl_sq ?_
     refine wc_ret ?_
     obtain rfl := Option.some.inj hx
     refine fin_ret [s685.v] ⟨rfl, trivial⟩ ?_
     replace hM := hM.p2.p1
     replace hM := hM.t2
     have hM := hM.fewer (rsC (.head _) rsN)
     exact ⟨(s685, s653), rfl, hM.gives⟩
    ·
     replace hx := xif_f hc679 hx
     refine wc_skip ?_
     refine bk_n ?_
     obtain rfl := Option.some.inj hx
     replace hM := hM.p2
     replace hM := hM.t2
     have hM := hM.fewer (rsC (.head _) rsN)
     replace hM : St ⟨w, X, S⟩ [oBox b_c #[s653.v, (.int .i64 r649.2.i), (.int .i64 r649.2.h)] 78, oC (cSl 3 fDPart (o604 ++ [(⟨2, 0, []⟩ : DPart)])) s673.v] [rV s653.v (cSl 1 fY r649.2.b)] _ := hM
     exact lp_end (m617, o604 ++ [(⟨2, 0, []⟩ : DPart)], left605, room606 - ((0 : Nat) : Int), r649.2.b, r649.2.i, r649.2.h, s673, s653) (Nat.lt_succ_self _) ⟨rfl, rfl, rfl, rfl, trivial⟩ ⟨hM, hx619⟩
   ·
    replace hx := xif_f hc660 hx
    refine wc_skip ?_
    refine sq_n ?_
    refine wc_sr ?_
    refine wmv rfl rfl ?_
    refine wmv rfl rfl ?_
    refine wv rfl (r_lenC Tryz.underlying23 rfl (hM.seeO (.head _))) ?_
    obtain ⟨hg695, hx⟩ := xg_some hx
    refine wv rfl (r_sub rfl rfl hg695) ?_
    refine was rfl rfl ?_
    refine wl_sq ?_
    refine wc_region ?_
    refine wmv rfl rfl ?_
    refine wmv rfl rfl ?_
    refine wv rfl (r_build (cells := #[(.int .i64 2), (.int .i64 0), s652.v]) rfl (by kernel_rfl)) ?_
    replace hM := hM.p2
    obtain ⟨hg703, hx⟩ := xg_some hx
    refine w_push (f := fDPart) (⟨2, 0, r649.1⟩ : DPart) rfl rfl Tryz.underlying48 sz95 rfl rfl rfl rfl (fun _ => rfl) hM (fun _ => zP (pV _ rfl) (zP (pV _ rfl) (zO zN))) rfl hg703 rfl ?_; intro u701 s702 w700 hM
    refine was rfl rfl ?_
    refine wl_nil ?_
    refine bk_n ?_
    refine sq_n ?_
    refine wc_sr ?_
    refine wmv rfl rfl ?_
    refine wv rfl (r_lenC Tryz.underlying48 rfl (hM.seeO (.head _))) ?_
    refine wv rfl (r_gtr rfl rfl) ?_
    refine wl_sq ?_
    refine wc_cond rfl (fun hc708 => ?_) (fun hc708 => ?_)
    ·
     replace hx := xif_t hc708 hx
     refine wc_sr ?_
     refine wmv rfl rfl ?_
     refine wmv rfl rfl ?_
     refine wv rfl (r_build (cells := #[(.int .i64 1), (.int .i64 left605), (.slice none 0 0)]) rfl (by kernel_rfl)) ?_
     obtain ⟨hg715, hx⟩ := xg_some hx
     refine w_push (f := fDPart) (⟨1, left605, []⟩ : DPart) rfl rfl Tryz.underlying48 sz95 rfl rfl rfl rfl (fun _ => rfl) hM (fun _ => zP (pV _ rfl) (zP (pV _ rfl) (zP (pN _ _) zN))) rfl hg715 rfl ?_; intro u713 s714 w712 hM
     refine was rfl rfl ?_
     refine wl_sq ?_
     refine wc_sr ?_
     refine was rfl rfl ?_
     refine wl_sq ?_
     refine wc_exit ?_
     refine bk_exit rfl ?_
     refine lp1_exit ?_
     obtain rfl := Option.some.inj hx
     obtain rfl := Option.some.inj hx619
     replace hx := hx603
     try dsimp only [Sum.elim_inl, Sum.elim_inr] at hx
     refine bk_here ?_
     refine sq_n ?_
     refine wc_sr ?_
     refine wmv rfl rfl ?_
     refine was rfl rfl ?_
     refine wl_sq ?_
     refine wc_ret ?_
     obtain rfl := Option.some.inj hx
     refine fin_ret [s714.v] ⟨rfl, trivial⟩ ?_
     replace hM := hM.t2
     have hM := hM.fewer (rsC (.head _) rsN)
     exact ⟨(s714, s653), rfl, hM.gives⟩
    ·
     replace hx := xif_f hc708 hx
     refine wc_skip ?_
     refine bk_n ?_
     obtain rfl := Option.some.inj hx
     replace hM := hM.p1
     have hM := hM.fewer (rsC (.head _) rsN)
     replace hM : St ⟨w, X, S⟩ [oBox b_c #[s653.v, (.int .i64 r649.2.i), (.int .i64 r649.2.h)] 78, oC (cSl 3 fDPart (o604 ++ [(⟨2, 0, r649.1⟩ : DPart)])) s702.v] [rV s653.v (cSl 1 fY r649.2.b)] _ := hM
     exact lp_end (m617, o604 ++ [(⟨2, 0, r649.1⟩ : DPart)], left605, room606 - (r649.1.length : Int), r649.2.b, r649.2.i, r649.2.h, s702, s653) (Nat.lt_succ_self _) ⟨rfl, rfl, rfl, rfl, trivial⟩ ⟨hM, hx619⟩
  ·
   replace hx := xif_f hc647 hx
   refine wc_sr ?_
   refine wv rfl (r_eql rfl rfl) ?_
   refine was rfl rfl ?_
   refine wl_sq ?_
   refine wc_cond rfl (fun hc722 => ?_) (fun hc722 => ?_)
   ·
    replace hx := xif_t hc722 hx
    refine wc_sr ?_
    refine wmv rfl rfl ?_
    refine wmv rfl rfl ?_
    obtain ⟨hg726, hx⟩ := xg_some hx
    refine wv rfl (r_add rfl rfl hg726) ?_
    obtain ⟨r727, h728, hx⟩ := bind_some' hx
    refine w_call rfl rfl (hM.callR (l := [oBox b_c #[s644.v, (.int .i64 r641.2.i), (.int .i64 r641.2.h)] 78]) fun X S oL hS hR => ct_spec_l01Below _ X S b_c r641.2 s644 (left605 + 1) hS (hR _ (.head _)) oL h728) ?_
    rintro _ w729 ⟨s730, rfl, hM⟩
    dsimp only [List.cons_append, List.nil_append] at hM
    refine was rfl rfl ?_
    refine wl_sq ?_
    refine wc_seq ?_
    refine wc_sr ?_
    refine wmv rfl rfl ?_
    refine wv rfl (r_gtr rfl rfl) ?_
    refine wl_sq ?_
    refine wc_cond rfl (fun hc734 => ?_) (fun hc734 => ?_)
    ·
     replace hx := xif_t hc734 hx
     refine wc_region ?_
     refine was rfl rfl ?_
     refine wl_sq ?_
     refine wc_sr ?_
     refine wmv rfl rfl ?_
     refine wmv rfl rfl ?_
     obtain ⟨hg739, hx⟩ := xg_some hx
     refine wv rfl (r_sub rfl rfl hg739) ?_
     refine was rfl rfl ?_
     refine wl_sq ?_
     refine wc_region ?_
     refine wmv rfl rfl ?_
     refine wmv rfl rfl ?_
     refine wv rfl (r_build (cells := #[(.int .i64 3), (.int .i64 4), (.slice none 0 0)]) rfl (by kernel_rfl)) ?_
     replace hM := hM.p1
     obtain ⟨hg747, hx⟩ := xg_some hx
     refine w_push (f := fDPart) (⟨3, 4, []⟩ : DPart) rfl rfl Tryz.underlying48 sz95 rfl rfl rfl rfl (fun _ => rfl) hM (fun _ => zP (pV _ rfl) (zP (pV _ rfl) (zP (pN _ _) zN))) rfl hg747 rfl ?_; intro u745 s746 w744 hM
     refine was rfl rfl ?_
     refine wl_nil ?_
     refine bk_n ?_
     refine sq_n ?_
     refine wc_sr ?_
     refine wmv rfl rfl ?_
     refine wv rfl (r_lenC Tryz.underlying48 rfl (hM.seeO (.head _))) ?_
     refine wv rfl (r_gtr rfl rfl) ?_
     refine wl_sq ?_
     refine wc_cond rfl (fun hc752 => ?_) (fun hc752 => ?_)
     ·
      replace hx := xif_t hc752 hx
      refine wc_sr ?_
      refine wmv rfl rfl ?_
      refine wmv rfl rfl ?_
      refine wv rfl (r_build (cells := #[(.int .i64 1), (.int .i64 (left605 - 4)), (.slice none 0 0)]) rfl (by kernel_rfl)) ?_
      obtain ⟨hg759, hx⟩ := xg_some hx
      refine w_push (f := fDPart) (⟨1, left605 - 4, []⟩ : DPart) rfl rfl Tryz.underlying48 sz95 rfl rfl rfl rfl (fun _ => rfl) hM (fun _ => zP (pV _ rfl) (zP (pV _ rfl) (zP (pN _ _) zN))) rfl hg759 rfl ?_; intro u757 s758 w756 hM
      refine was rfl rfl ?_
      refine wl_sq ?_
      refine wc_sr ?_
      refine was rfl rfl ?_
      refine wl_sq ?_
      refine wc_exit ?_
      refine bk_exit rfl ?_
      refine lp1_exit ?_
      obtain rfl := Option.some.inj hx
      obtain rfl := Option.some.inj hx619
      replace hx := hx603
      try dsimp only [Sum.elim_inl, Sum.elim_inr] at hx
      refine bk_here ?_
      refine sq_n ?_
      refine wc_sr ?_
      refine wmv rfl rfl ?_
      refine was rfl rfl ?_
      refine wl_sq ?_
      refine wc_ret ?_
      obtain rfl := Option.some.inj hx
      refine fin_ret [s758.v] ⟨rfl, trivial⟩ ?_
      replace hM := hM.t2
      have hM := hM.fewer (rsC (.head _) rsN)
      exact ⟨(s758, s730), rfl, hM.gives⟩
     ·
      replace hx := xif_f hc752 hx
      refine wc_skip ?_
      refine bk_n ?_
      obtain rfl := Option.some.inj hx
      replace hM := hM.p1
      have hM := hM.fewer (rsC (.head _) rsN)
      replace hM : St ⟨w, X, S⟩ [oBox b_c #[s730.v, (.int .i64 r727.2.i), (.int .i64 r727.2.h)] 78, oC (cSl 3 fDPart (o604 ++ [(⟨3, 4, []⟩ : DPart)])) s746.v] [rV s730.v (cSl 1 fY r727.2.b)] _ := hM
      exact lp_end (m617, o604 ++ [(⟨3, 4, []⟩ : DPart)], left605 - 4, room606, r727.2.b, r727.2.i, r727.2.h, s746, s730) (Nat.lt_succ_self _) ⟨rfl, rfl, rfl, rfl, trivial⟩ ⟨hM, hx619⟩
    ·
     replace hx := xif_f hc734 hx
     refine wc_skip ?_
     refine sq_n ?_
     refine wc_sr ?_
     refine wmv rfl rfl ?_
     refine wmv rfl rfl ?_
     obtain ⟨hg767, hx⟩ := xg_some hx
     refine wv rfl (r_sub rfl rfl hg767) ?_
     refine was rfl rfl ?_
     refine wl_sq ?_
     refine wc_region ?_
     refine wmv rfl rfl ?_
     refine wmv rfl rfl ?_
     refine wv rfl (r_build (cells := #[(.int .i64 3), (.int .i64 r727.1), (.slice none 0 0)]) rfl (by kernel_rfl)) ?_
     replace hM := hM.p1
     obtain ⟨hg775, hx⟩ := xg_some hx
     refine w_push (f := fDPart) (⟨3, r727.1, []⟩ : DPart) rfl rfl Tryz.underlying48 sz95 rfl rfl rfl rfl (fun _ => rfl) hM (fun _ => zP (pV _ rfl) (zP (pV _ rfl) (zP (pN _ _) zN))) rfl hg775 rfl ?_; intro u773 s774 w772 hM
     refine was rfl rfl ?_
     refine wl_nil ?_
     refine bk_n ?_
     refine sq_n ?_
     refine wc_sr ?_
     refine wmv rfl rfl ?_
     refine wv rfl (r_lenC Tryz.underlying48 rfl (hM.seeO (.head _))) ?_
     refine wv rfl (r_gtr rfl rfl) ?_
     refine wl_sq ?_
     refine wc_cond rfl (fun hc780 => ?_) (fun hc780 => ?_)
     ·
      replace hx := xif_t hc780 hx
      refine wc_sr ?_
      refine wmv rfl rfl ?_
      refine wmv rfl rfl ?_
      refine wv rfl (r_build (cells := #[(.int .i64 1), (.int .i64 (left605 - r727.1)), (.slice none 0 0)]) rfl (by kernel_rfl)) ?_
      obtain ⟨hg787, hx⟩ := xg_some hx
      refine w_push (f := fDPart) (⟨1, left605 - r727.1, []⟩ : DPart) rfl rfl Tryz.underlying48 sz95 rfl rfl rfl rfl (fun _ => rfl) hM (fun _ => zP (pV _ rfl) (zP (pV _ rfl) (zP (pN _ _) zN))) rfl hg787 rfl ?_; intro u785 s786 w784 hM
      refine was rfl rfl ?_
      refine wl_sq ?_
      refine wc_sr ?_
      refine was rfl rfl ?_
      refine wl_sq ?_
      refine wc_exit ?_
      refine bk_exit rfl ?_
      refine lp1_exit ?_
      obtain rfl := Option.some.inj hx
      obtain rfl := Option.some.inj hx619
      replace hx := hx603
      try dsimp only [Sum.elim_inl, Sum.elim_inr] at hx
      refine bk_here ?_
      refine sq_n ?_
      refine wc_sr ?_
      refine wmv rfl rfl ?_
      refine was rfl rfl ?_
      refine wl_sq ?_
      refine wc_ret ?_
      obtain rfl := Option.some.inj hx
      refine fin_ret [s786.v] ⟨rfl, trivial⟩ ?_
      replace hM := hM.t2
      have hM := hM.fewer (rsC (.head _) rsN)
      exact ⟨(s786, s730), rfl, hM.gives⟩
     ·
      replace hx := xif_f hc780 hx
      refine wc_skip ?_
      refine bk_n ?_
      obtain rfl := Option.some.inj hx
      replace hM := hM.p1
      have hM := hM.fewer (rsC (.head _) rsN)
      replace hM : St ⟨w, X, S⟩ [oBox b_c #[s730.v, (.int .i64 r727.2.i), (.int .i64 r727.2.h)] 78, oC (cSl 3 fDPart (o604 ++ [(⟨3, r727.1, []⟩ : DPart)])) s774.v] [rV s730.v (cSl 1 fY r727.2.b)] _ := hM
      exact lp_end (m617, o604 ++ [(⟨3, r727.1, []⟩ : DPart)], left605 - r727.1, room606, r727.2.b, r727.2.i, r727.2.h, s774, s730) (Nat.lt_succ_self _) ⟨rfl, rfl, rfl, rfl, trivial⟩ ⟨hM, hx619⟩
   ·
    replace hx := xif_f hc722 hx
    refine wc_sr ?_
    refine wmv rfl rfl ?_
    refine wmv rfl rfl ?_
    obtain ⟨hg795, hx⟩ := xg_some hx
    refine wv rfl (r_add rfl rfl hg795) ?_
    obtain ⟨r796, h797, hx⟩ := bind_some' hx
    refine w_call rfl rfl (hM.callR (l := [oBox b_c #[s644.v, (.int .i64 r641.2.i), (.int .i64 r641.2.h)] 78]) fun X S oL hS hR => ct_spec_l01Below _ X S b_c r641.2 s644 (left605 + 1) hS (hR _ (.head _)) oL h797) ?_
    rintro _ w798 ⟨s799, rfl, hM⟩
    dsimp only [List.cons_append, List.nil_append] at hM
    refine was rfl rfl ?_
    refine wl_sq ?_
    refine wc_sr ?_
    refine wmv rfl rfl ?_
    refine wmv rfl rfl ?_
    obtain ⟨hg804, hx⟩ := xg_some hx
    refine wv rfl (r_sub rfl rfl hg804) ?_
    refine was rfl rfl ?_
    refine wl_sq ?_
    refine wc_region ?_
    refine wmv rfl rfl ?_
    refine wmv rfl rfl ?_
    refine wv rfl (r_build (cells := #[(.int .i64 1), (.int .i64 r796.1), (.slice none 0 0)]) rfl (by kernel_rfl)) ?_
    replace hM := hM.p1
    obtain ⟨hg812, hx⟩ := xg_some hx
    refine w_push (f := fDPart) (⟨1, r796.1, []⟩ : DPart) rfl rfl Tryz.underlying48 sz95 rfl rfl rfl rfl (fun _ => rfl) hM (fun _ => zP (pV _ rfl) (zP (pV _ rfl) (zP (pN _ _) zN))) rfl hg812 rfl ?_; intro u810 s811 w809 hM
    refine was rfl rfl ?_
    refine wl_nil ?_
    refine bk_n ?_
    refine sq_n ?_
    refine wc_sr ?_
    refine wmv rfl rfl ?_
    refine wv rfl (r_lenC Tryz.underlying48 rfl (hM.seeO (.head _))) ?_
    refine wv rfl (r_gtr rfl rfl) ?_
    refine wl_sq ?_
    refine wc_cond rfl (fun hc817 => ?_) (fun hc817 => ?_)
    ·
     replace hx := xif_t hc817 hx
     refine wc_sr ?_
     refine wmv rfl rfl ?_
     refine wmv rfl rfl ?_
     refine wv rfl (r_build (cells := #[(.int .i64 1), (.int .i64 (left605 - r796.1)), (.slice none 0 0)]) rfl (by kernel_rfl)) ?_
     obtain ⟨hg824, hx⟩ := xg_some hx
     refine w_push (f := fDPart) (⟨1, left605 - r796.1, []⟩ : DPart) rfl rfl Tryz.underlying48 sz95 rfl rfl rfl rfl (fun _ => rfl) hM (fun _ => zP (pV _ rfl) (zP (pV _ rfl) (zP (pN _ _) zN))) rfl hg824 rfl ?_; intro u822 s823 w821 hM
     refine was rfl rfl ?_
     refine wl_sq ?_
     refine wc_sr ?_
     refine was rfl rfl ?_
     refine wl_sq ?_
     refine wc_exit ?_
     refine bk_exit rfl ?_
     refine lp1_exit ?_
     obtain rfl := Option.some.inj hx
     obtain rfl := Option.some.inj hx619
     replace hx := hx603
     try dsimp only [Sum.elim_inl, Sum.elim_inr] at hx
     refine bk_here ?_
     refine sq_n ?_
     refine wc_sr ?_
     refine wmv rfl rfl ?_
     refine was rfl rfl ?_
     refine wl_sq ?_
     refine wc_ret ?_
     obtain rfl := Option.some.inj hx
     refine fin_ret [s823.v] ⟨rfl, trivial⟩ ?_
     replace hM := hM.t2
     have hM := hM.fewer (rsC (.head _) rsN)
     exact ⟨(s823, s799), rfl, hM.gives⟩
    ·
     replace hx := xif_f hc817 hx
     refine wc_skip ?_
     refine bk_n ?_
     obtain rfl := Option.some.inj hx
     replace hM := hM.p1
     have hM := hM.fewer (rsC (.head _) rsN)
     replace hM : St ⟨w, X, S⟩ [oBox b_c #[s799.v, (.int .i64 r796.2.i), (.int .i64 r796.2.h)] 78, oC (cSl 3 fDPart (o604 ++ [(⟨1, r796.1, []⟩ : DPart)])) s811.v] [rV s799.v (cSl 1 fY r796.2.b)] _ := hM
     exact lp_end (m617, o604 ++ [(⟨1, r796.1, []⟩ : DPart)], left605 - r796.1, room606, r796.2.b, r796.2.i, r796.2.h, s811, s799) (Nat.lt_succ_self _) ⟨rfl, rfl, rfl, rfl, trivial⟩ ⟨hM, hx619⟩
 ·
  replace hx := xif_f hc639 hx
  refine wc_exit ?_
  refine sq_exit ?_
  refine lp1_exit ?_
  obtain rfl := Option.some.inj hx
  obtain rfl := Option.some.inj hx619
  replace hx := hx603
  try dsimp only [Sum.elim_inl, Sum.elim_inr] at hx
  refine bk_here ?_
  refine sq_n ?_
  refine wc_sr ?_
  refine wmv rfl rfl ?_
  refine was rfl rfl ?_
  refine wl_sq ?_
  refine wc_ret ?_
  obtain rfl := Option.some.inj hx
  refine fin_ret [s611.v] ⟨rfl, trivial⟩ ?_
  replace hM := hM.p1
  replace hM := hM.t2
  have hM := hM.fewer (rsC (.head _) rsN)
  exact ⟨(s611, s632), rfl, hM.gives⟩

noncomputable def x_spec_l08Copy (d : DDoc) : Option DDoc :=
  xg (0 + d.text.length ≤ 1099511627776) <| Option.bind (x_spec_l08Entries d.list) fun r31 => xg (0 + d.seen.length ≤ 1099511627776) <| some (⟨d.name, d.from_, [] ++ d.text, r31, [] ++ d.seen⟩ : DDoc)
theorem ct_spec_l08Copy (w : World) (X S : Bs) (d : DDoc) (s_d_2 : Sv) (s_d_3 : Sv) (s_d_4 : Sv) (hS : ∀ b, S b → b < w.heap.size ∧ ¬ X b) (a_d_2 : (cSl 1 fI d.text).rd S w s_d_2.v) (a_d_3 : (cSl 3 fDEntry d.list).rd S w s_d_3.v) (a_d_4 : (cSl 3 fDSeen d.seen).rd S w s_d_4.v) (oL : Sep [] X w) {r : DDoc} (hx : x_spec_l08Copy d = some r) :
  Ret Tryz.prog 82 [(.agg #[(.string d.name), (.int .i64 d.from_), s_d_2.v, s_d_3.v, s_d_4.v])] w (fun u w' => ∃ y : Sv × Sv × Sv, u = .agg #[(.string r.name), (.int .i64 r.from_), y.1.v, y.2.1.v, y.2.2.v] ∧ Gives X S w [oC (cSl 1 fI r.text) y.1.v, oC (cSl 3 fDEntry r.list) y.2.1.v, oC (cSl 3 fDSeen r.seen) y.2.2.v] [] w') := by
 unfold x_spec_l08Copy at hx
 refine enter Tryz.func82 rfl Tryz.ntmps82 (by kernel_rfl) rfl ?_
 have hM := St.enter oL hS
 have hM := hM.addE (r := rV s_d_2.v (cSl 1 fI d.text)) a_d_2
 have hM := hM.addE (r := rV s_d_3.v (cSl 3 fDEntry d.list)) a_d_3
 have hM := hM.addE (r := rV s_d_4.v (cSl 3 fDSeen d.seen)) a_d_4
 refine wc_sr ?_
 refine w_ex rfl (x_box rfl hM ?_); intro b56 w55 hR57 hM
 dsimp only [Value.cells] at hM
 refine w_ex rfl (x_alloc sz27 hM ?_); intro b60 w59 hR61 hM
 dsimp only [Value.cells] at hM
 refine wl_sq ?_
 refine wc_seq ?_
 obtain ⟨hg81, hx⟩ := xg_some hx
 obtain ⟨r85, h86, hx⟩ := bind_some' hx
 obtain ⟨hg100, hx⟩ := xg_some hx
 refine wc_mid (un fun (s80 : Sv) => un fun (s88 : Sv) => fun (s99 : Sv) => [(2, (.pointer (some ⟨b60, 0, none⟩)))]) (un fun (s80 : Sv) => un fun (s88 : Sv) => fun (s99 : Sv) w' => St ⟨w, X, S⟩ [oBox b60 #[(.string d.name), (.int .i64 d.from_), s80.v, s88.v, s99.v] 27, oC (cSl 1 fI ([] ++ d.text)) s80.v, oC (cSl 3 fDEntry r85) s88.v, oC (cSl 3 fDSeen ([] ++ d.seen)) s99.v] [] w') ?_ ?_
 ·
  refine wc_drawF Tryz_mixed ?_
  refine wf_run [(0, 0), (1, 0), (2, 0), (3, 0), (5, 0), (6, 0), (8, 0), (9, 0), (12, 0), (13, 0)] 7 rfl (by kernel_rfl) (by kernel_rfl) rfl ?_
  refine ov rfl (fun w' h' => r_fld Tryz.underlying27 rfl rfl sz9 rfl) ?_
  refine ov rfl (fun w' h' => r_ldB Tryz.underlying9 rfl rfl (hM.call h') (.tail _ (.head _)) rfl) ?_
  refine ov rfl (fun w' h' => r_fld Tryz.underlying27 rfl rfl sz3 rfl) ?_
  refine ov rfl (fun w' h' => r_ldB Tryz.underlying3 rfl rfl (hM.call h') (.tail _ (.head _)) rfl) ?_
  refine ov rfl (fun w' h' => r_fld Tryz.underlying27 rfl rfl sz23 rfl) ?_
  refine ov rfl (fun w' h' => r_ldB Tryz.underlying23 rfl rfl (hM.call h') (.tail _ (.head _)) rfl) ?_
  refine ov rfl (fun w' h' => r_fld Tryz.underlying27 rfl rfl sz24 rfl) ?_
  refine ov rfl (fun w' h' => r_ldB Tryz.underlying24 rfl rfl (hM.call h') (.tail _ (.head _)) rfl) ?_
  refine ov rfl (fun w' h' => r_fld Tryz.underlying27 rfl rfl sz25 rfl) ?_
  refine ov rfl (fun w' h' => r_ldB Tryz.underlying25 rfl rfl (hM.call h') (.tail _ (.head _)) rfl) ?_
  refine o_nilM hM fun w119 hM => ?_
  refine wf_fork [(4, 0), (11, 0)] 6 rfl (by kernel_rfl) rfl (by kernel_rfl) ⟨?_, ?_, trivial⟩
  ·
   refine o_ex1 rfl fun w124 h125 => ?_
   have hM := hM.call h125
   refine x_empty0 (f := fI) Tryz.underlying23 sz3 (fun _ => rfl) hM ?_; intro b122 w121 hR123 hM
   refine ⟨hR123, ?_⟩
   replace hM : St ⟨w, X, S⟩ [oC (cSl 1 fI ([] : List Int)) (⟨some ⟨b122, 0, none⟩, 0, 0⟩ : Sv).v, oBox b60 #[(.string ByteArray.empty), (.int .i64 0), (.slice none 0 0), (.slice none 0 0), (.slice none 0 0)] 27, oBox b56 #[(.string d.name), (.int .i64 d.from_), s_d_2.v, s_d_3.v, s_d_4.v] 27] [rV s_d_4.v (cSl 3 fDSeen d.seen), rV s_d_3.v (cSl 3 fDEntry d.list), rV s_d_2.v (cSl 1 fI d.text)] _ := hM
   refine o_nilM hM fun w127 hM => ?_
   refine wf_fork [(7, 0), (11, 0)] 5 rfl (by kernel_rfl) rfl (by kernel_rfl) ⟨?_, ?_, trivial⟩
   ·
    refine o_ex1 rfl fun w132 h133 => ?_
    have hM := hM.call h133
    refine x_append0 (f := fI) Tryz.underlying23 sz3 rfl rfl (hM.seeR (.tail _ (.tail _ (.head _)))) flI hM hg81 rfl ?_; intro s130 w129 hR131 hM
    refine ⟨hR131, ?_⟩
    refine o_nilM hM fun w134 hM => ?_
    refine wf_fork [(10, 0), (11, 0)] 4 rfl (by kernel_rfl) rfl (by kernel_rfl) ⟨?_, ?_, trivial⟩
    ·
     refine o_forced rfl rfl (fun w' h' => (hM.call h').callF fun X S oL hS hR hO => ct_spec_l08Entries _ X S d.list s_d_3 hS (hR _ (.tail _ (.head _))) oL h86) ?_
     rintro w138 h139 _ w136 ⟨hR140, s137, rfl, hM⟩
     refine ⟨hR140, ?_⟩
     dsimp only [List.cons_append, List.nil_append] at hM
     refine o_nilM hM fun w142 hM => ?_
     refine wf_end [(11, 1), (14, 1), (15, 0), (16, 2)] rfl (by kernel_rfl) (by kernel_rfl) rfl ?_
     refine o_ex1 rfl fun w147 h148 => ?_
     have hM := hM.call h148
     refine x_empty0 (f := fDSeen) Tryz.underlying25 sz83 (fun _ => rfl) hM ?_; intro b145 w144 hR146 hM
     refine ⟨hR146, ?_⟩
     replace hM : St ⟨w, X, S⟩ [oC (cSl 3 fDSeen ([] : List DSeen)) (⟨some ⟨b145, 0, none⟩, 0, 0⟩ : Sv).v, oC (cSl 3 fDEntry r85) s137.v, oC (cSl 1 fI ([] ++ d.text)) s130.v, oBox b60 #[(.string ByteArray.empty), (.int .i64 0), (.slice none 0 0), (.slice none 0 0), (.slice none 0 0)] 27, oBox b56 #[(.string d.name), (.int .i64 d.from_), s_d_2.v, s_d_3.v, s_d_4.v] 27] [rV s_d_4.v (cSl 3 fDSeen d.seen), rV s_d_3.v (cSl 3 fDEntry d.list), rV s_d_2.v (cSl 1 fI d.text)] _ := hM
     refine o_ex1 rfl fun w153 h154 => ?_
     have hM := hM.call h154
     refine x_append0 (f := fDSeen) Tryz.underlying25 sz83 rfl rfl (hM.seeR (.head _)) flDSeen hM hg100 rfl ?_; intro s151 w150 hR152 hM
     refine ⟨hR152, ?_⟩
     refine ov rfl (fun w' h' => r_build (cells := #[(.string d.name), (.int .i64 d.from_), s130.v, s137.v, s151.v]) rfl (by kernel_rfl)) ?_
     replace hM := hM.p3
     refine o_exu fun w158 h159 => ?_
     have hM := hM.call h159
     refine x_stB #[(.string d.name), (.int .i64 d.from_), s130.v, s137.v, s151.v] sz27 rfl rfl rfl rfl rfl rfl hM ?_; intro w156 hM
     refine o_nilM hM fun w160 hM => ?_
     replace hM := hM.p1.p2.p3.p3
     replace hM := hM.t4
     have hM := hM.fewer rsN
     replace hM : St ⟨w, X, S⟩ [oBox b60 #[(.string d.name), (.int .i64 d.from_), s130.v, s137.v, s151.v] 27, oC (cSl 1 fI ([] ++ d.text)) s130.v, oC (cSl 3 fDEntry r85) s137.v, oC (cSl 3 fDSeen ([] ++ d.seen)) s151.v] [] _ := hM
     exact mid_c (s130, s137, s151) ⟨rfl, trivial⟩ hM
    ·
     refine o_ex1 rfl fun w165 h166 => ?_
     have hM := hM.call h166
     refine x_empty0 (f := fDSeen) Tryz.underlying25 sz83 (fun _ => rfl) hM ?_; intro b163 w162 hR164 hM
     refine ⟨hR164, ?_⟩
     replace hM : St ⟨w, X, S⟩ [oC (cSl 3 fDSeen ([] : List DSeen)) (⟨some ⟨b163, 0, none⟩, 0, 0⟩ : Sv).v, oC (cSl 1 fI ([] ++ d.text)) s130.v, oBox b60 #[(.string ByteArray.empty), (.int .i64 0), (.slice none 0 0), (.slice none 0 0), (.slice none 0 0)] 27, oBox b56 #[(.string d.name), (.int .i64 d.from_), s_d_2.v, s_d_3.v, s_d_4.v] 27] [rV s_d_4.v (cSl 3 fDSeen d.seen), rV s_d_3.v (cSl 3 fDEntry d.list), rV s_d_2.v (cSl 1 fI d.text)] _ := hM
     refine o_nilM hM fun w168 hM => ?_
     refine wf_end [(10, 1), (14, 1), (15, 0), (16, 2)] rfl (by kernel_rfl) (by kernel_rfl) rfl ?_
     refine o_forced rfl rfl (fun w' h' => (hM.call h').callF fun X S oL hS hR hO => ct_spec_l08Entries _ X S d.list s_d_3 hS (hR _ (.tail _ (.head _))) oL h86) ?_
     rintro w172 h173 _ w170 ⟨hR174, s171, rfl, hM⟩
     refine ⟨hR174, ?_⟩
     dsimp only [List.cons_append, List.nil_append] at hM
     replace hM := hM.p1
     refine o_ex1 rfl fun w179 h180 => ?_
     have hM := hM.call h180
     refine x_append0 (f := fDSeen) Tryz.underlying25 sz83 rfl rfl (hM.seeR (.head _)) flDSeen hM hg100 rfl ?_; intro s177 w176 hR178 hM
     refine ⟨hR178, ?_⟩
     refine ov rfl (fun w' h' => r_build (cells := #[(.string d.name), (.int .i64 d.from_), s130.v, s171.v, s177.v]) rfl (by kernel_rfl)) ?_
     replace hM := hM.p3
     refine o_exu fun w184 h185 => ?_
     have hM := hM.call h185
     refine x_stB #[(.string d.name), (.int .i64 d.from_), s130.v, s171.v, s177.v] sz27 rfl rfl rfl rfl rfl rfl hM ?_; intro w182 hM
     refine o_nilM hM fun w186 hM => ?_
     replace hM := hM.p1.p2.p3.p3
     replace hM := hM.t4
     have hM := hM.fewer rsN
     replace hM : St ⟨w, X, S⟩ [oBox b60 #[(.string d.name), (.int .i64 d.from_), s130.v, s171.v, s177.v] 27, oC (cSl 1 fI ([] ++ d.text)) s130.v, oC (cSl 3 fDEntry r85) s171.v, oC (cSl 3 fDSeen ([] ++ d.seen)) s177.v] [] _ := hM
     exact mid_c (s130, s171, s177) ⟨rfl, trivial⟩ hM
   ·
    refine o_ex1 rfl fun w191 h192 => ?_
    have hM := hM.call h192
    refine x_empty0 (f := fDSeen) Tryz.underlying25 sz83 (fun _ => rfl) hM ?_; intro b189 w188 hR190 hM
    refine ⟨hR190, ?_⟩
    replace hM : St ⟨w, X, S⟩ [oC (cSl 3 fDSeen ([] : List DSeen)) (⟨some ⟨b189, 0, none⟩, 0, 0⟩ : Sv).v, oC (cSl 1 fI ([] : List Int)) (⟨some ⟨b122, 0, none⟩, 0, 0⟩ : Sv).v, oBox b60 #[(.string ByteArray.empty), (.int .i64 0), (.slice none 0 0), (.slice none 0 0), (.slice none 0 0)] 27, oBox b56 #[(.string d.name), (.int .i64 d.from_), s_d_2.v, s_d_3.v, s_d_4.v] 27] [rV s_d_4.v (cSl 3 fDSeen d.seen), rV s_d_3.v (cSl 3 fDEntry d.list), rV s_d_2.v (cSl 1 fI d.text)] _ := hM
    refine o_nilM hM fun w194 hM => ?_
    refine wf_end [(7, 1), (10, 1), (14, 1), (15, 0), (16, 2)] rfl (by kernel_rfl) (by kernel_rfl) rfl ?_
    replace hM := hM.p1
    refine o_ex1 rfl fun w199 h200 => ?_
    have hM := hM.call h200
    refine x_append0 (f := fI) Tryz.underlying23 sz3 rfl rfl (hM.seeR (.tail _ (.tail _ (.head _)))) flI hM hg81 rfl ?_; intro s197 w196 hR198 hM
    refine ⟨hR198, ?_⟩
    refine o_forced rfl rfl (fun w' h' => (hM.call h').callF fun X S oL hS hR hO => ct_spec_l08Entries _ X S d.list s_d_3 hS (hR _ (.tail _ (.head _))) oL h86) ?_
    rintro w203 h204 _ w201 ⟨hR205, s202, rfl, hM⟩
    refine ⟨hR205, ?_⟩
    dsimp only [List.cons_append, List.nil_append] at hM
    replace hM := hM.p2
    refine o_ex1 rfl fun w210 h211 => ?_
    have hM := hM.call h211
    refine x_append0 (f := fDSeen) Tryz.underlying25 sz83 rfl rfl (hM.seeR (.head _)) flDSeen hM hg100 rfl ?_; intro s208 w207 hR209 hM
    refine ⟨hR209, ?_⟩
    refine ov rfl (fun w' h' => r_build (cells := #[(.string d.name), (.int .i64 d.from_), s197.v, s202.v, s208.v]) rfl (by kernel_rfl)) ?_
    replace hM := hM.p3
    refine o_exu fun w215 h216 => ?_
    have hM := hM.call h216
    refine x_stB #[(.string d.name), (.int .i64 d.from_), s197.v, s202.v, s208.v] sz27 rfl rfl rfl rfl rfl rfl hM ?_; intro w213 hM
    refine o_nilM hM fun w217 hM => ?_
    replace hM := hM.p1.p2.p3.p3
    replace hM := hM.t4
    have hM := hM.fewer rsN
    replace hM : St ⟨w, X, S⟩ [oBox b60 #[(.string d.name), (.int .i64 d.from_), s197.v, s202.v, s208.v] 27, oC (cSl 1 fI ([] ++ d.text)) s197.v, oC (cSl 3 fDEntry r85) s202.v, oC (cSl 3 fDSeen ([] ++ d.seen)) s208.v] [] _ := hM
    exact mid_c (s197, s202, s208) ⟨rfl, trivial⟩ hM
  ·
   refine o_ex1 rfl fun w222 h223 => ?_
   have hM := hM.call h223
   refine x_empty0 (f := fDSeen) Tryz.underlying25 sz83 (fun _ => rfl) hM ?_; intro b220 w219 hR221 hM
   refine ⟨hR221, ?_⟩
   replace hM : St ⟨w, X, S⟩ [oC (cSl 3 fDSeen ([] : List DSeen)) (⟨some ⟨b220, 0, none⟩, 0, 0⟩ : Sv).v, oBox b60 #[(.string ByteArray.empty), (.int .i64 0), (.slice none 0 0), (.slice none 0 0), (.slice none 0 0)] 27, oBox b56 #[(.string d.name), (.int .i64 d.from_), s_d_2.v, s_d_3.v, s_d_4.v] 27] [rV s_d_4.v (cSl 3 fDSeen d.seen), rV s_d_3.v (cSl 3 fDEntry d.list), rV s_d_2.v (cSl 1 fI d.text)] _ := hM
   refine o_nilM hM fun w225 hM => ?_
   refine wf_end [(4, 1), (7, 1), (10, 1), (14, 1), (15, 0), (16, 2)] rfl (by kernel_rfl) (by kernel_rfl) rfl ?_
   refine o_ex1 rfl fun w230 h231 => ?_
   have hM := hM.call h231
   refine x_empty0 (f := fI) Tryz.underlying23 sz3 (fun _ => rfl) hM ?_; intro b228 w227 hR229 hM
   refine ⟨hR229, ?_⟩
   replace hM : St ⟨w, X, S⟩ [oC (cSl 1 fI ([] : List Int)) (⟨some ⟨b228, 0, none⟩, 0, 0⟩ : Sv).v, oC (cSl 3 fDSeen ([] : List DSeen)) (⟨some ⟨b220, 0, none⟩, 0, 0⟩ : Sv).v, oBox b60 #[(.string ByteArray.empty), (.int .i64 0), (.slice none 0 0), (.slice none 0 0), (.slice none 0 0)] 27, oBox b56 #[(.string d.name), (.int .i64 d.from_), s_d_2.v, s_d_3.v, s_d_4.v] 27] [rV s_d_4.v (cSl 3 fDSeen d.seen), rV s_d_3.v (cSl 3 fDEntry d.list), rV s_d_2.v (cSl 1 fI d.text)] _ := hM
   refine o_ex1 rfl fun w236 h237 => ?_
   have hM := hM.call h237
   refine x_append0 (f := fI) Tryz.underlying23 sz3 rfl rfl (hM.seeR (.tail _ (.tail _ (.head _)))) flI hM hg81 rfl ?_; intro s234 w233 hR235 hM
   refine ⟨hR235, ?_⟩
   refine o_forced rfl rfl (fun w' h' => (hM.call h').callF fun X S oL hS hR hO => ct_spec_l08Entries _ X S d.list s_d_3 hS (hR _ (.tail _ (.head _))) oL h86) ?_
   rintro w240 h241 _ w238 ⟨hR242, s239, rfl, hM⟩
   refine ⟨hR242, ?_⟩
   dsimp only [List.cons_append, List.nil_append] at hM
   replace hM := hM.p2
   refine o_ex1 rfl fun w247 h248 => ?_
   have hM := hM.call h248
   refine x_append0 (f := fDSeen) Tryz.underlying25 sz83 rfl rfl (hM.seeR (.head _)) flDSeen hM hg100 rfl ?_; intro s245 w244 hR246 hM
   refine ⟨hR246, ?_⟩
   refine ov rfl (fun w' h' => r_build (cells := #[(.string d.name), (.int .i64 d.from_), s234.v, s239.v, s245.v]) rfl (by kernel_rfl)) ?_
   replace hM := hM.p3
   refine o_exu fun w252 h253 => ?_
   have hM := hM.call h253
   refine x_stB #[(.string d.name), (.int .i64 d.from_), s234.v, s239.v, s245.v] sz27 rfl rfl rfl rfl rfl rfl hM ?_; intro w250 hM
   refine o_nilM hM fun w254 hM => ?_
   replace hM := hM.p1.p2.p3.p3
   replace hM := hM.t4
   have hM := hM.fewer rsN
   replace hM : St ⟨w, X, S⟩ [oBox b60 #[(.string d.name), (.int .i64 d.from_), s234.v, s239.v, s245.v] 27, oC (cSl 1 fI ([] ++ d.text)) s234.v, oC (cSl 3 fDEntry r85) s239.v, oC (cSl 3 fDSeen ([] ++ d.seen)) s245.v] [] _ := hM
   exact mid_c (s234, s239, s245) ⟨rfl, trivial⟩ hM
 rintro ⟨s80, s88, s99⟩ w256 hM
 refine sq_n ?_
 refine wc_ret ?_
 obtain rfl := Option.some.inj hx
 refine fin_ret [(.agg #[(.string d.name), (.int .i64 d.from_), s80.v, s88.v, s99.v])] ⟨rv_box Tryz.underlying27 sz27 rfl rfl hM (.head _), trivial⟩ ?_
 replace hM := hM.p3.p3.p3
 replace hM := hM.t3
 have hM := hM.fewer rsN
 exact ⟨(s80, s88, s99), rfl, hM.gives⟩

noncomputable def x_spec_OpsSince_b0 (_d : DDoc) (_rev : Int) (_k57 : Nat) (x115 : DEntry) (out58 : List (List DPart)) : Option (Lr (List (List DPart)) (List (List DPart))) :=
  Option.bind (x_spec_l02Copy (x115.o)) fun r103 => xg (out58.length < 1099511627776) <| some (Lr.go (out58 ++ [r103]))
noncomputable def x_spec_OpsSince_f0 (d : DDoc) (rev : Int) (k57 : Nat) (s116 : List (List DPart)) : Option (Lr (List (List DPart)) (List (List DPart))) := x_spec_OpsSince_b0 d rev k57 (el ((d.list.take d.list.length).drop ((rev - d.from_).toNat)) k57) s116
noncomputable def x_spec_OpsSince (d : DDoc) (rev : Int) : Option (List (List DPart) × Bool) :=
  Option.bind (x_spec_DocOk d) fun r8 => Option.bind (bif !r8 then (some true) else (Option.bind (x_spec_HeadRev d) fun r30 => Option.bind (x_spec_l01In rev d.from_ r30) fun r33 => some (!r33))) fun c13 => bif c13 then (some ([], false)) else (xg (inI (rev - d.from_)) <| xg (0 ≤ (rev - d.from_) ∧ (rev - d.from_) ≤ (d.list.length : Int)) <| Option.bind (eachN (x_spec_OpsSince_f0 d rev) (fun (s116 : List (List DPart)) => (s116 : List (List DPart))) ((d.list.take d.list.length).drop ((rev - d.from_).toNat)).length 0 []) fun (y117 : List (List DPart)) => some (y117, true))
theorem ct_spec_OpsSince (w : World) (X S : Bs) (d : DDoc) (s_d_2 : Sv) (s_d_3 : Sv) (s_d_4 : Sv) (rev : Int) (hS : ∀ b, S b → b < w.heap.size ∧ ¬ X b) (a_d_2 : (cSl 1 fI d.text).rd S w s_d_2.v) (a_d_3 : (cSl 3 fDEntry d.list).rd S w s_d_3.v) (a_d_4 : (cSl 3 fDSeen d.seen).rd S w s_d_4.v) (oL : Sep [] X w) {r : List (List DPart) × Bool} (hx : x_spec_OpsSince d rev = some r) :
  Ret Tryz.prog 96 [(.agg #[(.string d.name), (.int .i64 d.from_), s_d_2.v, s_d_3.v, s_d_4.v]), (.int .i64 rev)] w (fun u w' => ∃ y : Sv, u = .tuple #[y.v, (.bool r.2)] ∧ Gives X S w [oC (cSl 1 fLDPart r.1) y.v] [] w') := by
 unfold x_spec_OpsSince at hx
 refine enter Tryz.func96 rfl Tryz.ntmps96 (by kernel_rfl) rfl ?_
 have hM := St.enter oL hS
 have hM := hM.addE (r := rV s_d_2.v (cSl 1 fI d.text)) a_d_2
 have hM := hM.addE (r := rV s_d_3.v (cSl 3 fDEntry d.list)) a_d_3
 have hM := hM.addE (r := rV s_d_4.v (cSl 3 fDSeen d.seen)) a_d_4
 refine wc_sr ?_
 refine w_ex rfl (x_box rfl hM ?_); intro b124 w123 hR125 hM
 dsimp only [Value.cells] at hM
 refine was rfl rfl ?_
 refine was rfl rfl ?_
 refine wl_sq ?_
 refine wc_seq ?_
 refine wc_seq ?_
 refine wc_draw [(0, 0), (1, 0), (2, 0), (3, 0), (4, 0), (5, 0), (6, 0), (7, 0), (8, 0), (9, 0), (10, 0), (11, 0)] Tryz_mixed (by kernel_rfl) rfl (by kernel_rfl) rfl ?_
 refine ov rfl (fun w' h' => r_ldBS Tryz.underlying27 sz27 rfl (us := [(.string d.name), (.int .i64 d.from_), s_d_2.v, s_d_3.v, s_d_4.v]) rfl (hM.call h') (.head _) rfl) ?_
 obtain ⟨r130, h131, hx⟩ := bind_some' hx
 refine oc rfl rfl (fun w' h' => (hM.call h').callV fun X S oL hS hR hO => ct_spec_DocOk _ X S d s_d_2 s_d_3 s_d_4 hS (hR _ (.tail _ (.tail _ (.head _)))) (hR _ (.tail _ (.head _))) (hR _ (.head _)) oL h131) ?_
 refine ov rfl (fun w' h' => r_not rfl) ?_
 refine omv rfl rfl ?_
 obtain ⟨c135, hx, hx148⟩ := bind_some' hx
 refine wo_mid 8 [(20, (.bool c135)), (1, (.int .i64 rev)), (2, (.pointer (some ⟨b124, 0, none⟩)))] rfl ?_ ?_
 ·
  rcases Bool.eq_false_or_eq_true (!r130) with hg136 | hg136
  ·
   replace hx := xif_t hg136 hx
   refine ogs rfl (isB_no hg136) rfl ?_
   refine ogs rfl (isB_no hg136) rfl ?_
   refine ogs rfl (isB_no hg136) rfl ?_
   refine ogs rfl (isB_no hg136) rfl ?_
   refine ogs rfl (isB_no hg136) rfl ?_
   refine ogs rfl (isB_no hg136) rfl ?_
   refine ogs rfl (isB_no hg136) rfl ?_
   refine ov rfl (fun w' h' => p_t rfl hg136 rfl) ?_
   obtain rfl := Option.some.inj hx
   exact mid_onil ⟨rfl, rfl, rfl, trivial⟩
  ·
   replace hx := xif_f hg136 hx
   refine ogv rfl hg136 rfl (fun w' h' => r_move rfl) ?_
   refine ogv rfl hg136 rfl (fun w' h' => r_fld Tryz.underlying27 rfl rfl sz3 rfl) ?_
   refine ogv rfl hg136 rfl (fun w' h' => r_ldB Tryz.underlying3 rfl rfl (hM.call h') (.head _) rfl) ?_
   refine ogv rfl hg136 rfl (fun w' h' => r_ldBS Tryz.underlying27 sz27 rfl (us := [(.string d.name), (.int .i64 d.from_), s_d_2.v, s_d_3.v, s_d_4.v]) rfl (hM.call h') (.head _) rfl) ?_
   obtain ⟨r153, h154, hx⟩ := bind_some' hx
   refine ogc rfl hg136 rfl rfl (fun w' h' => (hM.call h').callV fun X S oL hS hR hO => ct_spec_HeadRev _ X S d s_d_2 s_d_3 s_d_4 hS (hR _ (.tail _ (.tail _ (.head _)))) (hR _ (.tail _ (.head _))) (hR _ (.head _)) oL h154) ?_
   obtain ⟨r156, h157, hx⟩ := bind_some' hx
   refine ogc rfl hg136 rfl rfl (fun w' h' => (hM.call h').callV fun X S oL hS hR hO => ct_spec_l01In _ X S rev d.from_ r153 hS  oL h157) ?_
   refine ogv rfl hg136 rfl (fun w' h' => r_not rfl) ?_
   refine ov rfl (fun w' h' => p_f rfl hg136 rfl) ?_
   obtain rfl := Option.some.inj hx
   exact mid_onil ⟨rfl, rfl, rfl, trivial⟩
 replace hx := hx148
 refine o_nilM hM fun w160 hM => ?_
 refine sq_n ?_
 refine wc_cond rfl (fun hc162 => ?_) (fun hc162 => ?_)
 ·
  replace hx := xif_t hc162 hx
  refine wc_sr ?_
  refine was rfl rfl ?_
  refine was rfl rfl ?_
  refine wl_sq ?_
  refine wc_ret ?_
  refine sq_ret ?_
  obtain rfl := Option.some.inj hx
  have hM := hM.nil0 (T := List DPart) 1 fLDPart
  refine fin_ret [nS.v, (.bool false)] ⟨rfl, rfl, trivial⟩ ?_
  replace hM := hM.t1
  have hM := hM.fewer rsN
  exact ⟨nS, rfl, hM.gives⟩
 ·
  replace hx := xif_f hc162 hx
  refine wc_skip ?_
  refine sq_n ?_
  refine wc_sr ?_
  refine w_ex rfl (x_empty (f := fLDPart) Tryz.underlying65 sz48 (fun _ => rfl) hM ?_); intro s167 w166 hR168 hM
  refine was rfl rfl ?_
  refine wl_sq ?_
  refine wc_seq ?_
  refine wc_sr ?_
  refine wv rfl (r_fld Tryz.underlying27 rfl rfl sz24 rfl) ?_
  refine wv rfl (r_ldB Tryz.underlying24 rfl rfl hM (.tail _ (.head _)) rfl) ?_
  refine wmv rfl rfl ?_
  refine wv rfl (r_fld Tryz.underlying27 rfl rfl sz3 rfl) ?_
  refine wv rfl (r_ldB Tryz.underlying3 rfl rfl hM (.tail _ (.head _)) rfl) ?_
  obtain ⟨hg177, hx⟩ := xg_some hx
  refine wv rfl (r_sub rfl rfl hg177) ?_
  obtain ⟨hg179, hx⟩ := xg_some hx
  have hM := hM.cutR (L := d.list) (f := fDEntry) (lo := ((rev - d.from_).toNat)) (hi := d.list.length) (fun _ => rfl) (by omega) (by omega) (.tail _ (.head _))
  refine wv rfl (r_slc_lo Tryz.underlying24 sz70 rfl rfl (hM.seeR (.tail _ (.tail _ (.head _)))) hg179) ?_
  refine wv rfl (r_lenC Tryz.underlying24 rfl (hM.seeR (.head _))) ?_
  refine wmv rfl rfl ?_
  refine wl_sq ?_
  refine wc_block ?_
  obtain ⟨y182, hx, hx183⟩ := bind_some' hx
  replace hM := hM.t1
  have hM := hM.fewer (rsC (.head _) rsN)
  replace hM : St ⟨w, X, S⟩ [oC (cSl 1 fLDPart ([] : List (List DPart))) s167.v] [rV (s_d_3.cut 3 ((rev - d.from_).toNat) d.list.length).v (cSl 3 fDEntry ((d.list.take d.list.length).drop ((rev - d.from_).toNat)))] _ := hM
  have hl190 := Cs.le (hM.seeR (.head _))
  refine wc_loop (un fun (m187 : Nat) => un fun (k188 : Nat) => un fun (out184 : List (List DPart)) => fun (s186 : Sv) => [(6, s186.v), (28, (s_d_3.cut 3 ((rev - d.from_).toNat) d.list.length).v), (29, (.int .i64 (((d.list.take d.list.length).drop ((rev - d.from_).toNat)).length : Int))), (30, (.int .i64 (k188 : Int)))]) (un fun (m187 : Nat) => un fun (k188 : Nat) => un fun (out184 : List (List DPart)) => fun (s186 : Sv) w' => St ⟨w, X, S⟩ [oC (cSl 1 fLDPart out184) s186.v] [rV (s_d_3.cut 3 ((rev - d.from_).toNat) d.list.length).v (cSl 3 fDEntry ((d.list.take d.list.length).drop ((rev - d.from_).toNat)))] w' ∧ eachN _ _ m187 k188 out184 = some y182 ∧ k188 + m187 = ((d.list.take d.list.length).drop ((rev - d.from_).toNat)).length) (fun p => p.1) (((d.list.take d.list.length).drop ((rev - d.from_).toNat)).length, 0, [], s167) ⟨rfl, rfl, rfl, rfl, trivial⟩ ⟨hM, hx, Nat.zero_add _⟩ ?_
  rintro ⟨m187, k188, out184, s186⟩ w191 ⟨hM, hx, hk189⟩
  refine wc_sr ?_
  refine wv rfl (r_lss rfl rfl) ?_
  refine wl_sq ?_
  refine wc_seq ?_
  refine wc_cond rfl (fun hc193 => ?_) (fun hc193 => ?_)
  ·
   replace hc193 := of_decide_eq_true hc193
   obtain ⟨m194, z195, rfl, hk189, hx, hx196⟩ := eachN_step hx hk189 hc193
   unfold x_spec_OpsSince_f0 x_spec_OpsSince_b0 at hx
   try dsimp only at hx
   refine wc_skip ?_
   refine sq_n ?_
   refine wc_seq ?_
   refine wc_block ?_
   refine wc_sr ?_
   have hi198 : k188 < ((d.list.take d.list.length).drop ((rev - d.from_).toNat)).length := by omega
   refine wv rfl (r_ixC Tryz.underlying24 sz70 rfl rfl (hM.seeR (.head _)) ⟨by omega, hc193⟩) ?_
   obtain ⟨s200, hM, hc201⟩ := hM.leaf (i := k188) (j := 2) (.head _) (fun _ => rfl) hi198 rfl
   refine wv rfl (r_ldC (o := k188 * 3) Tryz.underlying70 sz70 rfl (us := [(.int .i64 ((el ((d.list.take d.list.length).drop ((rev - d.from_).toNat)) k188).client)), (.int .i64 ((el ((d.list.take d.list.length).drop ((rev - d.from_).toNat)) k188).seq)), s200.v]) rfl (hM.seeR (.tail _ (.head _))) hi198 ⟨(Cs.get (i := k188) (j := 0) (hM.seeR (.tail _ (.head _))) (fun _ => rfl) hi198 rfl), (Cs.get (i := k188) (j := 1) (hM.seeR (.tail _ (.head _))) (fun _ => rfl) hi198 rfl), (hc201 _ (Rel.refl _)), trivial⟩) ?_
   refine w_ex rfl (x_alloc sz70 hM ?_); intro b203 w202 hR204 hM
   dsimp only [Value.cells] at hM
   refine w_exu (x_stB #[(.int .i64 ((el ((d.list.take d.list.length).drop ((rev - d.from_).toNat)) k188).client)), (.int .i64 ((el ((d.list.take d.list.length).drop ((rev - d.from_).toNat)) k188).seq)), s200.v] sz70 rfl rfl rfl rfl rfl rfl hM ?_); intro w206 hM
   refine wl_sq ?_
   refine wc_region ?_
   refine wmv rfl rfl ?_
   refine wv rfl (r_fld Tryz.underlying70 rfl rfl sz48 rfl) ?_
   refine wv rfl (r_ldB Tryz.underlying48 rfl rfl hM (.head _) rfl) ?_
   obtain ⟨r211, h212, hx⟩ := bind_some' hx
   refine w_call rfl rfl (hM.callO (l := []) fun X S oL hS hR hO => ct_spec_l02Copy _ X S ((el ((d.list.take d.list.length).drop ((rev - d.from_).toNat)) k188).o) s200 hS (hR _ (.head _)) oL h212) ?_
   rintro _ w213 ⟨s214, rfl, hM⟩
   dsimp only [List.cons_append, List.nil_append] at hM
   replace hM := hM.p2
   obtain ⟨hg219, hx⟩ := xg_some hx
   refine w_push (f := fLDPart) r211 rfl rfl Tryz.underlying65 sz48 rfl rfl rfl rfl (fun _ => rfl) hM (fun _ => zO zN) rfl hg219 rfl ?_; intro u217 s218 w216 hM
   refine was rfl rfl ?_
   refine wl_nil ?_
   refine bk_n ?_
   refine sq_n ?_
   refine wc_region ?_
   refine wv rfl (r_add rfl rfl ⟨by omega, by omega⟩) ?_
   refine wmv rfl rfl ?_
   refine wl_nil ?_
   obtain rfl := Option.some.inj hx
   replace hM := hM.t1
   have hM := hM.fewer (rsC (.tail _ (.head _)) rsN)
   replace hM : St ⟨w, X, S⟩ [oC (cSl 1 fLDPart (out184 ++ [r211])) s218.v] [rV (s_d_3.cut 3 ((rev - d.from_).toNat) d.list.length).v (cSl 3 fDEntry ((d.list.take d.list.length).drop ((rev - d.from_).toNat)))] _ := hM
   exact lp_end (m194, k188 + 1, out184 ++ [r211], s218) (Nat.lt_succ_self _) ⟨rfl, rfl, rfl, rfl, trivial⟩ ⟨hM, hx196, hk189⟩
  ·
   replace hc193 := of_decide_eq_false hc193
   obtain rfl := eachN_end hx hk189 hc193
   refine wc_exit ?_
   refine sq_exit ?_
   refine lp1_exit ?_
   replace hx := hx183
   try dsimp only [Sum.elim_inl, Sum.elim_inr] at hx
   refine bk_here ?_
   refine sq_n ?_
   refine wc_sr ?_
   refine wmv rfl rfl ?_
   refine was rfl rfl ?_
   refine was rfl rfl ?_
   refine wl_sq ?_
   refine wc_ret ?_
   obtain rfl := Option.some.inj hx
   refine fin_ret [s186.v, (.bool true)] ⟨rfl, rfl, trivial⟩ ?_
   replace hM := hM.t1
   have hM := hM.fewer rsN
   exact ⟨s186, rfl, hM.gives⟩

noncomputable def x_spec_l05Past_b0 (_l : List (List DPart)) (_k28 : Nat) (x113 : List DPart) (out29 : List (List DPart)) (at30 : List DPart) : Option (Lr (List (List DPart) × List DPart) (Sum (List (List DPart) × List DPart) Unit)) :=
  Option.bind (x_spec_Transform x113 at30) fun r83 => bif !r83.2.2 then (some (Lr.out (Sum.inr (())))) else (xg (out29.length < 1099511627776) <| some (Lr.go (out29 ++ [r83.1], r83.2.1)))
noncomputable def x_spec_l05Past_f0 (l : List (List DPart)) (k28 : Nat) (s114 : List (List DPart) × List DPart) : Option (Lr (List (List DPart) × List DPart) (Sum (List (List DPart) × List DPart) Unit)) := x_spec_l05Past_b0 l k28 (el l k28) s114.1 s114.2
noncomputable def x_spec_l05Past (l : List (List DPart)) (b : List DPart) : Option (List (List DPart) × List DPart × Bool) :=
  Option.bind (x_spec_OpOk b) fun r5 => bif !r5 then (some ([], [], false)) else (Option.bind (x_spec_OpNorm b) fun r19 => Option.bind (eachN (x_spec_l05Past_f0 l) (fun (s114 : List (List DPart) × List DPart) => (Sum.inl (s114.1, s114.2) : Sum (List (List DPart) × List DPart) Unit)) l.length 0 ([], r19)) fun (y115 : Sum (List (List DPart) × List DPart) Unit) => Sum.elim (fun y116 => some (y116.1, y116.2, true)) (fun _y117 => some ([], [], false)) y115)
theorem ct_spec_l05Past (w : World) (X S : Bs) (l : List (List DPart)) (s_l : Sv) (b : List DPart) (s_b : Sv) (hS : ∀ b, S b → b < w.heap.size ∧ ¬ X b) (a_l_0 : (cSl 1 fLDPart l).rd S w s_l.v) (a_b_0 : (cSl 3 fDPart b).rd S w s_b.v) (oL : Sep [] X w) {r : List (List DPart) × List DPart × Bool} (hx : x_spec_l05Past l b = some r) :
  Ret Tryz.prog 105 [s_l.v, s_b.v] w (fun u w' => ∃ y : Sv × Sv, u = .tuple #[y.1.v, y.2.v, (.bool r.2.2)] ∧ Gives X S w [oC (cSl 1 fLDPart r.1) y.1.v, oC (cSl 3 fDPart r.2.1) y.2.v] [] w') := by
 unfold x_spec_l05Past at hx
 refine enter Tryz.func105 rfl Tryz.ntmps105 (by kernel_rfl) rfl ?_
 have hM := St.enter oL hS
 have hM := hM.addE (r := rV s_l.v (cSl 1 fLDPart l)) a_l_0
 have hM := hM.addE (r := rV s_b.v (cSl 3 fDPart b)) a_b_0
 refine wc_sr ?_
 refine was rfl rfl ?_
 refine was rfl rfl ?_
 refine was rfl rfl ?_
 refine wl_sq ?_
 refine wc_seq ?_
 refine wc_sr ?_
 refine wmv rfl rfl ?_
 obtain ⟨r131, h132, hx⟩ := bind_some' hx
 refine w_call rfl rfl (hM.callV fun X S oL hS hR hO => ct_spec_OpOk _ X S b s_b hS (hR _ (.head _)) oL h132) ?_
 rintro _ w133 ⟨rfl, hR134⟩
 have hM := hM.call hR134
 refine wv rfl (r_not rfl) ?_
 refine wl_sq ?_
 refine wc_cond rfl (fun hc136 => ?_) (fun hc136 => ?_)
 ·
  replace hx := xif_t hc136 hx
  refine wc_sr ?_
  refine was rfl rfl ?_
  refine was rfl rfl ?_
  refine was rfl rfl ?_
  refine wl_sq ?_
  refine wc_ret ?_
  refine sq_ret ?_
  obtain rfl := Option.some.inj hx
  have hM := hM.nil0 (T := List DPart) 1 fLDPart
  have hM := hM.nil0 (T := DPart) 3 fDPart
  refine fin_ret [nS.v, nS.v, (.bool false)] ⟨rfl, rfl, rfl, trivial⟩ ?_
  replace hM := hM.p1
  replace hM := hM.t2
  have hM := hM.fewer rsN
  exact ⟨(nS, nS), rfl, hM.gives⟩
 ·
  replace hx := xif_f hc136 hx
  refine wc_skip ?_
  refine sq_n ?_
  refine wc_sr ?_
  refine w_ex rfl (x_empty (f := fLDPart) Tryz.underlying65 sz48 (fun _ => rfl) hM ?_); intro s143 w142 hR144 hM
  refine was rfl rfl ?_
  refine wl_sq ?_
  refine wc_sr ?_
  refine wmv rfl rfl ?_
  obtain ⟨r148, h149, hx⟩ := bind_some' hx
  refine w_call rfl rfl (hM.callO (l := []) fun X S oL hS hR hO => ct_spec_OpNorm _ X S b s_b hS (hR _ (.head _)) oL h149) ?_
  rintro _ w150 ⟨s151, rfl, hM⟩
  dsimp only [List.cons_append, List.nil_append] at hM
  refine was rfl rfl ?_
  refine wl_sq ?_
  refine wc_seq ?_
  refine wc_sr ?_
  refine wmv rfl rfl ?_
  refine wv rfl (r_lenC Tryz.underlying65 rfl (hM.seeR (.tail _ (.head _)))) ?_
  refine wmv rfl rfl ?_
  refine wl_sq ?_
  refine wc_block ?_
  obtain ⟨y157, hx, hx158⟩ := bind_some' hx
  replace hM := hM.p1
  have hM := hM.fewer (rsC (.tail _ (.head _)) rsN)
  replace hM : St ⟨w, X, S⟩ [oC (cSl 1 fLDPart ([] : List (List DPart))) s143.v, oC (cSl 3 fDPart r148) s151.v] [rV s_l.v (cSl 1 fLDPart l)] _ := hM
  have hl168 := Cs.le (hM.seeR (.head _))
  refine wc_loop (un fun (m165 : Nat) => un fun (k166 : Nat) => un fun (out159 : List (List DPart)) => un fun (at160 : List DPart) => un fun (s162 : Sv) => fun (s164 : Sv) => [(7, s162.v), (8, s164.v), (20, s_l.v), (21, (.int .i64 (l.length : Int))), (22, (.int .i64 (k166 : Int)))]) (un fun (m165 : Nat) => un fun (k166 : Nat) => un fun (out159 : List (List DPart)) => un fun (at160 : List DPart) => un fun (s162 : Sv) => fun (s164 : Sv) w' => St ⟨w, X, S⟩ [oC (cSl 1 fLDPart out159) s162.v, oC (cSl 3 fDPart at160) s164.v] [rV s_l.v (cSl 1 fLDPart l)] w' ∧ eachN _ _ m165 k166 (out159, at160) = some y157 ∧ k166 + m165 = l.length) (fun p => p.1) (l.length, 0, [], r148, s143, s151) ⟨rfl, rfl, rfl, rfl, rfl, trivial⟩ ⟨hM, hx, Nat.zero_add _⟩ ?_
  rintro ⟨m165, k166, out159, at160, s162, s164⟩ w169 ⟨hM, hx, hk167⟩
  refine wc_sr ?_
  refine wv rfl (r_lss rfl rfl) ?_
  refine wl_sq ?_
  refine wc_seq ?_
  refine wc_cond rfl (fun hc171 => ?_) (fun hc171 => ?_)
  ·
   replace hc171 := of_decide_eq_true hc171
   obtain ⟨m172, z173, rfl, hk167, hx, hx174⟩ := eachN_step hx hk167 hc171
   unfold x_spec_l05Past_f0 x_spec_l05Past_b0 at hx
   try dsimp only at hx
   refine wc_skip ?_
   refine sq_n ?_
   refine wc_seq ?_
   refine wc_block ?_
   refine wc_sr ?_
   have hi176 : k166 < l.length := by omega
   refine wv rfl (r_ixC Tryz.underlying65 sz48 rfl rfl (hM.seeR (.head _)) ⟨by omega, hc171⟩) ?_
   obtain ⟨s178, hM, hc179⟩ := hM.leaf (i := k166) (j := 0) (.head _) (fun _ => rfl) hi176 rfl
   refine wv rfl (r_ld Tryz.underlying48 rfl rfl (hc179 _ (Rel.refl _))) ?_
   refine was rfl rfl ?_
   refine wl_sq ?_
   refine wc_sr ?_
   refine wmv rfl rfl ?_
   refine wmv rfl rfl ?_
   obtain ⟨r183, h184, hx⟩ := bind_some' hx
   refine w_call rfl rfl (hM.callO (l := []) fun X S oL hS hR hO => ct_spec_Transform _ X S (el l k166) s178 at160 s164 hS (hR _ (.head _)) (seeA hO (.tail _ (.head _))) oL h184) ?_
   rintro _ w185 ⟨⟨s186, s187⟩, rfl, hM⟩
   dsimp only [List.cons_append, List.nil_append] at hM
   refine wmv rfl rfl ?_
   refine wv rfl (r_extract rfl rfl) ?_
   refine wv rfl (r_extract rfl rfl) ?_
   refine wv rfl (r_extract rfl rfl) ?_
   refine was rfl rfl ?_
   refine was rfl rfl ?_
   refine was rfl rfl ?_
   refine wl_sq ?_
   refine wc_seq ?_
   refine wc_sr ?_
   refine wmv rfl rfl ?_
   refine wv rfl (r_not rfl) ?_
   refine wl_sq ?_
   refine wc_cond rfl (fun hc199 => ?_) (fun hc199 => ?_)
   ·
    replace hx := xif_t hc199 hx
    refine wc_sr ?_
    refine was rfl rfl ?_
    refine was rfl rfl ?_
    refine was rfl rfl ?_
    refine wl_sq ?_
    refine wc_ret ?_
    refine sq_ret ?_
    refine bk_ret ?_
    refine sq_ret ?_
    refine lp1_ret ?_
    obtain rfl := Option.some.inj hx
    obtain rfl := Option.some.inj hx174
    replace hx := hx158
    try dsimp only [Sum.elim_inl, Sum.elim_inr] at hx
    refine bk_ret ?_
    refine sq_ret ?_
    obtain rfl := Option.some.inj hx
    have hM := hM.nil0 (T := List DPart) 1 fLDPart
    have hM := hM.nil0 (T := DPart) 3 fDPart
    refine fin_ret [nS.v, nS.v, (.bool false)] ⟨rfl, rfl, rfl, trivial⟩ ?_
    replace hM := hM.p1
    replace hM := hM.t2
    have hM := hM.fewer rsN
    exact ⟨(nS, nS), rfl, hM.gives⟩
   ·
    replace hx := xif_f hc199 hx
    refine wc_skip ?_
    refine sq_n ?_
    refine wc_sr ?_
    refine wmv rfl rfl ?_
    refine wmv rfl rfl ?_
    replace hM := hM.p2
    obtain ⟨hg210, hx⟩ := xg_some hx
    refine w_push (f := fLDPart) r183.1 rfl rfl Tryz.underlying65 sz48 rfl rfl rfl rfl (fun _ => rfl) hM (fun _ => zO zN) rfl hg210 rfl ?_; intro u208 s209 w207 hM
    refine was rfl rfl ?_
    refine wl_sq ?_
    refine wc_region ?_
    refine wmv rfl rfl ?_
    refine was rfl rfl ?_
    refine wl_nil ?_
    refine bk_n ?_
    refine sq_n ?_
    refine wc_region ?_
    refine wv rfl (r_add rfl rfl ⟨by omega, by omega⟩) ?_
    refine wmv rfl rfl ?_
    refine wl_nil ?_
    obtain rfl := Option.some.inj hx
    replace hM := hM.t2
    have hM := hM.fewer (rsC (.tail _ (.head _)) rsN)
    replace hM : St ⟨w, X, S⟩ [oC (cSl 1 fLDPart (out159 ++ [r183.1])) s209.v, oC (cSl 3 fDPart r183.2.1) s187.v] [rV s_l.v (cSl 1 fLDPart l)] _ := hM
    exact lp_end (m172, k166 + 1, out159 ++ [r183.1], r183.2.1, s209, s187) (Nat.lt_succ_self _) ⟨rfl, rfl, rfl, rfl, rfl, trivial⟩ ⟨hM, hx174, hk167⟩
  ·
   replace hc171 := of_decide_eq_false hc171
   obtain rfl := eachN_end hx hk167 hc171
   refine wc_exit ?_
   refine sq_exit ?_
   refine lp1_exit ?_
   replace hx := hx158
   try dsimp only [Sum.elim_inl, Sum.elim_inr] at hx
   refine bk_here ?_
   refine sq_n ?_
   refine wc_sr ?_
   refine wmv rfl rfl ?_
   refine wmv rfl rfl ?_
   refine was rfl rfl ?_
   refine was rfl rfl ?_
   refine was rfl rfl ?_
   refine wl_sq ?_
   refine wc_ret ?_
   obtain rfl := Option.some.inj hx
   refine fin_ret [s162.v, s164.v, (.bool true)] ⟨rfl, rfl, rfl, trivial⟩ ?_
   replace hM := hM.t2
   have hM := hM.fewer rsN
   exact ⟨(s162, s164), rfl, hM.gives⟩

noncomputable def x_spec_Past (l : List (List DPart)) (b : List DPart) : Option (List DPart × Bool) :=
  Option.bind (x_spec_l05Past l b) fun r5 => some (r5.2.1, r5.2.2)
theorem ct_spec_Past (w : World) (X S : Bs) (l : List (List DPart)) (s_l : Sv) (b : List DPart) (s_b : Sv) (hS : ∀ b, S b → b < w.heap.size ∧ ¬ X b) (a_l_0 : (cSl 1 fLDPart l).rd S w s_l.v) (a_b_0 : (cSl 3 fDPart b).rd S w s_b.v) (oL : Sep [] X w) {r : List DPart × Bool} (hx : x_spec_Past l b = some r) :
  Ret Tryz.prog 97 [s_l.v, s_b.v] w (fun u w' => ∃ y : Sv, u = .tuple #[y.v, (.bool r.2)] ∧ Gives X S w [oC (cSl 3 fDPart r.1) y.v] [] w') := by
 unfold x_spec_Past at hx
 refine enter Tryz.func97 rfl Tryz.ntmps97 (by kernel_rfl) rfl ?_
 have hM := St.enter oL hS
 have hM := hM.addE (r := rV s_l.v (cSl 1 fLDPart l)) a_l_0
 have hM := hM.addE (r := rV s_b.v (cSl 3 fDPart b)) a_b_0
 refine wc_sr ?_
 refine was rfl rfl ?_
 refine was rfl rfl ?_
 refine wl_sq ?_
 refine wc_sr ?_
 refine wmv rfl rfl ?_
 refine wmv rfl rfl ?_
 obtain ⟨r27, h28, hx⟩ := bind_some' hx
 refine w_call rfl rfl (hM.callO (l := []) fun X S oL hS hR hO => ct_spec_l05Past _ X S l s_l b s_b hS (hR _ (.tail _ (.head _))) (hR _ (.head _)) oL h28) ?_
 rintro _ w29 ⟨⟨s30, s31⟩, rfl, hM⟩
 dsimp only [List.cons_append, List.nil_append] at hM
 refine wmv rfl rfl ?_
 refine wv rfl (r_extract rfl rfl) ?_
 refine wv rfl (r_extract rfl rfl) ?_
 refine wv rfl (r_extract rfl rfl) ?_
 refine was rfl rfl ?_
 refine was rfl rfl ?_
 refine was rfl rfl ?_
 refine wl_sq ?_
 refine wc_sr ?_
 refine wmv rfl rfl ?_
 refine wmv rfl rfl ?_
 refine was rfl rfl ?_
 refine was rfl rfl ?_
 refine wl_sq ?_
 refine wc_ret ?_
 obtain rfl := Option.some.inj hx
 refine fin_ret [s31.v, (.bool r27.2.2)] ⟨rfl, rfl, trivial⟩ ?_
 replace hM := hM.p1
 replace hM := hM.t1
 have hM := hM.fewer rsN
 exact ⟨s31, rfl, hM.gives⟩

noncomputable def x_spec_HeadText (d : DDoc) : Option (List Int) :=
  Option.bind (x_spec_HeadRev d) fun r8 => Option.bind (x_spec_TextAt d r8) fun r11 => some r11.1
theorem ct_spec_HeadText (w : World) (X S : Bs) (d : DDoc) (s_d_2 : Sv) (s_d_3 : Sv) (s_d_4 : Sv) (hS : ∀ b, S b → b < w.heap.size ∧ ¬ X b) (a_d_2 : (cSl 1 fI d.text).rd S w s_d_2.v) (a_d_3 : (cSl 3 fDEntry d.list).rd S w s_d_3.v) (a_d_4 : (cSl 3 fDSeen d.seen).rd S w s_d_4.v) (oL : Sep [] X w) {r : List Int} (hx : x_spec_HeadText d = some r) :
  Ret Tryz.prog 98 [(.agg #[(.string d.name), (.int .i64 d.from_), s_d_2.v, s_d_3.v, s_d_4.v])] w (fun u w' => ∃ y : Sv, u = y.v ∧ Gives X S w [oC (cSl 1 fI r) y.v] [] w') := by
 unfold x_spec_HeadText at hx
 refine enter Tryz.func98 rfl Tryz.ntmps98 (by kernel_rfl) rfl ?_
 have hM := St.enter oL hS
 have hM := hM.addE (r := rV s_d_2.v (cSl 1 fI d.text)) a_d_2
 have hM := hM.addE (r := rV s_d_3.v (cSl 3 fDEntry d.list)) a_d_3
 have hM := hM.addE (r := rV s_d_4.v (cSl 3 fDSeen d.seen)) a_d_4
 refine wc_sr ?_
 refine w_ex rfl (x_box rfl hM ?_); intro b28 w27 hR29 hM
 dsimp only [Value.cells] at hM
 refine was rfl rfl ?_
 refine wl_sq ?_
 refine wc_seq ?_
 refine wc_draw [(0, 0), (1, 0), (2, 0), (3, 2), (4, 0), (5, 0), (6, 0), (7, 0), (8, 0)] Tryz_mixed (by kernel_rfl) rfl (by kernel_rfl) rfl ?_
 refine ov rfl (fun w' h' => r_ldBS Tryz.underlying27 sz27 rfl (us := [(.string d.name), (.int .i64 d.from_), s_d_2.v, s_d_3.v, s_d_4.v]) rfl (hM.call h') (.head _) rfl) ?_
 refine ov rfl (fun w' h' => r_ldBS Tryz.underlying27 sz27 rfl (us := [(.string d.name), (.int .i64 d.from_), s_d_2.v, s_d_3.v, s_d_4.v]) rfl (hM.call h') (.head _) rfl) ?_
 obtain ⟨r34, h35, hx⟩ := bind_some' hx
 refine oc rfl rfl (fun w' h' => (hM.call h').callV fun X S oL hS hR hO => ct_spec_HeadRev _ X S d s_d_2 s_d_3 s_d_4 hS (hR _ (.tail _ (.tail _ (.head _)))) (hR _ (.tail _ (.head _))) (hR _ (.head _)) oL h35) ?_
 obtain ⟨r37, h38, hx⟩ := bind_some' hx
 refine o_call rfl rfl (fun w' h' => (hM.call h').callO (l := []) fun X S oL hS hR hO => ct_spec_TextAt _ X S d s_d_2 s_d_3 s_d_4 r34 hS (hR _ (.tail _ (.tail _ (.head _)))) (hR _ (.tail _ (.head _))) (hR _ (.head _)) oL h38) ?_
 rintro w41 h42 _ w39 ⟨s40, rfl, hM⟩
 dsimp only [List.cons_append, List.nil_append] at hM
 refine omv rfl rfl ?_
 refine ov rfl (fun w' h' => r_extract rfl rfl) ?_
 refine ov rfl (fun w' h' => r_extract rfl rfl) ?_
 refine ov rfl (fun w' h' => r_assign rfl) ?_
 refine ov rfl (fun w' h' => r_assign rfl) ?_
 refine o_nilM hM fun w49 hM => ?_
 refine sq_n ?_
 refine wc_sr ?_
 refine wmv rfl rfl ?_
 refine was rfl rfl ?_
 refine wl_sq ?_
 refine wc_ret ?_
 obtain rfl := Option.some.inj hx
 refine fin_ret [s40.v] ⟨rfl, trivial⟩ ?_
 replace hM := hM.t1
 have hM := hM.fewer rsN
 exact ⟨s40, rfl, hM.gives⟩

noncomputable def x_spec_Rebase (d : DDoc) (base : Int) (o : List DPart) : Option (List DPart × Int) :=
  Option.bind (x_spec_DocOk d) fun r8 => Option.bind (bif !r8 then (some true) else (Option.bind (x_spec_OpOk o) fun r23 => some (!r23))) fun c14 => bif c14 then (some ([], 1)) else (Option.bind (x_spec_HeadRev d) fun r32 => bif decide (r32 < base) then (some ([], 2)) else (bif decide (base < d.from_) then (some ([], 3)) else (Option.bind (x_spec_TextAt d base) fun r47 => Option.bind (x_spec_OpFrom o) fun r58 => bif !decide (r58 = (r47.1.length : Int)) then (some ([], 1)) else (Option.bind (x_spec_OpsSince d base) fun r69 => Option.bind (x_spec_Past r69.1 o) fun r81 => bif !r81.2 then (some ([], 5)) else (Option.bind (x_spec_HeadText d) fun r97 => Option.bind (x_spec_Apply r81.1 r97) fun r102 => bif !r102.2 then (some ([], 5)) else (some (r81.1, 0)))))))
theorem ct_spec_Rebase (w : World) (X S : Bs) (d : DDoc) (s_d_2 : Sv) (s_d_3 : Sv) (s_d_4 : Sv) (base : Int) (o : List DPart) (s_o : Sv) (hS : ∀ b, S b → b < w.heap.size ∧ ¬ X b) (a_d_2 : (cSl 1 fI d.text).rd S w s_d_2.v) (a_d_3 : (cSl 3 fDEntry d.list).rd S w s_d_3.v) (a_d_4 : (cSl 3 fDSeen d.seen).rd S w s_d_4.v) (a_o_0 : (cSl 3 fDPart o).rd S w s_o.v) (oL : Sep [] X w) {r : List DPart × Int} (hx : x_spec_Rebase d base o = some r) :
  Ret Tryz.prog 83 [(.agg #[(.string d.name), (.int .i64 d.from_), s_d_2.v, s_d_3.v, s_d_4.v]), (.int .i64 base), s_o.v] w (fun u w' => ∃ y : Sv, u = .tuple #[y.v, (.int .i64 r.2)] ∧ Gives X S w [oC (cSl 3 fDPart r.1) y.v] [] w') := by
 unfold x_spec_Rebase at hx
 refine enter Tryz.func83 rfl Tryz.ntmps83 (by kernel_rfl) rfl ?_
 have hM := St.enter oL hS
 have hM := hM.addE (r := rV s_d_2.v (cSl 1 fI d.text)) a_d_2
 have hM := hM.addE (r := rV s_d_3.v (cSl 3 fDEntry d.list)) a_d_3
 have hM := hM.addE (r := rV s_d_4.v (cSl 3 fDSeen d.seen)) a_d_4
 have hM := hM.addE (r := rV s_o.v (cSl 3 fDPart o)) a_o_0
 refine wc_sr ?_
 refine w_ex rfl (x_box rfl hM ?_); intro b120 w119 hR121 hM
 dsimp only [Value.cells] at hM
 refine was rfl rfl ?_
 refine was rfl rfl ?_
 refine wl_sq ?_
 refine wc_seq ?_
 refine wc_sr ?_
 refine wv rfl (r_ldBS Tryz.underlying27 sz27 rfl (us := [(.string d.name), (.int .i64 d.from_), s_d_2.v, s_d_3.v, s_d_4.v]) rfl hM (.head _) rfl) ?_
 obtain ⟨r126, h127, hx⟩ := bind_some' hx
 refine w_call rfl rfl (hM.callV fun X S oL hS hR hO => ct_spec_DocOk _ X S d s_d_2 s_d_3 s_d_4 hS (hR _ (.tail _ (.tail _ (.tail _ (.head _))))) (hR _ (.tail _ (.tail _ (.head _)))) (hR _ (.tail _ (.head _))) oL h127) ?_
 rintro _ w128 ⟨rfl, hR129⟩
 have hM := hM.call hR129
 refine wv rfl (r_not rfl) ?_
 refine wmv rfl rfl ?_
 obtain ⟨c132, hx, hx140⟩ := bind_some' hx
 refine wl_mid 4 (fun _ : Unit => [(23, (.bool c132)), (1, (.int .i64 base)), (2, s_o.v), (3, (.pointer (some ⟨b120, 0, none⟩)))]) (fun _ w' => St ⟨w, X, S⟩ [oBox b120 #[(.string d.name), (.int .i64 d.from_), s_d_2.v, s_d_3.v, s_d_4.v] 27] [rV s_o.v (cSl 3 fDPart o), rV s_d_4.v (cSl 3 fDSeen d.seen), rV s_d_3.v (cSl 3 fDEntry d.list), rV s_d_2.v (cSl 1 fI d.text)] w') ?_ ?_
 ·
  rcases Bool.eq_false_or_eq_true (!r126) with hg133 | hg133
  ·
   replace hx := xif_t hg133 hx
   refine gs rfl (isB_no hg133) rfl ?_
   refine gs rfl (isB_no hg133) rfl ?_
   refine gs rfl (isB_no hg133) rfl ?_
   refine wv rfl (p_t rfl hg133 rfl) ?_
   obtain rfl := Option.some.inj hx
   exact mid_nil () ⟨rfl, rfl, rfl, rfl, trivial⟩ hM
  ·
   replace hx := xif_f hg133 hx
   refine gv rfl hg133 rfl (r_move rfl) ?_
   obtain ⟨r142, h143, hx⟩ := bind_some' hx
   refine gc rfl hg133 rfl rfl (hM.callV fun X S oL hS hR hO => ct_spec_OpOk _ X S o s_o hS (hR _ (.head _)) oL h143) ?_
   rintro _ w144 ⟨rfl, hR145⟩
   have hM := hM.call hR145
   refine gv rfl hg133 rfl (r_not rfl) ?_
   refine wv rfl (p_f rfl hg133 rfl) ?_
   obtain rfl := Option.some.inj hx
   exact mid_nil () ⟨rfl, rfl, rfl, rfl, trivial⟩ hM
 rintro _ w147 hM
 replace hx := hx140
 refine wl_sq ?_
 refine wc_cond rfl (fun hc148 => ?_) (fun hc148 => ?_)
 ·
  replace hx := xif_t hc148 hx
  refine wc_sr ?_
  refine was rfl rfl ?_
  refine was rfl rfl ?_
  refine wl_sq ?_
  refine wc_ret ?_
  refine sq_ret ?_
  obtain rfl := Option.some.inj hx
  have hM := hM.nil0 (T := DPart) 3 fDPart
  refine fin_ret [nS.v, (.int .i64 1)] ⟨rfl, rfl, trivial⟩ ?_
  replace hM := hM.t1
  have hM := hM.fewer rsN
  exact ⟨nS, rfl, hM.gives⟩
 ·
  replace hx := xif_f hc148 hx
  refine wc_skip ?_
  refine sq_n ?_
  refine wc_seq ?_
  refine wc_sr ?_
  refine wmv rfl rfl ?_
  refine wv rfl (r_ldBS Tryz.underlying27 sz27 rfl (us := [(.string d.name), (.int .i64 d.from_), s_d_2.v, s_d_3.v, s_d_4.v]) rfl hM (.head _) rfl) ?_
  obtain ⟨r154, h155, hx⟩ := bind_some' hx
  refine w_call rfl rfl (hM.callV fun X S oL hS hR hO => ct_spec_HeadRev _ X S d s_d_2 s_d_3 s_d_4 hS (hR _ (.tail _ (.tail _ (.tail _ (.head _))))) (hR _ (.tail _ (.tail _ (.head _)))) (hR _ (.tail _ (.head _))) oL h155) ?_
  rintro _ w156 ⟨rfl, hR157⟩
  have hM := hM.call hR157
  refine wv rfl (r_gtr rfl rfl) ?_
  refine wl_sq ?_
  refine wc_cond rfl (fun hc159 => ?_) (fun hc159 => ?_)
  ·
   replace hx := xif_t hc159 hx
   refine wc_sr ?_
   refine was rfl rfl ?_
   refine was rfl rfl ?_
   refine wl_sq ?_
   refine wc_ret ?_
   refine sq_ret ?_
   obtain rfl := Option.some.inj hx
   have hM := hM.nil0 (T := DPart) 3 fDPart
   refine fin_ret [nS.v, (.int .i64 2)] ⟨rfl, rfl, trivial⟩ ?_
   replace hM := hM.t1
   have hM := hM.fewer rsN
   exact ⟨nS, rfl, hM.gives⟩
  ·
   replace hx := xif_f hc159 hx
   refine wc_skip ?_
   refine sq_n ?_
   refine wc_seq ?_
   refine wc_sr ?_
   refine wmv rfl rfl ?_
   refine wv rfl (r_fld Tryz.underlying27 rfl rfl sz3 rfl) ?_
   refine wv rfl (r_ldB Tryz.underlying3 rfl rfl hM (.head _) rfl) ?_
   refine wv rfl (r_lss rfl rfl) ?_
   refine wl_sq ?_
   refine wc_cond rfl (fun hc167 => ?_) (fun hc167 => ?_)
   ·
    replace hx := xif_t hc167 hx
    refine wc_sr ?_
    refine was rfl rfl ?_
    refine was rfl rfl ?_
    refine wl_sq ?_
    refine wc_ret ?_
    refine sq_ret ?_
    obtain rfl := Option.some.inj hx
    have hM := hM.nil0 (T := DPart) 3 fDPart
    refine fin_ret [nS.v, (.int .i64 3)] ⟨rfl, rfl, trivial⟩ ?_
    replace hM := hM.t1
    have hM := hM.fewer rsN
    exact ⟨nS, rfl, hM.gives⟩
   ·
    replace hx := xif_f hc167 hx
    refine wc_skip ?_
    refine sq_n ?_
    refine wc_sr ?_
    refine wv rfl (r_ldBS Tryz.underlying27 sz27 rfl (us := [(.string d.name), (.int .i64 d.from_), s_d_2.v, s_d_3.v, s_d_4.v]) rfl hM (.head _) rfl) ?_
    refine wmv rfl rfl ?_
    obtain ⟨r173, h174, hx⟩ := bind_some' hx
    refine w_call rfl rfl (hM.callO (l := []) fun X S oL hS hR hO => ct_spec_TextAt _ X S d s_d_2 s_d_3 s_d_4 base hS (hR _ (.tail _ (.tail _ (.tail _ (.head _))))) (hR _ (.tail _ (.tail _ (.head _)))) (hR _ (.tail _ (.head _))) oL h174) ?_
    rintro _ w175 ⟨s176, rfl, hM⟩
    dsimp only [List.cons_append, List.nil_append] at hM
    refine wmv rfl rfl ?_
    refine wv rfl (r_extract rfl rfl) ?_
    refine wv rfl (r_extract rfl rfl) ?_
    refine was rfl rfl ?_
    refine was rfl rfl ?_
    refine wl_sq ?_
    refine wc_seq ?_
    refine wc_sr ?_
    refine wmv rfl rfl ?_
    obtain ⟨r184, h185, hx⟩ := bind_some' hx
    refine w_call rfl rfl (hM.callV fun X S oL hS hR hO => ct_spec_OpFrom _ X S o s_o hS (hR _ (.head _)) oL h185) ?_
    rintro _ w186 ⟨rfl, hR187⟩
    have hM := hM.call hR187
    refine wmv rfl rfl ?_
    refine wv rfl (r_lenC Tryz.underlying23 rfl (hM.seeO (.head _))) ?_
    refine wv rfl (r_neq rfl rfl) ?_
    refine wl_sq ?_
    refine wc_cond rfl (fun hc191 => ?_) (fun hc191 => ?_)
    ·
     replace hx := xif_t hc191 hx
     refine wc_sr ?_
     refine was rfl rfl ?_
     refine was rfl rfl ?_
     refine wl_sq ?_
     refine wc_ret ?_
     refine sq_ret ?_
     obtain rfl := Option.some.inj hx
     have hM := hM.nil0 (T := DPart) 3 fDPart
     refine fin_ret [nS.v, (.int .i64 1)] ⟨rfl, rfl, trivial⟩ ?_
     replace hM := hM.t1
     have hM := hM.fewer rsN
     exact ⟨nS, rfl, hM.gives⟩
    ·
     replace hx := xif_f hc191 hx
     refine wc_skip ?_
     refine sq_n ?_
     refine wc_sr ?_
     refine wv rfl (r_ldBS Tryz.underlying27 sz27 rfl (us := [(.string d.name), (.int .i64 d.from_), s_d_2.v, s_d_3.v, s_d_4.v]) rfl hM (.tail _ (.head _)) rfl) ?_
     refine wmv rfl rfl ?_
     obtain ⟨r197, h198, hx⟩ := bind_some' hx
     refine w_call rfl rfl (hM.callO (l := []) fun X S oL hS hR hO => ct_spec_OpsSince _ X S d s_d_2 s_d_3 s_d_4 base hS (hR _ (.tail _ (.tail _ (.tail _ (.head _))))) (hR _ (.tail _ (.tail _ (.head _)))) (hR _ (.tail _ (.head _))) oL h198) ?_
     rintro _ w199 ⟨s200, rfl, hM⟩
     dsimp only [List.cons_append, List.nil_append] at hM
     refine wmv rfl rfl ?_
     refine wv rfl (r_extract rfl rfl) ?_
     refine wv rfl (r_extract rfl rfl) ?_
     refine was rfl rfl ?_
     refine was rfl rfl ?_
     refine wl_sq ?_
     refine wc_sr ?_
     refine wmv rfl rfl ?_
     refine wmv rfl rfl ?_
     obtain ⟨r209, h210, hx⟩ := bind_some' hx
     refine w_call rfl rfl (hM.callO (l := []) fun X S oL hS hR hO => ct_spec_Past _ X S r197.1 s200 o s_o hS (seeA hO (.head _)) (hR _ (.head _)) oL h210) ?_
     rintro _ w211 ⟨s212, rfl, hM⟩
     dsimp only [List.cons_append, List.nil_append] at hM
     refine wmv rfl rfl ?_
     refine wv rfl (r_extract rfl rfl) ?_
     refine wv rfl (r_extract rfl rfl) ?_
     refine was rfl rfl ?_
     refine was rfl rfl ?_
     refine wl_sq ?_
     refine wc_seq ?_
     refine wc_sr ?_
     refine wmv rfl rfl ?_
     refine wv rfl (r_not rfl) ?_
     refine wl_sq ?_
     refine wc_cond rfl (fun hc221 => ?_) (fun hc221 => ?_)
     ·
      replace hx := xif_t hc221 hx
      refine wc_sr ?_
      refine was rfl rfl ?_
      refine was rfl rfl ?_
      refine wl_sq ?_
      refine wc_ret ?_
      refine sq_ret ?_
      obtain rfl := Option.some.inj hx
      have hM := hM.nil0 (T := DPart) 3 fDPart
      refine fin_ret [nS.v, (.int .i64 5)] ⟨rfl, rfl, trivial⟩ ?_
      replace hM := hM.t1
      have hM := hM.fewer rsN
      exact ⟨nS, rfl, hM.gives⟩
     ·
      replace hx := xif_f hc221 hx
      refine wc_skip ?_
      refine sq_n ?_
      refine wc_sr ?_
      refine wmv rfl rfl ?_
      refine wv rfl (r_ldBS Tryz.underlying27 sz27 rfl (us := [(.string d.name), (.int .i64 d.from_), s_d_2.v, s_d_3.v, s_d_4.v]) rfl hM (.tail _ (.tail _ (.tail _ (.head _)))) rfl) ?_
      obtain ⟨r227, h228, hx⟩ := bind_some' hx
      refine w_call rfl rfl (hM.callO (l := []) fun X S oL hS hR hO => ct_spec_HeadText _ X S d s_d_2 s_d_3 s_d_4 hS (hR _ (.tail _ (.tail _ (.tail _ (.head _))))) (hR _ (.tail _ (.tail _ (.head _)))) (hR _ (.tail _ (.head _))) oL h228) ?_
      rintro _ w229 ⟨s230, rfl, hM⟩
      dsimp only [List.cons_append, List.nil_append] at hM
      obtain ⟨r232, h233, hx⟩ := bind_some' hx
      refine w_call rfl rfl (hM.callO (l := []) fun X S oL hS hR hO => ct_spec_Apply _ X S r209.1 s212 r227 s230 hS (seeA hO (.tail _ (.head _))) (seeA hO (.head _)) oL h233) ?_
      rintro _ w234 ⟨s235, rfl, hM⟩
      dsimp only [List.cons_append, List.nil_append] at hM
      refine wmv rfl rfl ?_
      refine wv rfl (r_extract rfl rfl) ?_
      refine wv rfl (r_extract rfl rfl) ?_
      refine was rfl rfl ?_
      refine was rfl rfl ?_
      refine wl_sq ?_
      refine wc_seq ?_
      refine wc_sr ?_
      refine wmv rfl rfl ?_
      refine wv rfl (r_not rfl) ?_
      refine wl_sq ?_
      refine wc_cond rfl (fun hc244 => ?_) (fun hc244 => ?_)
      ·
       replace hx := xif_t hc244 hx
       refine wc_sr ?_
       refine was rfl rfl ?_
       refine was rfl rfl ?_
       refine wl_sq ?_
       refine wc_ret ?_
       refine sq_ret ?_
       obtain rfl := Option.some.inj hx
       have hM := hM.nil0 (T := DPart) 3 fDPart
       refine fin_ret [nS.v, (.int .i64 5)] ⟨rfl, rfl, trivial⟩ ?_
       replace hM := hM.t1
       have hM := hM.fewer rsN
       exact ⟨nS, rfl, hM.gives⟩
      ·
       replace hx := xif_f hc244 hx
       refine wc_skip ?_
       refine sq_n ?_
       refine wc_sr ?_
       refine wmv rfl rfl ?_
       refine was rfl rfl ?_
       refine was rfl rfl ?_
       refine wl_sq ?_
       refine wc_ret ?_
       obtain rfl := Option.some.inj hx
       refine fin_ret [s212.v, (.int .i64 0)] ⟨rfl, rfl, trivial⟩ ?_
       replace hM := hM.p2
       replace hM := hM.t1
       have hM := hM.fewer rsN
       exact ⟨s212, rfl, hM.gives⟩

noncomputable def x_spec_Submit_b0 (client : Int) (seq : Int) (r188 : Int) (_r159 : DDoc) (_k203 : Nat) (x324 : DSeen) (l204 : List DSeen) (done205 : Bool) : Option (Lr (List DSeen × Bool) (List DSeen × Bool)) :=
  bif decide ((x324.client) = client) then (some (Lr.go (l204, done205))) else (Option.bind (bif !done205 then (some (decide (client < (x324.client)))) else (some false)) fun c285 => bif c285 then (xg (l204.length < 1099511627776) <| xg ((l204 ++ [(⟨client, seq, r188⟩ : DSeen)]).length < 1099511627776) <| some (Lr.go ((l204 ++ [(⟨client, seq, r188⟩ : DSeen)]) ++ [x324], true))) else (xg (l204.length < 1099511627776) <| some (Lr.go (l204 ++ [x324], done205))))
noncomputable def x_spec_Submit_f0 (client : Int) (seq : Int) (r188 : Int) (r159 : DDoc) (k203 : Nat) (s325 : List DSeen × Bool) : Option (Lr (List DSeen × Bool) (List DSeen × Bool)) := x_spec_Submit_b0 client seq r188 r159 k203 (el r159.seen k203) s325.1 s325.2
noncomputable def x_spec_Submit (d : DDoc) (client : Int) (seq : Int) (base : Int) (o : List DPart) : Option (DDoc × Int × Int) :=
  Option.bind (x_spec_DocOk d) fun r12 => Option.bind (bif !r12 then (some true) else (Option.bind (x_spec_l01In client 1 8) fun r27 => some (!r27))) fun c18 => Option.bind (bif c18 then (some true) else (Option.bind (x_spec_l01In seq 1 1000000000) fun r42 => some (!r42))) fun c33 => Option.bind (bif c33 then (some true) else (Option.bind (x_spec_OpOk o) fun r57 => some (!r57))) fun c48 => bif c48 then (some ((⟨ByteArray.empty, 0, [], [], []⟩ : DDoc), 0, 1)) else (Option.bind (x_spec_SeenOf d client) fun r69 => Option.bind (bif r69.2 then (some (decide (r69.1.seq = seq))) else (some false)) fun c85 => bif c85 then (Option.bind (x_spec_l08Copy d) fun r98 => some (r98, r69.1.rev, 0)) else (xg (inI (r69.1.seq + 1)) <| bif !decide (seq = (r69.1.seq + 1)) then (some ((⟨ByteArray.empty, 0, [], [], []⟩ : DDoc), 0, 4)) else (Option.bind (x_spec_Rebase d base o) fun r129 => bif !decide (r129.2 = 0) then (some ((⟨ByteArray.empty, 0, [], [], []⟩ : DDoc), 0, r129.2)) else (Option.bind (x_spec_HeadRev d) fun r148 => bif decide ((999999000 : Int) ≤ r148) then (some ((⟨ByteArray.empty, 0, [], [], []⟩ : DDoc), 0, 5)) else (Option.bind (x_spec_l08Copy d) fun r159 => xg (r159.list.length < 1099511627776) <| Option.bind (x_spec_HeadRev (⟨r159.name, r159.from_, r159.text, r159.list ++ [(⟨client, seq, r129.1⟩ : DEntry)], r159.seen⟩ : DDoc)) fun r188 => Option.bind (eachN (x_spec_Submit_f0 client seq r188 r159) (fun (s325 : List DSeen × Bool) => ((s325.1, s325.2) : List DSeen × Bool)) r159.seen.length 0 ([], false)) fun (y326 : List DSeen × Bool) => bif !y326.2 then (xg (y326.1.length < 1099511627776) <| bif decide ((8 : Int) < ((r159.list ++ [(⟨client, seq, r129.1⟩ : DEntry)]).length : Int)) then (xg (0 ≤ (0 : Int) ∧ (0 : Int) < ((r159.list ++ [(⟨client, seq, r129.1⟩ : DEntry)]).length : Int)) <| Option.bind (x_spec_Apply ((el (r159.list ++ [(⟨client, seq, r129.1⟩ : DEntry)]) 0).o) r159.text) fun r360 => xg (0 ≤ (1 : Int) ∧ (1 : Int) ≤ ((r159.list ++ [(⟨client, seq, r129.1⟩ : DEntry)]).length : Int)) <| xg (inI (r159.from_ + 1)) <| some ((⟨r159.name, r159.from_ + 1, r360.1, ((r159.list ++ [(⟨client, seq, r129.1⟩ : DEntry)]).take ((r159.list ++ [(⟨client, seq, r129.1⟩ : DEntry)]).length)).drop 1, y326.1 ++ [(⟨client, seq, r188⟩ : DSeen)]⟩ : DDoc), r188, 0)) else (some ((⟨r159.name, r159.from_, r159.text, r159.list ++ [(⟨client, seq, r129.1⟩ : DEntry)], y326.1 ++ [(⟨client, seq, r188⟩ : DSeen)]⟩ : DDoc), r188, 0))) else (bif decide ((8 : Int) < ((r159.list ++ [(⟨client, seq, r129.1⟩ : DEntry)]).length : Int)) then (xg (0 ≤ (0 : Int) ∧ (0 : Int) < ((r159.list ++ [(⟨client, seq, r129.1⟩ : DEntry)]).length : Int)) <| Option.bind (x_spec_Apply ((el (r159.list ++ [(⟨client, seq, r129.1⟩ : DEntry)]) 0).o) r159.text) fun r420 => xg (0 ≤ (1 : Int) ∧ (1 : Int) ≤ ((r159.list ++ [(⟨client, seq, r129.1⟩ : DEntry)]).length : Int)) <| xg (inI (r159.from_ + 1)) <| some ((⟨r159.name, r159.from_ + 1, r420.1, ((r159.list ++ [(⟨client, seq, r129.1⟩ : DEntry)]).take ((r159.list ++ [(⟨client, seq, r129.1⟩ : DEntry)]).length)).drop 1, y326.1⟩ : DDoc), r188, 0)) else (some ((⟨r159.name, r159.from_, r159.text, r159.list ++ [(⟨client, seq, r129.1⟩ : DEntry)], y326.1⟩ : DDoc), r188, 0))))))))
theorem ct_spec_Submit (w : World) (X S : Bs) (d : DDoc) (s_d_2 : Sv) (s_d_3 : Sv) (s_d_4 : Sv) (client : Int) (seq : Int) (base : Int) (o : List DPart) (s_o : Sv) (hS : ∀ b, S b → b < w.heap.size ∧ ¬ X b) (a_d_2 : (cSl 1 fI d.text).rd S w s_d_2.v) (a_d_3 : (cSl 3 fDEntry d.list).rd S w s_d_3.v) (a_d_4 : (cSl 3 fDSeen d.seen).rd S w s_d_4.v) (a_o_0 : (cSl 3 fDPart o).rd S w s_o.v) (oL : Sep [] X w) {r : DDoc × Int × Int} (hx : x_spec_Submit d client seq base o = some r) :
  Ret Tryz.prog 62 [(.agg #[(.string d.name), (.int .i64 d.from_), s_d_2.v, s_d_3.v, s_d_4.v]), (.int .i64 client), (.int .i64 seq), (.int .i64 base), s_o.v] w (fun u w' => ∃ y : Sv × Sv × Sv, u = .tuple #[.agg #[(.string r.1.name), (.int .i64 r.1.from_), y.1.v, y.2.1.v, y.2.2.v], (.int .i64 r.2.1), (.int .i64 r.2.2)] ∧ Gives X S w [oC (cSl 1 fI r.1.text) y.1.v, oC (cSl 3 fDEntry r.1.list) y.2.1.v, oC (cSl 3 fDSeen r.1.seen) y.2.2.v] [] w') := by
 unfold x_spec_Submit at hx
 refine enter Tryz.func62 rfl Tryz.ntmps62 (by kernel_rfl) rfl ?_
 have hM := St.enter oL hS
 have hM := hM.addE (r := rV s_d_2.v (cSl 1 fI d.text)) a_d_2
 have hM := hM.addE (r := rV s_d_3.v (cSl 3 fDEntry d.list)) a_d_3
 have hM := hM.addE (r := rV s_d_4.v (cSl 3 fDSeen d.seen)) a_d_4
 have hM := hM.addE (r := rV s_o.v (cSl 3 fDPart o)) a_o_0
 refine wc_sr ?_
 refine w_ex rfl (x_box rfl hM ?_); intro b462 w461 hR463 hM
 dsimp only [Value.cells] at hM
 refine w_ex rfl (x_alloc sz27 hM ?_); intro b466 w465 hR467 hM
 dsimp only [Value.cells] at hM
 refine was rfl rfl ?_
 refine was rfl rfl ?_
 refine wl_sq ?_
 refine wc_seq ?_
 refine wc_sr ?_
 refine wv rfl (r_ldBS Tryz.underlying27 sz27 rfl (us := [(.string d.name), (.int .i64 d.from_), s_d_2.v, s_d_3.v, s_d_4.v]) rfl hM (.tail _ (.head _)) rfl) ?_
 obtain ⟨r472, h473, hx⟩ := bind_some' hx
 refine w_call rfl rfl (hM.callV fun X S oL hS hR hO => ct_spec_DocOk _ X S d s_d_2 s_d_3 s_d_4 hS (hR _ (.tail _ (.tail _ (.tail _ (.head _))))) (hR _ (.tail _ (.tail _ (.head _)))) (hR _ (.tail _ (.head _))) oL h473) ?_
 rintro _ w474 ⟨rfl, hR475⟩
 have hM := hM.call hR475
 refine wv rfl (r_not rfl) ?_
 refine wmv rfl rfl ?_
 obtain ⟨c478, hx, hx486⟩ := bind_some' hx
 refine wl_mid 4 (fun _ : Unit => [(30, (.bool c478)), (1, (.int .i64 client)), (2, (.int .i64 seq)), (3, (.int .i64 base)), (4, s_o.v), (5, (.pointer (some ⟨b462, 0, none⟩))), (10, (.pointer (some ⟨b466, 0, none⟩)))]) (fun _ w' => St ⟨w, X, S⟩ [oBox b466 #[(.string ByteArray.empty), (.int .i64 0), (.slice none 0 0), (.slice none 0 0), (.slice none 0 0)] 27, oBox b462 #[(.string d.name), (.int .i64 d.from_), s_d_2.v, s_d_3.v, s_d_4.v] 27] [rV s_o.v (cSl 3 fDPart o), rV s_d_4.v (cSl 3 fDSeen d.seen), rV s_d_3.v (cSl 3 fDEntry d.list), rV s_d_2.v (cSl 1 fI d.text)] w') ?_ ?_
 ·
  rcases Bool.eq_false_or_eq_true (!r472) with hg479 | hg479
  ·
   replace hx := xif_t hg479 hx
   refine gs rfl (isB_no hg479) rfl ?_
   refine gs rfl (isB_no hg479) rfl ?_
   refine gs rfl (isB_no hg479) rfl ?_
   refine wv rfl (p_t rfl hg479 rfl) ?_
   obtain rfl := Option.some.inj hx
   exact mid_nil () ⟨rfl, rfl, rfl, rfl, rfl, rfl, rfl, trivial⟩ hM
  ·
   replace hx := xif_f hg479 hx
   refine gv rfl hg479 rfl (r_move rfl) ?_
   obtain ⟨r488, h489, hx⟩ := bind_some' hx
   refine gc rfl hg479 rfl rfl (hM.callV fun X S oL hS hR hO => ct_spec_l01In _ X S client (1 : Int) (8 : Int) hS  oL h489) ?_
   rintro _ w490 ⟨rfl, hR491⟩
   have hM := hM.call hR491
   refine gv rfl hg479 rfl (r_not rfl) ?_
   refine wv rfl (p_f rfl hg479 rfl) ?_
   obtain rfl := Option.some.inj hx
   exact mid_nil () ⟨rfl, rfl, rfl, rfl, rfl, rfl, rfl, trivial⟩ hM
 rintro _ w493 hM
 replace hx := hx486
 refine wmv rfl rfl ?_
 obtain ⟨c495, hx, hx503⟩ := bind_some' hx
 refine wl_mid 4 (fun _ : Unit => [(35, (.bool c495)), (1, (.int .i64 client)), (2, (.int .i64 seq)), (3, (.int .i64 base)), (4, s_o.v), (5, (.pointer (some ⟨b462, 0, none⟩))), (10, (.pointer (some ⟨b466, 0, none⟩)))]) (fun _ w' => St ⟨w, X, S⟩ [oBox b466 #[(.string ByteArray.empty), (.int .i64 0), (.slice none 0 0), (.slice none 0 0), (.slice none 0 0)] 27, oBox b462 #[(.string d.name), (.int .i64 d.from_), s_d_2.v, s_d_3.v, s_d_4.v] 27] [rV s_o.v (cSl 3 fDPart o), rV s_d_4.v (cSl 3 fDSeen d.seen), rV s_d_3.v (cSl 3 fDEntry d.list), rV s_d_2.v (cSl 1 fI d.text)] w') ?_ ?_
 ·
  rcases Bool.eq_false_or_eq_true c478 with hg496 | hg496
  ·
   replace hx := xif_t hg496 hx
   refine gs rfl (isB_no hg496) rfl ?_
   refine gs rfl (isB_no hg496) rfl ?_
   refine gs rfl (isB_no hg496) rfl ?_
   refine wv rfl (p_t rfl hg496 rfl) ?_
   obtain rfl := Option.some.inj hx
   exact mid_nil () ⟨rfl, rfl, rfl, rfl, rfl, rfl, rfl, trivial⟩ hM
  ·
   replace hx := xif_f hg496 hx
   refine gv rfl hg496 rfl (r_move rfl) ?_
   obtain ⟨r505, h506, hx⟩ := bind_some' hx
   refine gc rfl hg496 rfl rfl (hM.callV fun X S oL hS hR hO => ct_spec_l01In _ X S seq (1 : Int) (1000000000 : Int) hS  oL h506) ?_
   rintro _ w507 ⟨rfl, hR508⟩
   have hM := hM.call hR508
   refine gv rfl hg496 rfl (r_not rfl) ?_
   refine wv rfl (p_f rfl hg496 rfl) ?_
   obtain rfl := Option.some.inj hx
   exact mid_nil () ⟨rfl, rfl, rfl, rfl, rfl, rfl, rfl, trivial⟩ hM
 rintro _ w510 hM
 replace hx := hx503
 refine wmv rfl rfl ?_
 obtain ⟨c512, hx, hx520⟩ := bind_some' hx
 refine wl_mid 4 (fun _ : Unit => [(40, (.bool c512)), (1, (.int .i64 client)), (2, (.int .i64 seq)), (3, (.int .i64 base)), (4, s_o.v), (5, (.pointer (some ⟨b462, 0, none⟩))), (10, (.pointer (some ⟨b466, 0, none⟩)))]) (fun _ w' => St ⟨w, X, S⟩ [oBox b466 #[(.string ByteArray.empty), (.int .i64 0), (.slice none 0 0), (.slice none 0 0), (.slice none 0 0)] 27, oBox b462 #[(.string d.name), (.int .i64 d.from_), s_d_2.v, s_d_3.v, s_d_4.v] 27] [rV s_o.v (cSl 3 fDPart o), rV s_d_4.v (cSl 3 fDSeen d.seen), rV s_d_3.v (cSl 3 fDEntry d.list), rV s_d_2.v (cSl 1 fI d.text)] w') ?_ ?_
 ·
  rcases Bool.eq_false_or_eq_true c495 with hg513 | hg513
  ·
   replace hx := xif_t hg513 hx
   refine gs rfl (isB_no hg513) rfl ?_
   refine gs rfl (isB_no hg513) rfl ?_
   refine gs rfl (isB_no hg513) rfl ?_
   refine wv rfl (p_t rfl hg513 rfl) ?_
   obtain rfl := Option.some.inj hx
   exact mid_nil () ⟨rfl, rfl, rfl, rfl, rfl, rfl, rfl, trivial⟩ hM
  ·
   replace hx := xif_f hg513 hx
   refine gv rfl hg513 rfl (r_move rfl) ?_
   obtain ⟨r522, h523, hx⟩ := bind_some' hx
   refine gc rfl hg513 rfl rfl (hM.callV fun X S oL hS hR hO => ct_spec_OpOk _ X S o s_o hS (hR _ (.head _)) oL h523) ?_
   rintro _ w524 ⟨rfl, hR525⟩
   have hM := hM.call hR525
   refine gv rfl hg513 rfl (r_not rfl) ?_
   refine wv rfl (p_f rfl hg513 rfl) ?_
   obtain rfl := Option.some.inj hx
   exact mid_nil () ⟨rfl, rfl, rfl, rfl, rfl, rfl, rfl, trivial⟩ hM
 rintro _ w527 hM
 replace hx := hx520
 refine wl_sq ?_
 refine wc_cond rfl (fun hc528 => ?_) (fun hc528 => ?_)
 ·
  replace hx := xif_t hc528 hx
  refine wc_sr ?_
  refine wv rfl (r_build (cells := #[(.string ByteArray.empty), (.int .i64 0), (.slice none 0 0), (.slice none 0 0), (.slice none 0 0)]) rfl (by kernel_rfl)) ?_
  refine w_exu (x_stB #[(.string ByteArray.empty), (.int .i64 0), (.slice none 0 0), (.slice none 0 0), (.slice none 0 0)] sz27 rfl rfl rfl rfl rfl rfl hM ?_); intro w530 hM
  refine was rfl rfl ?_
  refine was rfl rfl ?_
  refine wl_sq ?_
  refine wc_ret ?_
  refine sq_ret ?_
  obtain rfl := Option.some.inj hx
  have hM := hM.nil0 (T := Int) 1 fI
  have hM := hM.nil0 (T := DEntry) 3 fDEntry
  have hM := hM.nil0 (T := DSeen) 3 fDSeen
  refine fin_ret [(.agg #[(.string ByteArray.empty), (.int .i64 0), nS.v, nS.v, nS.v]), (.int .i64 0), (.int .i64 1)] ⟨rv_box Tryz.underlying27 sz27 rfl rfl hM (.tail _ (.tail _ (.tail _ (.head _)))), rfl, rfl, trivial⟩ ?_
  replace hM := hM.p1.p2
  replace hM := hM.t3
  have hM := hM.fewer rsN
  exact ⟨(nS, nS, nS), rfl, hM.gives⟩
 ·
  replace hx := xif_f hc528 hx
  refine wc_skip ?_
  refine sq_n ?_
  refine wc_sr ?_
  refine wv rfl (r_ldBS Tryz.underlying27 sz27 rfl (us := [(.string d.name), (.int .i64 d.from_), s_d_2.v, s_d_3.v, s_d_4.v]) rfl hM (.tail _ (.head _)) rfl) ?_
  refine wmv rfl rfl ?_
  obtain ⟨r539, h540, hx⟩ := bind_some' hx
  refine w_call rfl rfl (hM.callV fun X S oL hS hR hO => ct_spec_SeenOf _ X S d s_d_2 s_d_3 s_d_4 client hS (hR _ (.tail _ (.tail _ (.tail _ (.head _))))) (hR _ (.tail _ (.tail _ (.head _)))) (hR _ (.tail _ (.head _))) oL h540) ?_
  rintro _ w541 ⟨rfl, hR542⟩
  have hM := hM.call hR542
  refine wmv rfl rfl ?_
  refine wv rfl (r_extract rfl rfl) ?_
  refine wv rfl (r_extract rfl rfl) ?_
  refine w_ex rfl (x_alloc sz83 hM ?_); intro b547 w546 hR548 hM
  dsimp only [Value.cells] at hM
  refine w_exu (x_stB #[(.int .i64 r539.1.client), (.int .i64 r539.1.seq), (.int .i64 r539.1.rev)] sz83 rfl rfl rfl rfl rfl rfl hM ?_); intro w550 hM
  refine was rfl rfl ?_
  refine wl_sq ?_
  refine wc_seq ?_
  refine wc_sr ?_
  refine wmv rfl rfl ?_
  refine wmv rfl rfl ?_
  obtain ⟨c555, hx, hx561⟩ := bind_some' hx
  refine wl_mid 5 (fun _ : Unit => [(54, (.bool c555)), (1, (.int .i64 client)), (2, (.int .i64 seq)), (3, (.int .i64 base)), (4, s_o.v), (5, (.pointer (some ⟨b462, 0, none⟩))), (10, (.pointer (some ⟨b466, 0, none⟩))), (13, (.pointer (some ⟨b547, 0, none⟩)))]) (fun _ w' => St ⟨w, X, S⟩ [oBox b547 #[(.int .i64 r539.1.client), (.int .i64 r539.1.seq), (.int .i64 r539.1.rev)] 83, oBox b466 #[(.string ByteArray.empty), (.int .i64 0), (.slice none 0 0), (.slice none 0 0), (.slice none 0 0)] 27, oBox b462 #[(.string d.name), (.int .i64 d.from_), s_d_2.v, s_d_3.v, s_d_4.v] 27] [rV s_o.v (cSl 3 fDPart o), rV s_d_4.v (cSl 3 fDSeen d.seen), rV s_d_3.v (cSl 3 fDEntry d.list), rV s_d_2.v (cSl 1 fI d.text)] w') ?_ ?_
  ·
   rcases Bool.eq_false_or_eq_true r539.2 with hg556 | hg556
   ·
    replace hx := xif_t hg556 hx
    refine gv rfl hg556 rfl (r_fld Tryz.underlying83 rfl rfl sz3 rfl) ?_
    refine gv rfl hg556 rfl (r_ldB Tryz.underlying3 rfl rfl hM (.head _) rfl) ?_
    refine gv rfl hg556 rfl (r_move rfl) ?_
    refine gv rfl hg556 rfl (r_eql rfl rfl) ?_
    refine wv rfl (p_t rfl hg556 rfl) ?_
    obtain rfl := Option.some.inj hx
    exact mid_nil () ⟨rfl, rfl, rfl, rfl, rfl, rfl, rfl, rfl, trivial⟩ hM
   ·
    replace hx := xif_f hg556 hx
    refine gs rfl (isB_no hg556) rfl ?_
    refine gs rfl (isB_no hg556) rfl ?_
    refine gs rfl (isB_no hg556) rfl ?_
    refine gs rfl (isB_no hg556) rfl ?_
    refine wv rfl (p_f rfl hg556 rfl) ?_
    obtain rfl := Option.some.inj hx
    exact mid_nil () ⟨rfl, rfl, rfl, rfl, rfl, rfl, rfl, rfl, trivial⟩ hM
  rintro _ w566 hM
  replace hx := hx561
  refine wl_sq ?_
  refine wc_cond rfl (fun hc567 => ?_) (fun hc567 => ?_)
  ·
   replace hx := xif_t hc567 hx
   refine wc_seq ?_
   obtain ⟨r571, h572, hx⟩ := bind_some' hx
   refine wc_mid (un fun (s574 : Sv) => un fun (s575 : Sv) => fun (s576 : Sv) => [(10, (.pointer (some ⟨b466, 0, none⟩))), (11, (.int .i64 r539.1.rev)), (12, (.int .i64 0))]) (un fun (s574 : Sv) => un fun (s575 : Sv) => fun (s576 : Sv) w' => St ⟨w, X, S⟩ [oBox b466 #[(.string r571.name), (.int .i64 r571.from_), s574.v, s575.v, s576.v] 27, oC (cSl 1 fI r571.text) s574.v, oC (cSl 3 fDEntry r571.list) s575.v, oC (cSl 3 fDSeen r571.seen) s576.v] [] w') ?_ ?_
   ·
    refine wc_drawM (fun w' => ∃ m rs, St ⟨w, X, S⟩ m rs w' ∧ oBox b547 #[(.int .i64 r539.1.client), (.int .i64 r539.1.seq), (.int .i64 r539.1.rev)] 83 ∈ m) Tryz_mixed ?_
    refine wm_run [(0, 0)] 6 (fun _ h' => ⟨_, _, hM.call h', (.head _)⟩) rfl rfl (by kernel_rfl) (by kernel_rfl) rfl ?_
    refine ov rfl (fun w' h' => r_ldBS Tryz.underlying27 sz27 rfl (us := [(.string d.name), (.int .i64 d.from_), s_d_2.v, s_d_3.v, s_d_4.v]) rfl (hM.call h') (.tail _ (.tail _ (.head _))) rfl) ?_
    refine o_nilM hM fun w589 hM => ?_
    refine wm_free 2 5 rfl rfl (by kernel_rfl) (by kernel_rfl) rfl (fun _ _ => r_fld Tryz.underlying83 rfl rfl sz3 rfl) ?_
    refine wm_free 3 4 rfl rfl (by kernel_rfl) (by kernel_rfl) rfl (fun _ ⟨_, _, hM, q0⟩ => r_ldB Tryz.underlying3 rfl rfl hM q0 rfl) ?_
    refine wm_run [(1, 2)] 3 (fun _ h' => ⟨_, _, hM.call h', (.head _)⟩) rfl rfl (by kernel_rfl) (by kernel_rfl) rfl ?_
    refine o_call rfl rfl (fun w' h' => (hM.call h').callO (l := []) fun X S oL hS hR hO => ct_spec_l08Copy _ X S d s_d_2 s_d_3 s_d_4 hS (hR _ (.tail _ (.tail _ (.tail _ (.head _))))) (hR _ (.tail _ (.tail _ (.head _)))) (hR _ (.tail _ (.head _))) oL h572) ?_
    rintro w597 h598 _ w593 ⟨⟨s594, s595, s596⟩, rfl, hM⟩
    dsimp only [List.cons_append, List.nil_append] at hM
    refine o_nilM hM fun w602 hM => ?_
    refine wm_run [(4, 2), (5, 0), (6, 0)] 0 (fun _ h' => ⟨_, _, hM.call h', (.tail _ (.tail _ (.tail _ (.head _))))⟩) rfl rfl (by kernel_rfl) (by kernel_rfl) rfl ?_
    replace hM := hM.p4
    refine o_exu fun w606 h607 => ?_
    have hM := hM.call h607
    refine x_stB #[(.string r571.name), (.int .i64 r571.from_), s594.v, s595.v, s596.v] sz27 rfl rfl rfl rfl rfl rfl hM ?_; intro w604 hM
    refine ov rfl (fun w' h' => r_assign rfl) ?_
    refine ov rfl (fun w' h' => r_assign rfl) ?_
    refine o_nilM hM fun w610 hM => ?_
    refine wm_end (fun _ h' => ⟨_, _, hM.call h', (.tail _ (.tail _ (.tail _ (.tail _ (.head _)))))⟩) (by kernel_rfl) fun w612 hw613 => ?_
    have hM := hM.call hw613
    replace hM := hM.t4
    have hM := hM.fewer rsN
    replace hM : St ⟨w, X, S⟩ [oBox b466 #[(.string r571.name), (.int .i64 r571.from_), s594.v, s595.v, s596.v] 27, oC (cSl 1 fI r571.text) s594.v, oC (cSl 3 fDEntry r571.list) s595.v, oC (cSl 3 fDSeen r571.seen) s596.v] [] _ := hM
    exact mid_c (s594, s595, s596) ⟨rfl, rfl, rfl, trivial⟩ hM
   rintro ⟨s574, s575, s576⟩ w614 hM
   refine sq_n ?_
   refine wc_ret ?_
   refine sq_ret ?_
   obtain rfl := Option.some.inj hx
   refine fin_ret [(.agg #[(.string r571.name), (.int .i64 r571.from_), s574.v, s575.v, s576.v]), (.int .i64 r539.1.rev), (.int .i64 0)] ⟨rv_box Tryz.underlying27 sz27 rfl rfl hM (.head _), rfl, rfl, trivial⟩ ?_
   replace hM := hM.p3.p3.p3
   replace hM := hM.t3
   have hM := hM.fewer rsN
   exact ⟨(s574, s575, s576), rfl, hM.gives⟩
  ·
   replace hx := xif_f hc567 hx
   refine wc_skip ?_
   refine sq_n ?_
   refine wc_seq ?_
   refine wc_sr ?_
   refine wmv rfl rfl ?_
   refine wv rfl (r_fld Tryz.underlying83 rfl rfl sz3 rfl) ?_
   refine wv rfl (r_ldB Tryz.underlying3 rfl rfl hM (.head _) rfl) ?_
   obtain ⟨hg619, hx⟩ := xg_some hx
   refine wv rfl (r_add rfl rfl hg619) ?_
   refine wv rfl (r_neq rfl rfl) ?_
   refine wl_sq ?_
   refine wc_cond rfl (fun hc621 => ?_) (fun hc621 => ?_)
   ·
    replace hx := xif_t hc621 hx
    refine wc_sr ?_
    refine wv rfl (r_build (cells := #[(.string ByteArray.empty), (.int .i64 0), (.slice none 0 0), (.slice none 0 0), (.slice none 0 0)]) rfl (by kernel_rfl)) ?_
    replace hM := hM.p1
    refine w_exu (x_stB #[(.string ByteArray.empty), (.int .i64 0), (.slice none 0 0), (.slice none 0 0), (.slice none 0 0)] sz27 rfl rfl rfl rfl rfl rfl hM ?_); intro w623 hM
    refine was rfl rfl ?_
    refine was rfl rfl ?_
    refine wl_sq ?_
    refine wc_ret ?_
    refine sq_ret ?_
    obtain rfl := Option.some.inj hx
    have hM := hM.nil0 (T := Int) 1 fI
    have hM := hM.nil0 (T := DEntry) 3 fDEntry
    have hM := hM.nil0 (T := DSeen) 3 fDSeen
    refine fin_ret [(.agg #[(.string ByteArray.empty), (.int .i64 0), nS.v, nS.v, nS.v]), (.int .i64 0), (.int .i64 4)] ⟨rv_box Tryz.underlying27 sz27 rfl rfl hM (.tail _ (.tail _ (.tail _ (.head _)))), rfl, rfl, trivial⟩ ?_
    replace hM := hM.p1.p2
    replace hM := hM.t3
    have hM := hM.fewer rsN
    exact ⟨(nS, nS, nS), rfl, hM.gives⟩
   ·
    replace hx := xif_f hc621 hx
    refine wc_skip ?_
    refine sq_n ?_
    refine wc_sr ?_
    refine wv rfl (r_ldBS Tryz.underlying27 sz27 rfl (us := [(.string d.name), (.int .i64 d.from_), s_d_2.v, s_d_3.v, s_d_4.v]) rfl hM (.tail _ (.tail _ (.head _))) rfl) ?_
    refine wmv rfl rfl ?_
    refine wmv rfl rfl ?_
    obtain ⟨r633, h634, hx⟩ := bind_some' hx
    refine w_call rfl rfl (hM.callO (l := []) fun X S oL hS hR hO => ct_spec_Rebase _ X S d s_d_2 s_d_3 s_d_4 base o s_o hS (hR _ (.tail _ (.tail _ (.tail _ (.head _))))) (hR _ (.tail _ (.tail _ (.head _)))) (hR _ (.tail _ (.head _))) (hR _ (.head _)) oL h634) ?_
    rintro _ w635 ⟨s636, rfl, hM⟩
    dsimp only [List.cons_append, List.nil_append] at hM
    refine wmv rfl rfl ?_
    refine wv rfl (r_extract rfl rfl) ?_
    refine wv rfl (r_extract rfl rfl) ?_
    refine was rfl rfl ?_
    refine was rfl rfl ?_
    refine wl_sq ?_
    refine wc_seq ?_
    refine wc_sr ?_
    refine wmv rfl rfl ?_
    refine wv rfl (r_neq rfl rfl) ?_
    refine wl_sq ?_
    refine wc_cond rfl (fun hc645 => ?_) (fun hc645 => ?_)
    ·
     replace hx := xif_t hc645 hx
     refine wc_sr ?_
     refine wv rfl (r_build (cells := #[(.string ByteArray.empty), (.int .i64 0), (.slice none 0 0), (.slice none 0 0), (.slice none 0 0)]) rfl (by kernel_rfl)) ?_
     refine wmv rfl rfl ?_
     replace hM := hM.p2
     refine w_exu (x_stB #[(.string ByteArray.empty), (.int .i64 0), (.slice none 0 0), (.slice none 0 0), (.slice none 0 0)] sz27 rfl rfl rfl rfl rfl rfl hM ?_); intro w648 hM
     refine was rfl rfl ?_
     refine was rfl rfl ?_
     refine wl_sq ?_
     refine wc_ret ?_
     refine sq_ret ?_
     obtain rfl := Option.some.inj hx
     have hM := hM.nil0 (T := Int) 1 fI
     have hM := hM.nil0 (T := DEntry) 3 fDEntry
     have hM := hM.nil0 (T := DSeen) 3 fDSeen
     refine fin_ret [(.agg #[(.string ByteArray.empty), (.int .i64 0), nS.v, nS.v, nS.v]), (.int .i64 0), (.int .i64 r633.2)] ⟨rv_box Tryz.underlying27 sz27 rfl rfl hM (.tail _ (.tail _ (.tail _ (.head _)))), rfl, rfl, trivial⟩ ?_
     replace hM := hM.p1.p2
     replace hM := hM.t3
     have hM := hM.fewer rsN
     exact ⟨(nS, nS, nS), rfl, hM.gives⟩
    ·
     replace hx := xif_f hc645 hx
     refine wc_skip ?_
     refine sq_n ?_
     refine wc_seq ?_
     refine wc_sr ?_
     refine wv rfl (r_ldBS Tryz.underlying27 sz27 rfl (us := [(.string d.name), (.int .i64 d.from_), s_d_2.v, s_d_3.v, s_d_4.v]) rfl hM (.tail _ (.tail _ (.tail _ (.head _)))) rfl) ?_
     obtain ⟨r656, h657, hx⟩ := bind_some' hx
     refine w_call rfl rfl (hM.callV fun X S oL hS hR hO => ct_spec_HeadRev _ X S d s_d_2 s_d_3 s_d_4 hS (hR _ (.tail _ (.tail _ (.tail _ (.head _))))) (hR _ (.tail _ (.tail _ (.head _)))) (hR _ (.tail _ (.head _))) oL h657) ?_
     rintro _ w658 ⟨rfl, hR659⟩
     have hM := hM.call hR659
     refine wv rfl (r_geq rfl rfl) ?_
     refine wl_sq ?_
     refine wc_cond rfl (fun hc661 => ?_) (fun hc661 => ?_)
     ·
      replace hx := xif_t hc661 hx
      refine wc_sr ?_
      refine wv rfl (r_build (cells := #[(.string ByteArray.empty), (.int .i64 0), (.slice none 0 0), (.slice none 0 0), (.slice none 0 0)]) rfl (by kernel_rfl)) ?_
      replace hM := hM.p2
      refine w_exu (x_stB #[(.string ByteArray.empty), (.int .i64 0), (.slice none 0 0), (.slice none 0 0), (.slice none 0 0)] sz27 rfl rfl rfl rfl rfl rfl hM ?_); intro w663 hM
      refine was rfl rfl ?_
      refine was rfl rfl ?_
      refine wl_sq ?_
      refine wc_ret ?_
      refine sq_ret ?_
      obtain rfl := Option.some.inj hx
      have hM := hM.nil0 (T := Int) 1 fI
      have hM := hM.nil0 (T := DEntry) 3 fDEntry
      have hM := hM.nil0 (T := DSeen) 3 fDSeen
      refine fin_ret [(.agg #[(.string ByteArray.empty), (.int .i64 0), nS.v, nS.v, nS.v]), (.int .i64 0), (.int .i64 5)] ⟨rv_box Tryz.underlying27 sz27 rfl rfl hM (.tail _ (.tail _ (.tail _ (.head _)))), rfl, rfl, trivial⟩ ?_
      replace hM := hM.p1.p2
      replace hM := hM.t3
      have hM := hM.fewer rsN
      exact ⟨(nS, nS, nS), rfl, hM.gives⟩
     ·
      replace hx := xif_f hc661 hx
      refine wc_skip ?_
      refine sq_n ?_
      refine wc_sr ?_
      refine wv rfl (r_ldBS Tryz.underlying27 sz27 rfl (us := [(.string d.name), (.int .i64 d.from_), s_d_2.v, s_d_3.v, s_d_4.v]) rfl hM (.tail _ (.tail _ (.tail _ (.head _)))) rfl) ?_
      obtain ⟨r671, h672, hx⟩ := bind_some' hx
      refine w_call rfl rfl (hM.callO (l := []) fun X S oL hS hR hO => ct_spec_l08Copy _ X S d s_d_2 s_d_3 s_d_4 hS (hR _ (.tail _ (.tail _ (.tail _ (.head _))))) (hR _ (.tail _ (.tail _ (.head _)))) (hR _ (.tail _ (.head _))) oL h672) ?_
      rintro _ w673 ⟨⟨s674, s675, s676⟩, rfl, hM⟩
      dsimp only [List.cons_append, List.nil_append] at hM
      refine w_ex rfl (x_alloc sz27 hM ?_); intro b681 w680 hR682 hM
      dsimp only [Value.cells] at hM
      refine w_exu (x_stB #[(.string r671.name), (.int .i64 r671.from_), s674.v, s675.v, s676.v] sz27 rfl rfl rfl rfl rfl rfl hM ?_); intro w684 hM
      refine wl_sq ?_
      refine wc_sr ?_
      refine wv rfl (r_fld Tryz.underlying27 rfl rfl sz24 rfl) ?_
      refine wv rfl (r_ldB Tryz.underlying24 rfl rfl hM (.head _) rfl) ?_
      refine wmv rfl rfl ?_
      refine wmv rfl rfl ?_
      refine wmv rfl rfl ?_
      refine wv rfl (r_build (cells := #[(.int .i64 client), (.int .i64 seq), s636.v]) rfl (by kernel_rfl)) ?_
      replace hM := hM.p4.p3
      obtain ⟨hg695, hx⟩ := xg_some hx
      refine w_push (f := fDEntry) (⟨client, seq, r633.1⟩ : DEntry) rfl rfl Tryz.underlying24 sz70 rfl rfl rfl rfl (fun _ => rfl) hM (fun _ => zP (pV _ rfl) (zP (pV _ rfl) (zO zN))) rfl hg695 rfl ?_; intro u693 s694 w692 hM
      refine wv rfl (r_fld Tryz.underlying27 rfl rfl sz24 rfl) ?_
      replace hM := hM.p1
      refine w_exu (x_stB #[(.string r671.name), (.int .i64 r671.from_), s674.v, s694.v, s676.v] sz24 rfl rfl rfl rfl rfl rfl hM ?_); intro w697 hM
      refine wl_sq ?_
      refine wc_sr ?_
      refine wv rfl (r_ldBS Tryz.underlying27 sz27 rfl (us := [(.string r671.name), (.int .i64 r671.from_), s674.v, s694.v, s676.v]) rfl hM (.head _) rfl) ?_
      obtain ⟨r700, h701, hx⟩ := bind_some' hx
      refine w_call rfl rfl (hM.callV fun X S oL hS hR hO => ct_spec_HeadRev _ X S (⟨r671.name, r671.from_, r671.text, r671.list ++ [(⟨client, seq, r633.1⟩ : DEntry)], r671.seen⟩ : DDoc) s674 s694 s676 hS (seeA hO (.tail _ (.tail _ (.head _)))) (seeA hO (.tail _ (.head _))) (seeA hO (.tail _ (.tail _ (.tail _ (.head _))))) oL h701) ?_
      rintro _ w702 ⟨rfl, hR703⟩
      have hM := hM.call hR703
      refine was rfl rfl ?_
      refine wl_sq ?_
      refine wc_sr ?_
      refine w_ex rfl (x_empty (f := fDSeen) Tryz.underlying25 sz83 (fun _ => rfl) hM ?_); intro s706 w705 hR707 hM
      refine was rfl rfl ?_
      refine wl_sq ?_
      refine wc_sr ?_
      refine was rfl rfl ?_
      refine wl_sq ?_
      refine wc_seq ?_
      refine wc_sr ?_
      refine wv rfl (r_fld Tryz.underlying27 rfl rfl sz25 rfl) ?_
      refine wv rfl (r_ldB Tryz.underlying25 rfl rfl hM (.tail _ (.head _)) rfl) ?_
      refine wv rfl (r_lenC Tryz.underlying25 rfl (hM.seeO (.tail _ (.tail _ (.tail _ (.tail _ (.head _))))))) ?_
      refine wmv rfl rfl ?_
      refine wl_sq ?_
      refine wc_block ?_
      obtain ⟨y715, hx, hx716⟩ := bind_some' hx
      replace hM := hM.p4.p3.p4.p4.p6
      replace hM := hM.t6
      have hM := hM.fewer rsN
      replace hM : St ⟨w, X, S⟩ [oBox b466 #[(.string ByteArray.empty), (.int .i64 0), (.slice none 0 0), (.slice none 0 0), (.slice none 0 0)] 27, oBox b681 #[(.string r671.name), (.int .i64 r671.from_), s674.v, s694.v, s676.v] 27, oC (cSl 1 fI r671.text) s674.v, oC (cSl 3 fDEntry (r671.list ++ [(⟨client, seq, r633.1⟩ : DEntry)])) s694.v, oC (cSl 3 fDSeen r671.seen) s676.v, oC (cSl 3 fDSeen ([] : List DSeen)) s706.v] [] _ := hM
      have hl724 := Cs.le (hM.seeO (.tail _ (.tail _ (.tail _ (.tail _ (.head _))))))
      refine wc_loop (un fun (m721 : Nat) => un fun (k722 : Nat) => un fun (l717 : List DSeen) => un fun (done718 : Bool) => fun (s720 : Sv) => [(1, (.int .i64 client)), (2, (.int .i64 seq)), (10, (.pointer (some ⟨b466, 0, none⟩))), (17, (.pointer (some ⟨b681, 0, none⟩))), (18, (.int .i64 r700)), (19, s720.v), (20, (.bool done718)), (95, s676.v), (96, (.int .i64 (r671.seen.length : Int))), (97, (.int .i64 (k722 : Int)))]) (un fun (m721 : Nat) => un fun (k722 : Nat) => un fun (l717 : List DSeen) => un fun (done718 : Bool) => fun (s720 : Sv) w' => St ⟨w, X, S⟩ [oBox b466 #[(.string ByteArray.empty), (.int .i64 0), (.slice none 0 0), (.slice none 0 0), (.slice none 0 0)] 27, oBox b681 #[(.string r671.name), (.int .i64 r671.from_), s674.v, s694.v, s676.v] 27, oC (cSl 1 fI r671.text) s674.v, oC (cSl 3 fDEntry (r671.list ++ [(⟨client, seq, r633.1⟩ : DEntry)])) s694.v, oC (cSl 3 fDSeen r671.seen) s676.v, oC (cSl 3 fDSeen l717) s720.v] [] w' ∧ eachN _ _ m721 k722 (l717, done718) = some y715 ∧ k722 + m721 = r671.seen.length) (fun p => p.1) (r671.seen.length, 0, [], false, s706) ⟨rfl, rfl, rfl, rfl, rfl, rfl, rfl, rfl, rfl, rfl, trivial⟩ ⟨hM, hx, Nat.zero_add _⟩ ?_
      rintro ⟨m721, k722, l717, done718, s720⟩ w725 ⟨hM, hx, hk723⟩
      refine wc_sr ?_
      refine wv rfl (r_lss rfl rfl) ?_
      refine wl_sq ?_
      refine wc_seq ?_
      refine wc_cond rfl (fun hc727 => ?_) (fun hc727 => ?_)
      ·
       replace hc727 := of_decide_eq_true hc727
       obtain ⟨m728, z729, rfl, hk723, hx, hx730⟩ := eachN_step hx hk723 hc727
       unfold x_spec_Submit_f0 x_spec_Submit_b0 at hx
       try dsimp only at hx
       refine wc_skip ?_
       refine sq_n ?_
       refine wc_seq ?_
       refine wc_block ?_
       refine wc_sr ?_
       have hi732 : k722 < r671.seen.length := by omega
       refine wv rfl (r_ixC Tryz.underlying25 sz83 rfl rfl (hM.seeO (.tail _ (.tail _ (.tail _ (.tail _ (.head _)))))) ⟨by omega, hc727⟩) ?_
       refine wv rfl (r_ldC (o := k722 * 3) Tryz.underlying83 sz83 rfl (us := [(.int .i64 ((el r671.seen k722).client)), (.int .i64 ((el r671.seen k722).seq)), (.int .i64 ((el r671.seen k722).rev))]) rfl (hM.seeO (.tail _ (.tail _ (.tail _ (.tail _ (.head _)))))) hi732 ⟨(Cs.get (i := k722) (j := 0) (hM.seeO (.tail _ (.tail _ (.tail _ (.tail _ (.head _)))))) (fun _ => rfl) hi732 rfl), (Cs.get (i := k722) (j := 1) (hM.seeO (.tail _ (.tail _ (.tail _ (.tail _ (.head _)))))) (fun _ => rfl) hi732 rfl), (Cs.get (i := k722) (j := 2) (hM.seeO (.tail _ (.tail _ (.tail _ (.tail _ (.head _)))))) (fun _ => rfl) hi732 rfl), trivial⟩) ?_
       refine w_ex rfl (x_alloc sz83 hM ?_); intro b735 w734 hR736 hM
       dsimp only [Value.cells] at hM
       refine w_exu (x_stB #[(.int .i64 ((el r671.seen k722).client)), (.int .i64 ((el r671.seen k722).seq)), (.int .i64 ((el r671.seen k722).rev))] sz83 rfl rfl rfl rfl rfl rfl hM ?_); intro w738 hM
       refine wl_sq ?_
       refine wc_seq ?_
       refine wc_sr ?_
       refine wv rfl (r_fld Tryz.underlying83 rfl rfl sz3 rfl) ?_
       refine wv rfl (r_ldB Tryz.underlying3 rfl rfl hM (.head _) rfl) ?_
       refine wmv rfl rfl ?_
       refine wv rfl (r_eql rfl rfl) ?_
       refine wl_sq ?_
       refine wc_cond rfl (fun hc744 => ?_) (fun hc744 => ?_)
       ·
        replace hx := xif_t hc744 hx
        refine wc_exit ?_
        refine sq_exit ?_
        refine bk_here ?_
        refine sq_n ?_
        refine wc_region ?_
        refine wv rfl (r_add rfl rfl ⟨by omega, by omega⟩) ?_
        refine wmv rfl rfl ?_
        refine wl_nil ?_
        obtain rfl := Option.some.inj hx
        replace hM := hM.p6.p6.p6.p6.p6.p6
        replace hM := hM.t6
        exact lp_end (m728, k722 + 1, l717, done718, s720) (Nat.lt_succ_self _) ⟨rfl, rfl, rfl, rfl, rfl, rfl, rfl, rfl, rfl, rfl, trivial⟩ ⟨hM, hx730, hk723⟩
       ·
        replace hx := xif_f hc744 hx
        refine wc_skip ?_
        refine sq_n ?_
        refine wc_seq ?_
        refine wc_sr ?_
        refine wmv rfl rfl ?_
        refine wv rfl (r_not rfl) ?_
        refine wmv rfl rfl ?_
        obtain ⟨c750, hx, hx756⟩ := bind_some' hx
        refine wl_mid 5 (fun _ : Unit => [(112, (.bool c750)), (1, (.int .i64 client)), (2, (.int .i64 seq)), (10, (.pointer (some ⟨b466, 0, none⟩))), (17, (.pointer (some ⟨b681, 0, none⟩))), (18, (.int .i64 r700)), (19, s720.v), (20, (.bool done718)), (22, (.pointer (some ⟨b735, 0, none⟩))), (95, s676.v), (96, (.int .i64 (r671.seen.length : Int))), (97, (.int .i64 (k722 : Int)))]) (fun _ w' => St ⟨w, X, S⟩ [oBox b735 #[(.int .i64 ((el r671.seen k722).client)), (.int .i64 ((el r671.seen k722).seq)), (.int .i64 ((el r671.seen k722).rev))] 83, oBox b466 #[(.string ByteArray.empty), (.int .i64 0), (.slice none 0 0), (.slice none 0 0), (.slice none 0 0)] 27, oBox b681 #[(.string r671.name), (.int .i64 r671.from_), s674.v, s694.v, s676.v] 27, oC (cSl 1 fI r671.text) s674.v, oC (cSl 3 fDEntry (r671.list ++ [(⟨client, seq, r633.1⟩ : DEntry)])) s694.v, oC (cSl 3 fDSeen r671.seen) s676.v, oC (cSl 3 fDSeen l717) s720.v] [] w') ?_ ?_
        ·
         rcases Bool.eq_false_or_eq_true (!done718) with hg751 | hg751
         ·
          replace hx := xif_t hg751 hx
          refine gv rfl hg751 rfl (r_fld Tryz.underlying83 rfl rfl sz3 rfl) ?_
          refine gv rfl hg751 rfl (r_ldB Tryz.underlying3 rfl rfl hM (.head _) rfl) ?_
          refine gv rfl hg751 rfl (r_move rfl) ?_
          refine gv rfl hg751 rfl (r_gtr rfl rfl) ?_
          refine wv rfl (p_t rfl hg751 rfl) ?_
          obtain rfl := Option.some.inj hx
          exact mid_nil () ⟨rfl, rfl, rfl, rfl, rfl, rfl, rfl, rfl, rfl, rfl, rfl, rfl, trivial⟩ hM
         ·
          replace hx := xif_f hg751 hx
          refine gs rfl (isB_no hg751) rfl ?_
          refine gs rfl (isB_no hg751) rfl ?_
          refine gs rfl (isB_no hg751) rfl ?_
          refine gs rfl (isB_no hg751) rfl ?_
          refine wv rfl (p_f rfl hg751 rfl) ?_
          obtain rfl := Option.some.inj hx
          exact mid_nil () ⟨rfl, rfl, rfl, rfl, rfl, rfl, rfl, rfl, rfl, rfl, rfl, rfl, trivial⟩ hM
        rintro _ w761 hM
        replace hx := hx756
        refine wl_sq ?_
        refine wc_cond rfl (fun hc762 => ?_) (fun hc762 => ?_)
        ·
         replace hx := xif_t hc762 hx
         refine wc_sr ?_
         refine wmv rfl rfl ?_
         refine wmv rfl rfl ?_
         refine wmv rfl rfl ?_
         refine wmv rfl rfl ?_
         refine wv rfl (r_build (cells := #[(.int .i64 client), (.int .i64 seq), (.int .i64 r700)]) rfl (by kernel_rfl)) ?_
         replace hM := hM.p6
         obtain ⟨hg771, hx⟩ := xg_some hx
         refine w_push (f := fDSeen) (⟨client, seq, r700⟩ : DSeen) rfl rfl Tryz.underlying25 sz83 rfl rfl rfl rfl (fun _ => rfl) hM (fun _ => zP (pV _ rfl) (zP (pV _ rfl) (zP (pV _ rfl) zN))) rfl hg771 rfl ?_; intro u769 s770 w768 hM
         refine was rfl rfl ?_
         refine wl_sq ?_
         refine wc_region ?_
         refine was rfl rfl ?_
         refine wl_sq ?_
         refine wc_region ?_
         refine wmv rfl rfl ?_
         refine wv rfl (r_ldBS Tryz.underlying83 sz83 rfl (us := [(.int .i64 ((el r671.seen k722).client)), (.int .i64 ((el r671.seen k722).seq)), (.int .i64 ((el r671.seen k722).rev))]) rfl hM (.tail _ (.head _)) rfl) ?_
         obtain ⟨hg779, hx⟩ := xg_some hx
         refine w_push (f := fDSeen) (el r671.seen k722) rfl rfl Tryz.underlying25 sz83 rfl rfl rfl rfl (fun _ => rfl) hM (fun _ => zP (pV _ rfl) (zP (pV _ rfl) (zP (pV _ rfl) zN))) rfl hg779 rfl ?_; intro u777 s778 w776 hM
         refine was rfl rfl ?_
         refine wl_nil ?_
         refine bk_n ?_
         refine sq_n ?_
         refine wc_region ?_
         refine wv rfl (r_add rfl rfl ⟨by omega, by omega⟩) ?_
         refine wmv rfl rfl ?_
         refine wl_nil ?_
         obtain rfl := Option.some.inj hx
         replace hM := hM.p6.p6.p6.p6.p6
         replace hM := hM.t6
         exact lp_end (m728, k722 + 1, (l717 ++ [(⟨client, seq, r700⟩ : DSeen)]) ++ [el r671.seen k722], true, s778) (Nat.lt_succ_self _) ⟨rfl, rfl, rfl, rfl, rfl, rfl, rfl, rfl, rfl, rfl, trivial⟩ ⟨hM, hx730, hk723⟩
        ·
         replace hx := xif_f hc762 hx
         refine wc_skip ?_
         refine sq_n ?_
         refine wc_region ?_
         refine wmv rfl rfl ?_
         refine wv rfl (r_ldBS Tryz.underlying83 sz83 rfl (us := [(.int .i64 ((el r671.seen k722).client)), (.int .i64 ((el r671.seen k722).seq)), (.int .i64 ((el r671.seen k722).rev))]) rfl hM (.head _) rfl) ?_
         replace hM := hM.p6
         obtain ⟨hg788, hx⟩ := xg_some hx
         refine w_push (f := fDSeen) (el r671.seen k722) rfl rfl Tryz.underlying25 sz83 rfl rfl rfl rfl (fun _ => rfl) hM (fun _ => zP (pV _ rfl) (zP (pV _ rfl) (zP (pV _ rfl) zN))) rfl hg788 rfl ?_; intro u786 s787 w785 hM
         refine was rfl rfl ?_
         refine wl_nil ?_
         refine bk_n ?_
         refine sq_n ?_
         refine wc_region ?_
         refine wv rfl (r_add rfl rfl ⟨by omega, by omega⟩) ?_
         refine wmv rfl rfl ?_
         refine wl_nil ?_
         obtain rfl := Option.some.inj hx
         replace hM := hM.p6.p6.p6.p6.p6
         replace hM := hM.t6
         exact lp_end (m728, k722 + 1, l717 ++ [el r671.seen k722], done718, s787) (Nat.lt_succ_self _) ⟨rfl, rfl, rfl, rfl, rfl, rfl, rfl, rfl, rfl, rfl, trivial⟩ ⟨hM, hx730, hk723⟩
      ·
       replace hc727 := of_decide_eq_false hc727
       obtain rfl := eachN_end hx hk723 hc727
       refine wc_exit ?_
       refine sq_exit ?_
       refine lp1_exit ?_
       replace hx := hx716
       try dsimp only [Sum.elim_inl, Sum.elim_inr] at hx
       refine bk_here ?_
       refine sq_n ?_
       refine wc_seq ?_
       refine wc_sr ?_
       refine wmv rfl rfl ?_
       refine wv rfl (r_not rfl) ?_
       refine wl_sq ?_
       refine wc_cond rfl (fun hc794 => ?_) (fun hc794 => ?_)
       ·
        replace hx := xif_t hc794 hx
        refine wc_region ?_
        refine wmv rfl rfl ?_
        refine wmv rfl rfl ?_
        refine wmv rfl rfl ?_
        refine wmv rfl rfl ?_
        refine wv rfl (r_build (cells := #[(.int .i64 client), (.int .i64 seq), (.int .i64 r700)]) rfl (by kernel_rfl)) ?_
        replace hM := hM.p5
        obtain ⟨hg803, hx⟩ := xg_some hx
        refine w_push (f := fDSeen) (⟨client, seq, r700⟩ : DSeen) rfl rfl Tryz.underlying25 sz83 rfl rfl rfl rfl (fun _ => rfl) hM (fun _ => zP (pV _ rfl) (zP (pV _ rfl) (zP (pV _ rfl) zN))) rfl hg803 rfl ?_; intro u801 s802 w800 hM
        refine was rfl rfl ?_
        refine wl_sq ?_
        refine wc_sr ?_
        refine wmv rfl rfl ?_
        refine wv rfl (r_fld Tryz.underlying27 rfl rfl sz25 rfl) ?_
        replace hM := hM.p2
        refine w_exu (x_stB #[(.string r671.name), (.int .i64 r671.from_), s674.v, s694.v, s802.v] sz25 rfl rfl rfl rfl rfl rfl hM ?_); intro w807 hM
        refine wl_sq ?_
        refine wc_seq ?_
        refine wc_sr ?_
        refine wv rfl (r_fld Tryz.underlying27 rfl rfl sz24 rfl) ?_
        refine wv rfl (r_ldB Tryz.underlying24 rfl rfl hM (.head _) rfl) ?_
        refine wv rfl (r_lenC Tryz.underlying24 rfl (hM.seeO (.tail _ (.tail _ (.tail _ (.tail _ (.head _))))))) ?_
        refine wv rfl (r_gtr rfl rfl) ?_
        refine wl_sq ?_
        refine wc_cond rfl (fun hc813 => ?_) (fun hc813 => ?_)
        ·
         replace hx := xif_t hc813 hx
         refine wc_seq ?_
         obtain ⟨hg818, hx⟩ := xg_some hx
         obtain ⟨r825, h826, hx⟩ := bind_some' hx
         refine wc_mid (fun (s828 : Sv) => [(10, (.pointer (some ⟨b466, 0, none⟩))), (17, (.pointer (some ⟨b681, 0, none⟩))), (18, (.int .i64 r700))]) (fun (s828 : Sv) w' => St ⟨w, X, S⟩ [oBox b466 #[(.string ByteArray.empty), (.int .i64 0), (.slice none 0 0), (.slice none 0 0), (.slice none 0 0)] 27, oBox b681 #[(.string r671.name), (.int .i64 r671.from_), s828.v, s694.v, s802.v] 27, oC (cSl 1 fI r825.1) s828.v, oC (cSl 3 fDEntry (r671.list ++ [(⟨client, seq, r633.1⟩ : DEntry)])) s694.v, oC (cSl 3 fDSeen (l717 ++ [(⟨client, seq, r700⟩ : DSeen)])) s802.v] [] w') ?_ ?_
         ·
          refine wc_drawM (fun _ => True) Tryz_mixed ?_
          refine wm_run [(0, 0), (1, 0), (5, 0), (6, 0)] 9 (fun _ _ => trivial) rfl rfl (by kernel_rfl) (by kernel_rfl) rfl ?_
          refine ov rfl (fun w' h' => r_fld Tryz.underlying27 rfl rfl sz24 rfl) ?_
          refine ov rfl (fun w' h' => r_ldB Tryz.underlying24 rfl rfl (hM.call h') (.head _) rfl) ?_
          refine ov rfl (fun w' h' => r_fld Tryz.underlying27 rfl rfl sz23 rfl) ?_
          refine ov rfl (fun w' h' => r_ldB Tryz.underlying23 rfl rfl (hM.call h') (.head _) rfl) ?_
          refine o_nilM hM fun w844 hM => ?_
          have hi847 : 0 < (r671.list ++ [(⟨client, seq, r633.1⟩ : DEntry)]).length := by omega
          refine wm_free 2 8 rfl rfl (by kernel_rfl) (by kernel_rfl) rfl (fun _ _ => r_ixC Tryz.underlying24 sz70 rfl rfl (hM.seeO (.tail _ (.tail _ (.tail _ (.tail _ (.head _)))))) hg818) ?_
          refine wm_run [(3, 0), (4, 0), (7, 2), (8, 0), (9, 0), (11, 0)] 2 (fun _ _ => trivial) rfl rfl (by kernel_rfl) (by kernel_rfl) rfl ?_
          refine ov rfl (fun w' h' => r_fldC (i := 0) Tryz.underlying70 rfl rfl sz48 rfl ((hM.call h').seeO (.tail _ (.tail _ (.tail _ (.tail _ (.head _)))))) hi847) ?_
          replace hM := hM.p4
          obtain ⟨s850, hM, hc851⟩ := hM.leafO (i := 0) (j := 2) (fun _ => rfl) hi847 rfl
          refine ov rfl (fun w' h' => r_ld Tryz.underlying48 rfl rfl (hc851 w' h')) ?_
          refine o_call rfl rfl (fun w' h' => (hM.call h').callO (l := []) fun X S oL hS hR hO => ct_spec_Apply _ X S ((el (r671.list ++ [(⟨client, seq, r633.1⟩ : DEntry)]) 0).o) s850 r671.text s674 hS (seeAW hO (.head _) (.head _)) (seeA hO (.tail _ (.tail _ (.tail _ (.tail _ (.head _)))))) oL h826) ?_
          rintro w854 h855 _ w852 ⟨s853, rfl, hM⟩
          dsimp only [List.cons_append, List.nil_append] at hM
          refine omv rfl rfl ?_
          refine ov rfl (fun w' h' => r_extract rfl rfl) ?_
          refine ov rfl (fun w' h' => r_fld Tryz.underlying27 rfl rfl sz23 rfl) ?_
          refine o_nilM hM fun w860 hM => ?_
          refine wm_fork [(10, 0), (12, 1)] 1 (fun _ _ => trivial) rfl (by kernel_rfl) rfl (by kernel_rfl) ⟨?_, ?_, trivial⟩
          ·
           refine o_ex1 rfl fun w863 h864 => ?_
           have hM := hM.call h864
           refine exq (r_extract rfl rfl) ?_
           refine ⟨Rel.refl _, ?_⟩
           refine o_nilM hM fun w865 hM => ?_
           refine wm_run [(12, 2)] 0 (fun _ _ => trivial) rfl rfl (by kernel_rfl) (by kernel_rfl) rfl ?_
           replace hM := hM.p2
           refine o_exu fun w869 h870 => ?_
           have hM := hM.call h870
           refine x_stB #[(.string r671.name), (.int .i64 r671.from_), s853.v, s694.v, s802.v] sz23 rfl rfl rfl rfl rfl rfl hM ?_; intro w867 hM
           refine o_nilM hM fun w871 hM => ?_
           refine wm_end (fun _ _ => trivial) (by kernel_rfl) fun w873 hw874 => ?_
           have hM := hM.call hw874
           replace hM := hM.p2
           replace hM : St ⟨w, X, S⟩ [oC (cSl 3 fDEntry (r671.list ++ [(⟨client, seq, r633.1⟩ : DEntry)])) s694.v, oBox b681 #[(.string r671.name), (.int .i64 r671.from_), s853.v, s694.v, s802.v] 27, oC (cSl 1 fI r825.1) s853.v, oC (cSl 3 fDSeen (l717 ++ [(⟨client, seq, r700⟩ : DSeen)])) s802.v, oBox b466 #[(.string ByteArray.empty), (.int .i64 0), (.slice none 0 0), (.slice none 0 0), (.slice none 0 0)] 27, oC (cSl 1 fI r671.text) s674.v, oC (cSl 3 fDSeen r671.seen) s676.v] [] _ := hM.unview
           replace hM := hM.p3.p1.p3.p3.p4
           replace hM := hM.t5
           exact mid_c s853 ⟨rfl, rfl, rfl, trivial⟩ hM
          ·
           replace hM := hM.p2
           refine o_exu fun w877 h878 => ?_
           have hM := hM.call h878
           refine x_stB #[(.string r671.name), (.int .i64 r671.from_), s853.v, s694.v, s802.v] sz23 rfl rfl rfl rfl rfl rfl hM ?_; intro w875 hM
           refine o_nilM hM fun w879 hM => ?_
           refine wm_run [(10, 1)] 0 (fun _ _ => trivial) rfl rfl (by kernel_rfl) (by kernel_rfl) rfl ?_
           refine o_ex1 rfl fun w882 h883 => ?_
           have hM := hM.call h883
           refine exq (r_extract rfl rfl) ?_
           refine ⟨Rel.refl _, ?_⟩
           refine o_nilM hM fun w884 hM => ?_
           refine wm_end (fun _ _ => trivial) (by kernel_rfl) fun w886 hw887 => ?_
           have hM := hM.call hw887
           replace hM := hM.p2
           replace hM : St ⟨w, X, S⟩ [oC (cSl 3 fDEntry (r671.list ++ [(⟨client, seq, r633.1⟩ : DEntry)])) s694.v, oBox b681 #[(.string r671.name), (.int .i64 r671.from_), s853.v, s694.v, s802.v] 27, oC (cSl 1 fI r825.1) s853.v, oC (cSl 3 fDSeen (l717 ++ [(⟨client, seq, r700⟩ : DSeen)])) s802.v, oBox b466 #[(.string ByteArray.empty), (.int .i64 0), (.slice none 0 0), (.slice none 0 0), (.slice none 0 0)] 27, oC (cSl 1 fI r671.text) s674.v, oC (cSl 3 fDSeen r671.seen) s676.v] [] _ := hM.unview
           replace hM := hM.p3.p1.p3.p3.p4
           replace hM := hM.t5
           exact mid_c s853 ⟨rfl, rfl, rfl, trivial⟩ hM
         rintro s828 w888 hM
         refine sq_n ?_
         refine wc_sr ?_
         refine wv rfl (r_fld Tryz.underlying27 rfl rfl sz24 rfl) ?_
         refine wv rfl (r_ldB Tryz.underlying24 rfl rfl hM (.tail _ (.head _)) rfl) ?_
         replace hM := hM.p3
         obtain ⟨hg892, hx⟩ := xg_some hx
         refine wv rfl (r_slc_lo Tryz.underlying24 sz70 rfl rfl (hM.seeO (.head _)) hg892) ?_
         have hM := hM.cutO (L := (r671.list ++ [(⟨client, seq, r633.1⟩ : DEntry)])) (f := fDEntry) (lo := 1) (hi := ((r671.list ++ [(⟨client, seq, r633.1⟩ : DEntry)]).length)) (fun _ => rfl) (by omega) (by omega)
         refine wv rfl (r_fld Tryz.underlying27 rfl rfl sz24 rfl) ?_
         replace hM := hM.p2
         refine w_exu (x_stB #[(.string r671.name), (.int .i64 r671.from_), s828.v, (s694.cut 3 1 ((r671.list ++ [(⟨client, seq, r633.1⟩ : DEntry)]).length)).v, s802.v] sz24 rfl rfl rfl rfl rfl rfl hM ?_); intro w894 hM
         refine wl_sq ?_
         refine wc_region ?_
         refine wv rfl (r_fld Tryz.underlying27 rfl rfl sz3 rfl) ?_
         refine wv rfl (r_ldB Tryz.underlying3 rfl rfl hM (.head _) rfl) ?_
         obtain ⟨hg899, hx⟩ := xg_some hx
         refine wv rfl (r_add rfl rfl hg899) ?_
         refine wv rfl (r_fld Tryz.underlying27 rfl rfl sz3 rfl) ?_
         refine w_exu (x_stB #[(.string r671.name), (.int .i64 (r671.from_ + 1)), s828.v, (s694.cut 3 1 ((r671.list ++ [(⟨client, seq, r633.1⟩ : DEntry)]).length)).v, s802.v] sz3 rfl rfl rfl rfl rfl rfl hM ?_); intro w901 hM
         refine wl_sq ?_
         refine wc_sr ?_
         refine wv rfl (r_ldBS Tryz.underlying27 sz27 rfl (us := [(.string r671.name), (.int .i64 (r671.from_ + 1)), s828.v, (s694.cut 3 1 ((r671.list ++ [(⟨client, seq, r633.1⟩ : DEntry)]).length)).v, s802.v]) rfl hM (.head _) rfl) ?_
         refine wmv rfl rfl ?_
         replace hM := hM.p2
         refine w_exu (x_stB #[(.string r671.name), (.int .i64 (r671.from_ + 1)), s828.v, (s694.cut 3 1 ((r671.list ++ [(⟨client, seq, r633.1⟩ : DEntry)]).length)).v, s802.v] sz27 rfl rfl rfl rfl rfl rfl hM ?_); intro w905 hM
         refine was rfl rfl ?_
         refine was rfl rfl ?_
         refine wl_sq ?_
         refine wc_ret ?_
         obtain rfl := Option.some.inj hx
         refine fin_ret [(.agg #[(.string r671.name), (.int .i64 (r671.from_ + 1)), s828.v, (s694.cut 3 1 ((r671.list ++ [(⟨client, seq, r633.1⟩ : DEntry)]).length)).v, s802.v]), (.int .i64 r700), (.int .i64 0)] ⟨rv_box Tryz.underlying27 sz27 rfl rfl hM (.head _), rfl, rfl, trivial⟩ ?_
         replace hM := hM.p4.p3.p4
         replace hM := hM.t3
         have hM := hM.fewer rsN
         exact ⟨(s828, (s694.cut 3 1 ((r671.list ++ [(⟨client, seq, r633.1⟩ : DEntry)]).length)), s802), rfl, hM.gives⟩
        ·
         replace hx := xif_f hc813 hx
         refine wc_skip ?_
         refine sq_n ?_
         refine wc_sr ?_
         refine wv rfl (r_ldBS Tryz.underlying27 sz27 rfl (us := [(.string r671.name), (.int .i64 r671.from_), s674.v, s694.v, s802.v]) rfl hM (.head _) rfl) ?_
         refine wmv rfl rfl ?_
         replace hM := hM.p2
         refine w_exu (x_stB #[(.string r671.name), (.int .i64 r671.from_), s674.v, s694.v, s802.v] sz27 rfl rfl rfl rfl rfl rfl hM ?_); intro w911 hM
         refine was rfl rfl ?_
         refine was rfl rfl ?_
         refine wl_sq ?_
         refine wc_ret ?_
         obtain rfl := Option.some.inj hx
         refine fin_ret [(.agg #[(.string r671.name), (.int .i64 r671.from_), s674.v, s694.v, s802.v]), (.int .i64 r700), (.int .i64 0)] ⟨rv_box Tryz.underlying27 sz27 rfl rfl hM (.head _), rfl, rfl, trivial⟩ ?_
         replace hM := hM.p2.p4.p4
         replace hM := hM.t3
         have hM := hM.fewer rsN
         exact ⟨(s674, s694, s802), rfl, hM.gives⟩
       ·
        replace hx := xif_f hc794 hx
        refine wc_skip ?_
        refine sq_n ?_
        refine wc_sr ?_
        refine wmv rfl rfl ?_
        refine wv rfl (r_fld Tryz.underlying27 rfl rfl sz25 rfl) ?_
        replace hM := hM.p1
        refine w_exu (x_stB #[(.string r671.name), (.int .i64 r671.from_), s674.v, s694.v, s720.v] sz25 rfl rfl rfl rfl rfl rfl hM ?_); intro w917 hM
        refine wl_sq ?_
        refine wc_seq ?_
        refine wc_sr ?_
        refine wv rfl (r_fld Tryz.underlying27 rfl rfl sz24 rfl) ?_
        refine wv rfl (r_ldB Tryz.underlying24 rfl rfl hM (.head _) rfl) ?_
        refine wv rfl (r_lenC Tryz.underlying24 rfl (hM.seeO (.tail _ (.tail _ (.tail _ (.head _)))))) ?_
        refine wv rfl (r_gtr rfl rfl) ?_
        refine wl_sq ?_
        refine wc_cond rfl (fun hc923 => ?_) (fun hc923 => ?_)
        ·
         replace hx := xif_t hc923 hx
         refine wc_seq ?_
         obtain ⟨hg928, hx⟩ := xg_some hx
         obtain ⟨r935, h936, hx⟩ := bind_some' hx
         refine wc_mid (fun (s938 : Sv) => [(10, (.pointer (some ⟨b466, 0, none⟩))), (17, (.pointer (some ⟨b681, 0, none⟩))), (18, (.int .i64 r700))]) (fun (s938 : Sv) w' => St ⟨w, X, S⟩ [oBox b466 #[(.string ByteArray.empty), (.int .i64 0), (.slice none 0 0), (.slice none 0 0), (.slice none 0 0)] 27, oBox b681 #[(.string r671.name), (.int .i64 r671.from_), s938.v, s694.v, s720.v] 27, oC (cSl 1 fI r935.1) s938.v, oC (cSl 3 fDEntry (r671.list ++ [(⟨client, seq, r633.1⟩ : DEntry)])) s694.v, oC (cSl 3 fDSeen l717) s720.v] [] w') ?_ ?_
         ·
          refine wc_drawM (fun _ => True) Tryz_mixed ?_
          refine wm_run [(0, 0), (1, 0), (5, 0), (6, 0)] 9 (fun _ _ => trivial) rfl rfl (by kernel_rfl) (by kernel_rfl) rfl ?_
          refine ov rfl (fun w' h' => r_fld Tryz.underlying27 rfl rfl sz24 rfl) ?_
          refine ov rfl (fun w' h' => r_ldB Tryz.underlying24 rfl rfl (hM.call h') (.head _) rfl) ?_
          refine ov rfl (fun w' h' => r_fld Tryz.underlying27 rfl rfl sz23 rfl) ?_
          refine ov rfl (fun w' h' => r_ldB Tryz.underlying23 rfl rfl (hM.call h') (.head _) rfl) ?_
          refine o_nilM hM fun w954 hM => ?_
          have hi957 : 0 < (r671.list ++ [(⟨client, seq, r633.1⟩ : DEntry)]).length := by omega
          refine wm_free 2 8 rfl rfl (by kernel_rfl) (by kernel_rfl) rfl (fun _ _ => r_ixC Tryz.underlying24 sz70 rfl rfl (hM.seeO (.tail _ (.tail _ (.tail _ (.head _))))) hg928) ?_
          refine wm_run [(3, 0), (4, 0), (7, 2), (8, 0), (9, 0), (11, 0)] 2 (fun _ _ => trivial) rfl rfl (by kernel_rfl) (by kernel_rfl) rfl ?_
          refine ov rfl (fun w' h' => r_fldC (i := 0) Tryz.underlying70 rfl rfl sz48 rfl ((hM.call h').seeO (.tail _ (.tail _ (.tail _ (.head _))))) hi957) ?_
          replace hM := hM.p3
          obtain ⟨s960, hM, hc961⟩ := hM.leafO (i := 0) (j := 2) (fun _ => rfl) hi957 rfl
          refine ov rfl (fun w' h' => r_ld Tryz.underlying48 rfl rfl (hc961 w' h')) ?_
          refine o_call rfl rfl (fun w' h' => (hM.call h').callO (l := []) fun X S oL hS hR hO => ct_spec_Apply _ X S ((el (r671.list ++ [(⟨client, seq, r633.1⟩ : DEntry)]) 0).o) s960 r671.text s674 hS (seeAW hO (.head _) (.head _)) (seeA hO (.tail _ (.tail _ (.tail _ (.head _))))) oL h936) ?_
          rintro w964 h965 _ w962 ⟨s963, rfl, hM⟩
          dsimp only [List.cons_append, List.nil_append] at hM
          refine omv rfl rfl ?_
          refine ov rfl (fun w' h' => r_extract rfl rfl) ?_
          refine ov rfl (fun w' h' => r_fld Tryz.underlying27 rfl rfl sz23 rfl) ?_
          refine o_nilM hM fun w970 hM => ?_
          refine wm_fork [(10, 0), (12, 1)] 1 (fun _ _ => trivial) rfl (by kernel_rfl) rfl (by kernel_rfl) ⟨?_, ?_, trivial⟩
          ·
           refine o_ex1 rfl fun w973 h974 => ?_
           have hM := hM.call h974
           refine exq (r_extract rfl rfl) ?_
           refine ⟨Rel.refl _, ?_⟩
           refine o_nilM hM fun w975 hM => ?_
           refine wm_run [(12, 2)] 0 (fun _ _ => trivial) rfl rfl (by kernel_rfl) (by kernel_rfl) rfl ?_
           replace hM := hM.p2
           refine o_exu fun w979 h980 => ?_
           have hM := hM.call h980
           refine x_stB #[(.string r671.name), (.int .i64 r671.from_), s963.v, s694.v, s720.v] sz23 rfl rfl rfl rfl rfl rfl hM ?_; intro w977 hM
           refine o_nilM hM fun w981 hM => ?_
           refine wm_end (fun _ _ => trivial) (by kernel_rfl) fun w983 hw984 => ?_
           have hM := hM.call hw984
           replace hM := hM.p2
           replace hM : St ⟨w, X, S⟩ [oC (cSl 3 fDEntry (r671.list ++ [(⟨client, seq, r633.1⟩ : DEntry)])) s694.v, oBox b681 #[(.string r671.name), (.int .i64 r671.from_), s963.v, s694.v, s720.v] 27, oC (cSl 1 fI r935.1) s963.v, oBox b466 #[(.string ByteArray.empty), (.int .i64 0), (.slice none 0 0), (.slice none 0 0), (.slice none 0 0)] 27, oC (cSl 1 fI r671.text) s674.v, oC (cSl 3 fDSeen r671.seen) s676.v, oC (cSl 3 fDSeen l717) s720.v] [] _ := hM.unview
           replace hM := hM.p6.p1.p3.p3.p4
           replace hM := hM.t5
           exact mid_c s963 ⟨rfl, rfl, rfl, trivial⟩ hM
          ·
           replace hM := hM.p2
           refine o_exu fun w987 h988 => ?_
           have hM := hM.call h988
           refine x_stB #[(.string r671.name), (.int .i64 r671.from_), s963.v, s694.v, s720.v] sz23 rfl rfl rfl rfl rfl rfl hM ?_; intro w985 hM
           refine o_nilM hM fun w989 hM => ?_
           refine wm_run [(10, 1)] 0 (fun _ _ => trivial) rfl rfl (by kernel_rfl) (by kernel_rfl) rfl ?_
           refine o_ex1 rfl fun w992 h993 => ?_
           have hM := hM.call h993
           refine exq (r_extract rfl rfl) ?_
           refine ⟨Rel.refl _, ?_⟩
           refine o_nilM hM fun w994 hM => ?_
           refine wm_end (fun _ _ => trivial) (by kernel_rfl) fun w996 hw997 => ?_
           have hM := hM.call hw997
           replace hM := hM.p2
           replace hM : St ⟨w, X, S⟩ [oC (cSl 3 fDEntry (r671.list ++ [(⟨client, seq, r633.1⟩ : DEntry)])) s694.v, oBox b681 #[(.string r671.name), (.int .i64 r671.from_), s963.v, s694.v, s720.v] 27, oC (cSl 1 fI r935.1) s963.v, oBox b466 #[(.string ByteArray.empty), (.int .i64 0), (.slice none 0 0), (.slice none 0 0), (.slice none 0 0)] 27, oC (cSl 1 fI r671.text) s674.v, oC (cSl 3 fDSeen r671.seen) s676.v, oC (cSl 3 fDSeen l717) s720.v] [] _ := hM.unview
           replace hM := hM.p6.p1.p3.p3.p4
           replace hM := hM.t5
           exact mid_c s963 ⟨rfl, rfl, rfl, trivial⟩ hM
         rintro s938 w998 hM
         refine sq_n ?_
         refine wc_sr ?_
         refine wv rfl (r_fld Tryz.underlying27 rfl rfl sz24 rfl) ?_
         refine wv rfl (r_ldB Tryz.underlying24 rfl rfl hM (.tail _ (.head _)) rfl) ?_
         replace hM := hM.p3
         obtain ⟨hg1002, hx⟩ := xg_some hx
         refine wv rfl (r_slc_lo Tryz.underlying24 sz70 rfl rfl (hM.seeO (.head _)) hg1002) ?_
         have hM := hM.cutO (L := (r671.list ++ [(⟨client, seq, r633.1⟩ : DEntry)])) (f := fDEntry) (lo := 1) (hi := ((r671.list ++ [(⟨client, seq, r633.1⟩ : DEntry)]).length)) (fun _ => rfl) (by omega) (by omega)
         refine wv rfl (r_fld Tryz.underlying27 rfl rfl sz24 rfl) ?_
         replace hM := hM.p2
         refine w_exu (x_stB #[(.string r671.name), (.int .i64 r671.from_), s938.v, (s694.cut 3 1 ((r671.list ++ [(⟨client, seq, r633.1⟩ : DEntry)]).length)).v, s720.v] sz24 rfl rfl rfl rfl rfl rfl hM ?_); intro w1004 hM
         refine wl_sq ?_
         refine wc_region ?_
         refine wv rfl (r_fld Tryz.underlying27 rfl rfl sz3 rfl) ?_
         refine wv rfl (r_ldB Tryz.underlying3 rfl rfl hM (.head _) rfl) ?_
         obtain ⟨hg1009, hx⟩ := xg_some hx
         refine wv rfl (r_add rfl rfl hg1009) ?_
         refine wv rfl (r_fld Tryz.underlying27 rfl rfl sz3 rfl) ?_
         refine w_exu (x_stB #[(.string r671.name), (.int .i64 (r671.from_ + 1)), s938.v, (s694.cut 3 1 ((r671.list ++ [(⟨client, seq, r633.1⟩ : DEntry)]).length)).v, s720.v] sz3 rfl rfl rfl rfl rfl rfl hM ?_); intro w1011 hM
         refine wl_sq ?_
         refine wc_sr ?_
         refine wv rfl (r_ldBS Tryz.underlying27 sz27 rfl (us := [(.string r671.name), (.int .i64 (r671.from_ + 1)), s938.v, (s694.cut 3 1 ((r671.list ++ [(⟨client, seq, r633.1⟩ : DEntry)]).length)).v, s720.v]) rfl hM (.head _) rfl) ?_
         refine wmv rfl rfl ?_
         replace hM := hM.p2
         refine w_exu (x_stB #[(.string r671.name), (.int .i64 (r671.from_ + 1)), s938.v, (s694.cut 3 1 ((r671.list ++ [(⟨client, seq, r633.1⟩ : DEntry)]).length)).v, s720.v] sz27 rfl rfl rfl rfl rfl rfl hM ?_); intro w1015 hM
         refine was rfl rfl ?_
         refine was rfl rfl ?_
         refine wl_sq ?_
         refine wc_ret ?_
         obtain rfl := Option.some.inj hx
         refine fin_ret [(.agg #[(.string r671.name), (.int .i64 (r671.from_ + 1)), s938.v, (s694.cut 3 1 ((r671.list ++ [(⟨client, seq, r633.1⟩ : DEntry)]).length)).v, s720.v]), (.int .i64 r700), (.int .i64 0)] ⟨rv_box Tryz.underlying27 sz27 rfl rfl hM (.head _), rfl, rfl, trivial⟩ ?_
         replace hM := hM.p4.p3.p4
         replace hM := hM.t3
         have hM := hM.fewer rsN
         exact ⟨(s938, (s694.cut 3 1 ((r671.list ++ [(⟨client, seq, r633.1⟩ : DEntry)]).length)), s720), rfl, hM.gives⟩
        ·
         replace hx := xif_f hc923 hx
         refine wc_skip ?_
         refine sq_n ?_
         refine wc_sr ?_
         refine wv rfl (r_ldBS Tryz.underlying27 sz27 rfl (us := [(.string r671.name), (.int .i64 r671.from_), s674.v, s694.v, s720.v]) rfl hM (.head _) rfl) ?_
         refine wmv rfl rfl ?_
         replace hM := hM.p1
         refine w_exu (x_stB #[(.string r671.name), (.int .i64 r671.from_), s674.v, s694.v, s720.v] sz27 rfl rfl rfl rfl rfl rfl hM ?_); intro w1021 hM
         refine was rfl rfl ?_
         refine was rfl rfl ?_
         refine wl_sq ?_
         refine wc_ret ?_
         obtain rfl := Option.some.inj hx
         refine fin_ret [(.agg #[(.string r671.name), (.int .i64 r671.from_), s674.v, s694.v, s720.v]), (.int .i64 r700), (.int .i64 0)] ⟨rv_box Tryz.underlying27 sz27 rfl rfl hM (.head _), rfl, rfl, trivial⟩ ?_
         replace hM := hM.p5.p4.p4
         replace hM := hM.t3
         have hM := hM.fewer rsN
         exact ⟨(s674, s694, s720), rfl, hM.gives⟩

noncomputable def x_spec_l08Draw_b0 (_name : ByteArray) (n160 : Int) (l161 : List UInt8) (n162 : Int) (n163 : Int) (l164 : ByteArray) (n165 : Int) (l166 : List Int) (l167 : List DEntry) (l168 : List DSeen) : Option (Lr (Int × List UInt8 × Int × Int × ByteArray × Int × List Int × List DEntry × List DSeen) (List UInt8 × Int × Int × ByteArray × Int × List Int × List DEntry × List DSeen)) :=
  bif decide ((0 : Int) < n160) then (Option.bind (x_spec_l01Below (⟨l161, n162, n163⟩ : DL01Cur) 3) fun r296 => xg (inI (1 + r296.1)) <| Option.bind (x_spec_SeenOf (⟨l164, n165, l166, l167, l168⟩ : DDoc) (1 + r296.1)) fun r305 => Option.bind (x_spec_HeadRev (⟨l164, n165, l166, l167, l168⟩ : DDoc)) fun r320 => xg (inI ((l167.length : Int) + 1)) <| Option.bind (x_spec_l01Below r296.2 ((l167.length : Int) + 1)) fun r329 => xg (inI (r320 - r329.1)) <| Option.bind (x_spec_TextAt (⟨l164, n165, l166, l167, l168⟩ : DDoc) (r320 - r329.1)) fun r342 => xg (inI (r305.1.seq + 1)) <| Option.bind (x_spec_l02Draw r329.2 (r342.1.length : Int)) fun r362 => Option.bind (x_spec_Submit (⟨l164, n165, l166, l167, l168⟩ : DDoc) (1 + r296.1) (r305.1.seq + 1) (r320 - r329.1) r362.1) fun r370 => bif decide (r370.2.2 = 0) then (xg (inI (n160 - 1)) <| some (Lr.go (n160 - 1, r362.2.b, r362.2.i, r362.2.h, r370.1.name, r370.1.from_, r370.1.text, r370.1.list, r370.1.seen))) else (xg (inI (n160 - 1)) <| some (Lr.go (n160 - 1, r362.2.b, r362.2.i, r362.2.h, l164, n165, l166, l167, l168)))) else (some (Lr.out (l161, n162, n163, l164, n165, l166, l167, l168)))
noncomputable def x_spec_l08Draw_f0 (name : ByteArray) (s410 : Int × List UInt8 × Int × Int × ByteArray × Int × List Int × List DEntry × List DSeen) : Option (Lr (Int × List UInt8 × Int × Int × ByteArray × Int × List Int × List DEntry × List DSeen) (List UInt8 × Int × Int × ByteArray × Int × List Int × List DEntry × List DSeen)) := x_spec_l08Draw_b0 name s410.1 s410.2.1 s410.2.2.1 s410.2.2.2.1 s410.2.2.2.2.1 s410.2.2.2.2.2.1 s410.2.2.2.2.2.2.1 s410.2.2.2.2.2.2.2.1 s410.2.2.2.2.2.2.2.2
noncomputable def x_spec_l08Draw (c : DL01Cur) (name : ByteArray) (most : Int) : Option (DDoc × DL01Cur) :=
  Option.bind (x_spec_l01Signs c 8) fun r8 => Option.bind (x_spec_DocNew name r8.1) fun r14 => xg (inI (most + 1)) <| Option.bind (x_spec_l01Below r8.2 (most + 1)) fun r37 => Option.bind (iter (x_spec_l08Draw_f0 name) (r37.1, r37.2.b, r37.2.i, r37.2.h, r14.1.name, r14.1.from_, r14.1.text, r14.1.list, r14.1.seen)) fun (y411 : List UInt8 × Int × Int × ByteArray × Int × List Int × List DEntry × List DSeen) => some ((⟨y411.2.2.2.1, y411.2.2.2.2.1, y411.2.2.2.2.2.1, y411.2.2.2.2.2.2.1, y411.2.2.2.2.2.2.2⟩ : DDoc), (⟨y411.1, y411.2.1, y411.2.2.1⟩ : DL01Cur))
theorem ct_spec_l08Draw (w : World) (X S : Bs) (b_c : Nat) (c : DL01Cur) (s_c_0 : Sv) (name : ByteArray) (most : Int) (hS : ∀ b, S b → b < w.heap.size ∧ ¬ X b) (a_c_0 : (cSl 1 fY c.b).rd S w s_c_0.v) (oL : Sep [oBox b_c #[s_c_0.v, (.int .i64 c.i), (.int .i64 c.h)] 78] X w) {r : DDoc × DL01Cur} (hx : x_spec_l08Draw c name most = some r) :
  Ret Tryz.prog 28 [(.pointer (some ⟨b_c, 0, none⟩)), (.string name), (.int .i64 most)] w (fun u w' => ∃ y : Sv × Sv × Sv × Sv, u = .agg #[(.string r.1.name), (.int .i64 r.1.from_), y.1.v, y.2.1.v, y.2.2.1.v] ∧ Gives X S w [oC (cSl 1 fI r.1.text) y.1.v, oC (cSl 3 fDEntry r.1.list) y.2.1.v, oC (cSl 3 fDSeen r.1.seen) y.2.2.1.v, oBox b_c #[y.2.2.2.v, (.int .i64 r.2.i), (.int .i64 r.2.h)] 78] [rV y.2.2.2.v (cSl 1 fY r.2.b)] w') := by
 unfold x_spec_l08Draw at hx
 refine enter Tryz.func28 rfl Tryz.ntmps28 (by kernel_rfl) rfl ?_
 have hM := St.enter oL hS
 have hM := hM.addE (r := rV s_c_0.v (cSl 1 fY c.b)) a_c_0
 refine wc_sr ?_
 refine w_ex rfl (x_alloc sz27 hM ?_); intro b423 w422 hR424 hM
 dsimp only [Value.cells] at hM
 refine wl_sq ?_
 refine wc_sr ?_
 refine wmv rfl rfl ?_
 refine wmv rfl rfl ?_
 replace hM := hM.p1
 obtain ⟨r428, h429, hx⟩ := bind_some' hx
 refine w_call rfl rfl (hM.callR (l := [oBox b_c #[s_c_0.v, (.int .i64 c.i), (.int .i64 c.h)] 78]) fun X S oL hS hR => ct_spec_l01Signs _ X S b_c c s_c_0 (8 : Int) hS (hR _ (.head _)) oL h429) ?_
 rintro _ w430 ⟨⟨s431, s432⟩, rfl, hM⟩
 dsimp only [List.cons_append, List.nil_append] at hM
 obtain ⟨r434, h435, hx⟩ := bind_some' hx
 refine w_call rfl rfl (hM.callO (l := []) fun X S oL hS hR hO => ct_spec_DocNew _ X S name r428.1 s431 hS (seeA hO (.head _)) oL h435) ?_
 rintro _ w436 ⟨⟨s437, s438, s439⟩, rfl, hM⟩
 dsimp only [List.cons_append, List.nil_append] at hM
 refine wmv rfl rfl ?_
 refine wv rfl (r_extract rfl rfl) ?_
 refine wv rfl (r_extract rfl rfl) ?_
 refine w_ex rfl (x_alloc sz27 hM ?_); intro b447 w446 hR448 hM
 dsimp only [Value.cells] at hM
 refine w_exu (x_stB #[(.string r434.1.name), (.int .i64 r434.1.from_), s437.v, s438.v, s439.v] sz27 rfl rfl rfl rfl rfl rfl hM ?_); intro w450 hM
 refine was rfl rfl ?_
 refine wl_sq ?_
 refine wc_seq ?_
 refine wc_sr ?_
 refine wmv rfl rfl ?_
 refine wmv rfl rfl ?_
 obtain ⟨hg456, hx⟩ := xg_some hx
 refine wv rfl (r_add rfl rfl hg456) ?_
 replace hM := hM.p5
 obtain ⟨r457, h458, hx⟩ := bind_some' hx
 refine w_call rfl rfl (hM.callR (l := [oBox b_c #[s432.v, (.int .i64 r428.2.i), (.int .i64 r428.2.h)] 78]) fun X S oL hS hR => ct_spec_l01Below _ X S b_c r428.2 s432 (most + 1) hS (hR _ (.head _)) oL h458) ?_
 rintro _ w459 ⟨s460, rfl, hM⟩
 dsimp only [List.cons_append, List.nil_append] at hM
 refine was rfl rfl ?_
 refine wl_sq ?_
 refine wc_block ?_
 obtain ⟨y462, hx, hx463⟩ := bind_some' hx
 replace hM := hM.p4.p4.p4.p4.p6.p5
 replace hM := hM.t6
 have hM := hM.fewer (rsC (.head _) rsN)
 replace hM : St ⟨w, X, S⟩ [oBox b_c #[s460.v, (.int .i64 r457.2.i), (.int .i64 r457.2.h)] 78, oBox b423 #[(.string ByteArray.empty), (.int .i64 0), (.slice none 0 0), (.slice none 0 0), (.slice none 0 0)] 27, oBox b447 #[(.string r434.1.name), (.int .i64 r434.1.from_), s437.v, s438.v, s439.v] 27, oC (cSl 1 fI r434.1.text) s437.v, oC (cSl 3 fDEntry r434.1.list) s438.v, oC (cSl 3 fDSeen r434.1.seen) s439.v] [rV s460.v (cSl 1 fY r457.2.b)] _ := hM
 obtain ⟨m482, hx⟩ := iter_run hx
 refine wc_loop (un fun (m480 : Nat) => un fun (n464 : Int) => un fun (l465 : List UInt8) => un fun (n466 : Int) => un fun (n467 : Int) => un fun (l468 : ByteArray) => un fun (n469 : Int) => un fun (l470 : List Int) => un fun (l471 : List DEntry) => un fun (l472 : List DSeen) => un fun (s473 : Sv) => un fun (s475 : Sv) => un fun (s477 : Sv) => fun (s479 : Sv) => [(0, (.pointer (some ⟨b_c, 0, none⟩))), (6, (.pointer (some ⟨b423, 0, none⟩))), (7, (.pointer (some ⟨b447, 0, none⟩))), (9, (.int .i64 n464))]) (un fun (m480 : Nat) => un fun (n464 : Int) => un fun (l465 : List UInt8) => un fun (n466 : Int) => un fun (n467 : Int) => un fun (l468 : ByteArray) => un fun (n469 : Int) => un fun (l470 : List Int) => un fun (l471 : List DEntry) => un fun (l472 : List DSeen) => un fun (s473 : Sv) => un fun (s475 : Sv) => un fun (s477 : Sv) => fun (s479 : Sv) w' => St ⟨w, X, S⟩ [oBox b_c #[s473.v, (.int .i64 n466), (.int .i64 n467)] 78, oBox b423 #[(.string ByteArray.empty), (.int .i64 0), (.slice none 0 0), (.slice none 0 0), (.slice none 0 0)] 27, oBox b447 #[(.string l468), (.int .i64 n469), s475.v, s477.v, s479.v] 27, oC (cSl 1 fI l470) s475.v, oC (cSl 3 fDEntry l471) s477.v, oC (cSl 3 fDSeen l472) s479.v] [rV s473.v (cSl 1 fY l465)] w' ∧ iterN _ m480 (n464, l465, n466, n467, l468, n469, l470, l471, l472) = some y462) (fun p => p.1) (m482, r457.1, r457.2.b, r457.2.i, r457.2.h, r434.1.name, r434.1.from_, r434.1.text, r434.1.list, r434.1.seen, s460, s437, s438, s439) ⟨rfl, rfl, rfl, rfl, trivial⟩ ⟨hM, hx⟩ ?_
 rintro ⟨m480, n464, l465, n466, n467, l468, n469, l470, l471, l472, s473, s475, s477, s479⟩ w483 ⟨hM, hx⟩
 obtain ⟨m484, z485, rfl, hx, hx486⟩ := iterN_step hx
 unfold x_spec_l08Draw_f0 x_spec_l08Draw_b0 at hx
 try dsimp only at hx
 refine wc_seq ?_
 refine wc_sr ?_
 refine wmv rfl rfl ?_
 refine wv rfl (r_gtr rfl rfl) ?_
 refine wl_sq ?_
 refine wc_cond rfl (fun hc489 => ?_) (fun hc489 => ?_)
 ·
  replace hx := xif_t hc489 hx
  refine wc_skip ?_
  refine sq_n ?_
  refine wc_seq ?_
  refine wc_block ?_
  refine wc_sr ?_
  refine wmv rfl rfl ?_
  obtain ⟨r491, h492, hx⟩ := bind_some' hx
  refine w_call rfl rfl (hM.callR (l := [oBox b_c #[s473.v, (.int .i64 n466), (.int .i64 n467)] 78]) fun X S oL hS hR => ct_spec_l01Below _ X S b_c (⟨l465, n466, n467⟩ : DL01Cur) s473 (3 : Int) hS (hR _ (.head _)) oL h492) ?_
  rintro _ w493 ⟨s494, rfl, hM⟩
  dsimp only [List.cons_append, List.nil_append] at hM
  obtain ⟨hg496, hx⟩ := xg_some hx
  refine wv rfl (r_add rfl rfl hg496) ?_
  refine was rfl rfl ?_
  refine wl_sq ?_
  refine wc_sr ?_
  refine wv rfl (r_ldBS Tryz.underlying27 sz27 rfl (us := [(.string l468), (.int .i64 n469), s475.v, s477.v, s479.v]) rfl hM (.tail _ (.tail _ (.head _))) rfl) ?_
  refine wmv rfl rfl ?_
  obtain ⟨r500, h501, hx⟩ := bind_some' hx
  refine w_call rfl rfl (hM.callV fun X S oL hS hR hO => ct_spec_SeenOf _ X S (⟨l468, n469, l470, l471, l472⟩ : DDoc) s475 s477 s479 (1 + r491.1) hS (seeA hO (.tail _ (.tail _ (.tail _ (.head _))))) (seeA hO (.tail _ (.tail _ (.tail _ (.tail _ (.head _)))))) (seeA hO (.tail _ (.tail _ (.tail _ (.tail _ (.tail _ (.head _))))))) oL h501) ?_
  rintro _ w502 ⟨rfl, hR503⟩
  have hM := hM.call hR503
  refine wmv rfl rfl ?_
  refine wv rfl (r_extract rfl rfl) ?_
  refine wv rfl (r_extract rfl rfl) ?_
  refine w_ex rfl (x_alloc sz83 hM ?_); intro b508 w507 hR509 hM
  dsimp only [Value.cells] at hM
  refine w_exu (x_stB #[(.int .i64 r500.1.client), (.int .i64 r500.1.seq), (.int .i64 r500.1.rev)] sz83 rfl rfl rfl rfl rfl rfl hM ?_); intro w511 hM
  refine was rfl rfl ?_
  refine wl_sq ?_
  refine wc_seq ?_
  refine wc_draw [(0, 0), (1, 0), (2, 0), (3, 0), (4, 0), (5, 0), (6, 0), (7, 2), (8, 0), (9, 0)] Tryz_mixed (by kernel_rfl) rfl (by kernel_rfl) rfl ?_
  refine ov rfl (fun w' h' => r_ldBS Tryz.underlying27 sz27 rfl (us := [(.string l468), (.int .i64 n469), s475.v, s477.v, s479.v]) rfl (hM.call h') (.tail _ (.tail _ (.tail _ (.head _)))) rfl) ?_
  obtain ⟨r515, h516, hx⟩ := bind_some' hx
  refine oc rfl rfl (fun w' h' => (hM.call h').callV fun X S oL hS hR hO => ct_spec_HeadRev _ X S (⟨l468, n469, l470, l471, l472⟩ : DDoc) s475 s477 s479 hS (seeA hO (.tail _ (.tail _ (.tail _ (.tail _ (.head _)))))) (seeA hO (.tail _ (.tail _ (.tail _ (.tail _ (.tail _ (.head _))))))) (seeA hO (.tail _ (.tail _ (.tail _ (.tail _ (.tail _ (.tail _ (.head _)))))))) oL h516) ?_
  refine omv rfl rfl ?_
  refine ov rfl (fun w' h' => r_fld Tryz.underlying27 rfl rfl sz24 rfl) ?_
  refine ov rfl (fun w' h' => r_ldB Tryz.underlying24 rfl rfl (hM.call h') (.tail _ (.tail _ (.tail _ (.head _)))) rfl) ?_
  refine ov rfl (fun w' h' => r_lenC Tryz.underlying24 rfl ((hM.call h').seeO (.tail _ (.tail _ (.tail _ (.tail _ (.tail _ (.head _)))))))) ?_
  obtain ⟨hg523, hx⟩ := xg_some hx
  refine ov rfl (fun w' h' => r_add rfl rfl hg523) ?_
  replace hM := hM.p1
  obtain ⟨r524, h525, hx⟩ := bind_some' hx
  refine o_call rfl rfl (fun w' h' => (hM.call h').callR (l := [oBox b_c #[s494.v, (.int .i64 r491.2.i), (.int .i64 r491.2.h)] 78]) fun X S oL hS hR => ct_spec_l01Below _ X S b_c r491.2 s494 ((l471.length : Int) + 1) hS (hR _ (.head _)) oL h525) ?_
  rintro w528 h529 _ w526 ⟨s527, rfl, hM⟩
  dsimp only [List.cons_append, List.nil_append] at hM
  obtain ⟨hg531, hx⟩ := xg_some hx
  refine ov rfl (fun w' h' => r_sub rfl rfl hg531) ?_
  refine ov rfl (fun w' h' => r_assign rfl) ?_
  refine o_nilM hM fun w533 hM => ?_
  refine sq_n ?_
  refine wc_sr ?_
  refine wv rfl (r_ldBS Tryz.underlying27 sz27 rfl (us := [(.string l468), (.int .i64 n469), s475.v, s477.v, s479.v]) rfl hM (.tail _ (.tail _ (.tail _ (.head _)))) rfl) ?_
  refine wmv rfl rfl ?_
  obtain ⟨r537, h538, hx⟩ := bind_some' hx
  refine w_call rfl rfl (hM.callO (l := []) fun X S oL hS hR hO => ct_spec_TextAt _ X S (⟨l468, n469, l470, l471, l472⟩ : DDoc) s475 s477 s479 (r515 - r524.1) hS (seeA hO (.tail _ (.tail _ (.tail _ (.tail _ (.head _)))))) (seeA hO (.tail _ (.tail _ (.tail _ (.tail _ (.tail _ (.head _))))))) (seeA hO (.tail _ (.tail _ (.tail _ (.tail _ (.tail _ (.tail _ (.head _)))))))) oL h538) ?_
  rintro _ w539 ⟨s540, rfl, hM⟩
  dsimp only [List.cons_append, List.nil_append] at hM
  refine wmv rfl rfl ?_
  refine wv rfl (r_extract rfl rfl) ?_
  refine wv rfl (r_extract rfl rfl) ?_
  refine was rfl rfl ?_
  refine was rfl rfl ?_
  refine wl_sq ?_
  refine wc_seq ?_
  obtain ⟨hg552, hx⟩ := xg_some hx
  obtain ⟨r557, h558, hx⟩ := bind_some' hx
  obtain ⟨r565, h566, hx⟩ := bind_some' hx
  refine wc_mid (un fun (b581 : Nat) => un fun (s568 : Sv) => un fun (s569 : Sv) => un fun (s570 : Sv) => fun (s561 : Sv) => [(0, (.pointer (some ⟨b_c, 0, none⟩))), (6, (.pointer (some ⟨b423, 0, none⟩))), (7, (.pointer (some ⟨b447, 0, none⟩))), (9, (.int .i64 n464)), (16, (.pointer (some ⟨b581, 0, none⟩))), (18, (.int .i64 r565.2.2))]) (un fun (b581 : Nat) => un fun (s568 : Sv) => un fun (s569 : Sv) => un fun (s570 : Sv) => fun (s561 : Sv) w' => St ⟨w, X, S⟩ [oBox b_c #[s561.v, (.int .i64 r557.2.i), (.int .i64 r557.2.h)] 78, oBox b423 #[(.string ByteArray.empty), (.int .i64 0), (.slice none 0 0), (.slice none 0 0), (.slice none 0 0)] 27, oBox b447 #[(.string l468), (.int .i64 n469), s475.v, s477.v, s479.v] 27, oC (cSl 1 fI l470) s475.v, oC (cSl 3 fDEntry l471) s477.v, oC (cSl 3 fDSeen l472) s479.v, oBox b581 #[(.string r565.1.name), (.int .i64 r565.1.from_), s568.v, s569.v, s570.v] 27, oC (cSl 1 fI r565.1.text) s568.v, oC (cSl 3 fDEntry r565.1.list) s569.v, oC (cSl 3 fDSeen r565.1.seen) s570.v] [rV s561.v (cSl 1 fY r557.2.b)] w') ?_ ?_
  ·
   refine wc_drawM (fun w' => ∃ m rs, St ⟨w, X, S⟩ m rs w' ∧ oBox b447 #[(.string l468), (.int .i64 n469), s475.v, s477.v, s479.v] 27 ∈ m ∧ oBox b508 #[(.int .i64 r500.1.client), (.int .i64 r500.1.seq), (.int .i64 r500.1.rev)] 83 ∈ m) Tryz_mixed ?_
   refine wm_run [(1, 0), (5, 0), (6, 0), (7, 0)] 15 (fun _ h' => ⟨_, _, hM.call h', (.tail _ (.tail _ (.tail _ (.tail _ (.head _))))), (.tail _ (.tail _ (.head _)))⟩) rfl rfl (by kernel_rfl) (by kernel_rfl) rfl ?_
   refine omv rfl rfl ?_
   refine omv rfl rfl ?_
   refine omv rfl rfl ?_
   refine omv rfl rfl ?_
   refine o_nilM hM fun w596 hM => ?_
   refine wm_free 0 14 rfl rfl (by kernel_rfl) (by kernel_rfl) rfl (fun _ ⟨_, _, hM, q0, q1⟩ => r_ldBS Tryz.underlying27 sz27 rfl (us := [(.string l468), (.int .i64 n469), s475.v, s477.v, s479.v]) rfl hM q0 rfl) ?_
   refine wm_free 2 13 rfl rfl (by kernel_rfl) (by kernel_rfl) rfl (fun _ _ => r_fld Tryz.underlying83 rfl rfl sz3 rfl) ?_
   refine wm_free 3 12 rfl rfl (by kernel_rfl) (by kernel_rfl) rfl (fun _ ⟨_, _, hM, q0, q1⟩ => r_ldB Tryz.underlying3 rfl rfl hM q1 rfl) ?_
   refine wm_free 4 11 rfl rfl (by kernel_rfl) (by kernel_rfl) rfl (fun _ _ => r_add rfl rfl hg552) ?_
   refine wm_free 8 10 rfl rfl (by kernel_rfl) (by kernel_rfl) rfl (fun _ _ => r_lenC Tryz.underlying23 rfl (hM.seeO (.head _))) ?_
   refine wm_fork [(9, 1), (15, 1)] 9 (fun _ h' => ⟨_, _, hM.call h', (.tail _ (.tail _ (.tail _ (.tail _ (.head _))))), (.tail _ (.tail _ (.head _)))⟩) rfl (by kernel_rfl) rfl (by kernel_rfl) ⟨?_, ?_, trivial⟩
   ·
    replace hM := hM.p1
    refine o_call rfl rfl (fun w' h' => (hM.call h').callR (l := [oBox b_c #[s527.v, (.int .i64 r524.2.i), (.int .i64 r524.2.h)] 78]) fun X S oL hS hR => ct_spec_l02Draw _ X S b_c r524.2 s527 (r537.1.length : Int) hS (hR _ (.head _)) oL h558) ?_
    rintro w606 h607 _ w603 ⟨⟨s604, s605⟩, rfl, hM⟩
    dsimp only [List.cons_append, List.nil_append] at hM
    refine o_nilM hM fun w609 hM => ?_
    refine wm_fork [(10, 1), (15, 1)] 8 (fun _ h' => ⟨_, _, hM.call h', (.tail _ (.tail _ (.tail _ (.tail _ (.tail _ (.head _)))))), (.tail _ (.tail _ (.tail _ (.head _))))⟩) rfl (by kernel_rfl) rfl (by kernel_rfl) ⟨?_, ?_, trivial⟩
    ·
     refine o_call rfl rfl (fun w' h' => (hM.call h').callO (l := []) fun X S oL hS hR hO => ct_spec_Submit _ X S (⟨l468, n469, l470, l471, l472⟩ : DDoc) s475 s477 s479 (1 + r491.1) (r500.1.seq + 1) (r515 - r524.1) r557.1 s604 hS (seeA hO (.tail _ (.tail _ (.tail _ (.tail _ (.tail _ (.tail _ (.head _)))))))) (seeA hO (.tail _ (.tail _ (.tail _ (.tail _ (.tail _ (.tail _ (.tail _ (.head _))))))))) (seeA hO (.tail _ (.tail _ (.tail _ (.tail _ (.tail _ (.tail _ (.tail _ (.tail _ (.head _)))))))))) (seeA hO (.head _)) oL h566) ?_
     rintro w615 h616 _ w611 ⟨⟨s612, s613, s614⟩, rfl, hM⟩
     dsimp only [List.cons_append, List.nil_append] at hM
     refine o_nilM hM fun w620 hM => ?_
     refine wm_run [(11, 0), (12, 0)] 6 (fun _ h' => ⟨_, _, hM.call h', (.tail _ (.tail _ (.tail _ (.tail _ (.tail _ (.tail _ (.tail _ (.tail _ (.head _))))))))), (.tail _ (.tail _ (.tail _ (.tail _ (.tail _ (.tail _ (.head _)))))))⟩) rfl rfl (by kernel_rfl) (by kernel_rfl) rfl ?_
     refine omv rfl rfl ?_
     refine ov rfl (fun w' h' => r_extract rfl rfl) ?_
     refine o_nilM hM fun w624 hM => ?_
     refine wm_free 13 5 rfl rfl (by kernel_rfl) (by kernel_rfl) rfl (fun _ _ => r_extract rfl rfl) ?_
     refine wm_free 14 4 rfl rfl (by kernel_rfl) (by kernel_rfl) rfl (fun _ _ => r_extract rfl rfl) ?_
     refine wm_run [(15, 1)] 3 (fun _ h' => ⟨_, _, hM.call h', (.tail _ (.tail _ (.tail _ (.tail _ (.tail _ (.tail _ (.tail _ (.tail _ (.head _))))))))), (.tail _ (.tail _ (.tail _ (.tail _ (.tail _ (.tail _ (.head _)))))))⟩) rfl rfl (by kernel_rfl) (by kernel_rfl) rfl ?_
     refine o_ex1 rfl fun w631 h632 => ?_
     have hM := hM.call h632
     refine x_alloc sz27 hM ?_; intro b629 w628 hR630 hM
     refine ⟨hR630, ?_⟩
     dsimp only [Value.cells] at hM
     refine o_nilM hM fun w634 hM => ?_
     refine wm_run [(16, 2), (17, 0), (18, 0)] 0 (fun _ h' => ⟨_, _, hM.call h', (.tail _ (.tail _ (.tail _ (.tail _ (.tail _ (.tail _ (.tail _ (.tail _ (.tail _ (.head _)))))))))), (.tail _ (.tail _ (.tail _ (.tail _ (.tail _ (.tail _ (.tail _ (.head _))))))))⟩) rfl rfl (by kernel_rfl) (by kernel_rfl) rfl ?_
     refine o_exu fun w638 h639 => ?_
     have hM := hM.call h639
     refine x_stB #[(.string r565.1.name), (.int .i64 r565.1.from_), s612.v, s613.v, s614.v] sz27 rfl rfl rfl rfl rfl rfl hM ?_; intro w636 hM
     refine ov rfl (fun w' h' => r_assign rfl) ?_
     refine ov rfl (fun w' h' => r_assign rfl) ?_
     refine o_nilM hM fun w642 hM => ?_
     refine wm_end (fun _ h' => ⟨_, _, hM.call h', (.tail _ (.tail _ (.tail _ (.tail _ (.tail _ (.tail _ (.tail _ (.tail _ (.tail _ (.head _)))))))))), (.tail _ (.tail _ (.tail _ (.tail _ (.tail _ (.tail _ (.tail _ (.head _))))))))⟩) (by kernel_rfl) fun w644 hw645 => ?_
     have hM := hM.call hw645
     replace hM := hM.p3.p3.p3.p3.p12.p12.p12.p12.p12.p10
     replace hM := hM.t10
     have hM := hM.fewer (rsC (.head _) rsN)
     replace hM : St ⟨w, X, S⟩ [oBox b_c #[s605.v, (.int .i64 r557.2.i), (.int .i64 r557.2.h)] 78, oBox b423 #[(.string ByteArray.empty), (.int .i64 0), (.slice none 0 0), (.slice none 0 0), (.slice none 0 0)] 27, oBox b447 #[(.string l468), (.int .i64 n469), s475.v, s477.v, s479.v] 27, oC (cSl 1 fI l470) s475.v, oC (cSl 3 fDEntry l471) s477.v, oC (cSl 3 fDSeen l472) s479.v, oBox b629 #[(.string r565.1.name), (.int .i64 r565.1.from_), s612.v, s613.v, s614.v] 27, oC (cSl 1 fI r565.1.text) s612.v, oC (cSl 3 fDEntry r565.1.list) s613.v, oC (cSl 3 fDSeen r565.1.seen) s614.v] [rV s605.v (cSl 1 fY r557.2.b)] _ := hM
     exact mid_c (b629, s612, s613, s614, s605) ⟨rfl, rfl, rfl, rfl, rfl, rfl, trivial⟩ hM
    ·
     refine o_ex rfl fun w649 h650 => ?_
     have hM := hM.call h650
     refine x_alloc sz27 hM ?_; intro b647 w646 hR648 hM
     dsimp only [Value.cells] at hM
     refine o_nilM hM fun w652 hM => ?_
     refine wm_run [(10, 2), (11, 0), (12, 0)] 5 (fun _ h' => ⟨_, _, hM.call h', (.tail _ (.tail _ (.tail _ (.tail _ (.tail _ (.tail _ (.head _))))))), (.tail _ (.tail _ (.tail _ (.tail _ (.head _)))))⟩) rfl rfl (by kernel_rfl) (by kernel_rfl) rfl ?_
     refine o_call rfl rfl (fun w' h' => (hM.call h').callO (l := []) fun X S oL hS hR hO => ct_spec_Submit _ X S (⟨l468, n469, l470, l471, l472⟩ : DDoc) s475 s477 s479 (1 + r491.1) (r500.1.seq + 1) (r515 - r524.1) r557.1 s604 hS (seeA hO (.tail _ (.tail _ (.tail _ (.tail _ (.tail _ (.tail _ (.tail _ (.head _))))))))) (seeA hO (.tail _ (.tail _ (.tail _ (.tail _ (.tail _ (.tail _ (.tail _ (.tail _ (.head _)))))))))) (seeA hO (.tail _ (.tail _ (.tail _ (.tail _ (.tail _ (.tail _ (.tail _ (.tail _ (.tail _ (.head _))))))))))) (seeA hO (.tail _ (.head _))) oL h566) ?_
     rintro w658 h659 _ w654 ⟨⟨s655, s656, s657⟩, rfl, hM⟩
     dsimp only [List.cons_append, List.nil_append] at hM
     refine omv rfl rfl ?_
     refine ov rfl (fun w' h' => r_extract rfl rfl) ?_
     refine o_nilM hM fun w665 hM => ?_
     refine wm_free 13 4 rfl rfl (by kernel_rfl) (by kernel_rfl) rfl (fun _ _ => r_extract rfl rfl) ?_
     refine wm_free 14 3 rfl rfl (by kernel_rfl) (by kernel_rfl) rfl (fun _ _ => r_extract rfl rfl) ?_
     refine wm_run [(16, 2), (17, 0), (18, 0)] 0 (fun _ h' => ⟨_, _, hM.call h', (.tail _ (.tail _ (.tail _ (.tail _ (.tail _ (.tail _ (.tail _ (.tail _ (.tail _ (.head _)))))))))), (.tail _ (.tail _ (.tail _ (.tail _ (.tail _ (.tail _ (.tail _ (.head _))))))))⟩) rfl rfl (by kernel_rfl) (by kernel_rfl) rfl ?_
     replace hM := hM.p3
     refine o_exu fun w671 h672 => ?_
     have hM := hM.call h672
     refine x_stB #[(.string r565.1.name), (.int .i64 r565.1.from_), s655.v, s656.v, s657.v] sz27 rfl rfl rfl rfl rfl rfl hM ?_; intro w669 hM
     refine ov rfl (fun w' h' => r_assign rfl) ?_
     refine ov rfl (fun w' h' => r_assign rfl) ?_
     refine o_nilM hM fun w675 hM => ?_
     refine wm_end (fun _ h' => ⟨_, _, hM.call h', (.tail _ (.tail _ (.tail _ (.tail _ (.tail _ (.tail _ (.tail _ (.tail _ (.tail _ (.head _)))))))))), (.tail _ (.tail _ (.tail _ (.tail _ (.tail _ (.tail _ (.tail _ (.head _))))))))⟩) (by kernel_rfl) fun w677 hw678 => ?_
     have hM := hM.call hw678
     replace hM := hM.p3.p3.p3.p3.p12.p12.p12.p12.p12.p10
     replace hM := hM.t10
     have hM := hM.fewer (rsC (.head _) rsN)
     replace hM : St ⟨w, X, S⟩ [oBox b_c #[s605.v, (.int .i64 r557.2.i), (.int .i64 r557.2.h)] 78, oBox b423 #[(.string ByteArray.empty), (.int .i64 0), (.slice none 0 0), (.slice none 0 0), (.slice none 0 0)] 27, oBox b447 #[(.string l468), (.int .i64 n469), s475.v, s477.v, s479.v] 27, oC (cSl 1 fI l470) s475.v, oC (cSl 3 fDEntry l471) s477.v, oC (cSl 3 fDSeen l472) s479.v, oBox b647 #[(.string r565.1.name), (.int .i64 r565.1.from_), s655.v, s656.v, s657.v] 27, oC (cSl 1 fI r565.1.text) s655.v, oC (cSl 3 fDEntry r565.1.list) s656.v, oC (cSl 3 fDSeen r565.1.seen) s657.v] [rV s605.v (cSl 1 fY r557.2.b)] _ := hM
     exact mid_c (b647, s655, s656, s657, s605) ⟨rfl, rfl, rfl, rfl, rfl, rfl, trivial⟩ hM
   ·
    refine o_ex rfl fun w682 h683 => ?_
    have hM := hM.call h683
    refine x_alloc sz27 hM ?_; intro b680 w679 hR681 hM
    dsimp only [Value.cells] at hM
    refine o_nilM hM fun w685 hM => ?_
    refine wm_run [(9, 2)] 8 (fun _ h' => ⟨_, _, hM.call h', (.tail _ (.tail _ (.tail _ (.tail _ (.tail _ (.head _)))))), (.tail _ (.tail _ (.tail _ (.head _))))⟩) rfl rfl (by kernel_rfl) (by kernel_rfl) rfl ?_
    replace hM := hM.p2
    refine o_call rfl rfl (fun w' h' => (hM.call h').callR (l := [oBox b_c #[s527.v, (.int .i64 r524.2.i), (.int .i64 r524.2.h)] 78]) fun X S oL hS hR => ct_spec_l02Draw _ X S b_c r524.2 s527 (r537.1.length : Int) hS (hR _ (.head _)) oL h558) ?_
    rintro w690 h691 _ w687 ⟨⟨s688, s689⟩, rfl, hM⟩
    dsimp only [List.cons_append, List.nil_append] at hM
    refine o_nilM hM fun w693 hM => ?_
    refine wm_run [(10, 2), (11, 0), (12, 0)] 5 (fun _ h' => ⟨_, _, hM.call h', (.tail _ (.tail _ (.tail _ (.tail _ (.tail _ (.tail _ (.head _))))))), (.tail _ (.tail _ (.tail _ (.tail _ (.head _)))))⟩) rfl rfl (by kernel_rfl) (by kernel_rfl) rfl ?_
    refine o_call rfl rfl (fun w' h' => (hM.call h').callO (l := []) fun X S oL hS hR hO => ct_spec_Submit _ X S (⟨l468, n469, l470, l471, l472⟩ : DDoc) s475 s477 s479 (1 + r491.1) (r500.1.seq + 1) (r515 - r524.1) r557.1 s688 hS (seeA hO (.tail _ (.tail _ (.tail _ (.tail _ (.tail _ (.tail _ (.tail _ (.head _))))))))) (seeA hO (.tail _ (.tail _ (.tail _ (.tail _ (.tail _ (.tail _ (.tail _ (.tail _ (.head _)))))))))) (seeA hO (.tail _ (.tail _ (.tail _ (.tail _ (.tail _ (.tail _ (.tail _ (.tail _ (.tail _ (.head _))))))))))) (seeA hO (.head _)) oL h566) ?_
    rintro w699 h700 _ w695 ⟨⟨s696, s697, s698⟩, rfl, hM⟩
    dsimp only [List.cons_append, List.nil_append] at hM
    refine omv rfl rfl ?_
    refine ov rfl (fun w' h' => r_extract rfl rfl) ?_
    refine o_nilM hM fun w706 hM => ?_
    refine wm_free 13 4 rfl rfl (by kernel_rfl) (by kernel_rfl) rfl (fun _ _ => r_extract rfl rfl) ?_
    refine wm_free 14 3 rfl rfl (by kernel_rfl) (by kernel_rfl) rfl (fun _ _ => r_extract rfl rfl) ?_
    refine wm_run [(16, 2), (17, 0), (18, 0)] 0 (fun _ h' => ⟨_, _, hM.call h', (.tail _ (.tail _ (.tail _ (.tail _ (.tail _ (.tail _ (.tail _ (.tail _ (.tail _ (.head _)))))))))), (.tail _ (.tail _ (.tail _ (.tail _ (.tail _ (.tail _ (.tail _ (.head _))))))))⟩) rfl rfl (by kernel_rfl) (by kernel_rfl) rfl ?_
    replace hM := hM.p5
    refine o_exu fun w712 h713 => ?_
    have hM := hM.call h713
    refine x_stB #[(.string r565.1.name), (.int .i64 r565.1.from_), s696.v, s697.v, s698.v] sz27 rfl rfl rfl rfl rfl rfl hM ?_; intro w710 hM
    refine ov rfl (fun w' h' => r_assign rfl) ?_
    refine ov rfl (fun w' h' => r_assign rfl) ?_
    refine o_nilM hM fun w716 hM => ?_
    refine wm_end (fun _ h' => ⟨_, _, hM.call h', (.tail _ (.tail _ (.tail _ (.tail _ (.tail _ (.tail _ (.tail _ (.tail _ (.tail _ (.head _)))))))))), (.tail _ (.tail _ (.tail _ (.tail _ (.tail _ (.tail _ (.tail _ (.head _))))))))⟩) (by kernel_rfl) fun w718 hw719 => ?_
    have hM := hM.call hw719
    replace hM := hM.p3.p3.p3.p3.p12.p12.p12.p12.p12.p10
    replace hM := hM.t10
    have hM := hM.fewer (rsC (.head _) rsN)
    replace hM : St ⟨w, X, S⟩ [oBox b_c #[s689.v, (.int .i64 r557.2.i), (.int .i64 r557.2.h)] 78, oBox b423 #[(.string ByteArray.empty), (.int .i64 0), (.slice none 0 0), (.slice none 0 0), (.slice none 0 0)] 27, oBox b447 #[(.string l468), (.int .i64 n469), s475.v, s477.v, s479.v] 27, oC (cSl 1 fI l470) s475.v, oC (cSl 3 fDEntry l471) s477.v, oC (cSl 3 fDSeen l472) s479.v, oBox b680 #[(.string r565.1.name), (.int .i64 r565.1.from_), s696.v, s697.v, s698.v] 27, oC (cSl 1 fI r565.1.text) s696.v, oC (cSl 3 fDEntry r565.1.list) s697.v, oC (cSl 3 fDSeen r565.1.seen) s698.v] [rV s689.v (cSl 1 fY r557.2.b)] _ := hM
    exact mid_c (b680, s696, s697, s698, s689) ⟨rfl, rfl, rfl, rfl, rfl, rfl, trivial⟩ hM
  rintro ⟨b581, s568, s569, s570, s561⟩ w720 hM
  refine sq_n ?_
  refine wc_sr ?_
  refine wmv rfl rfl ?_
  refine wv rfl (r_eql rfl rfl) ?_
  refine wl_sq ?_
  refine wc_cond rfl (fun hc723 => ?_) (fun hc723 => ?_)
  ·
   replace hx := xif_t hc723 hx
   refine wc_region ?_
   refine wv rfl (r_ldBS Tryz.underlying27 sz27 rfl (us := [(.string r565.1.name), (.int .i64 r565.1.from_), s568.v, s569.v, s570.v]) rfl hM (.tail _ (.tail _ (.tail _ (.tail _ (.tail _ (.tail _ (.head _))))))) rfl) ?_
   replace hM := hM.p2
   refine w_exu (x_stB #[(.string r565.1.name), (.int .i64 r565.1.from_), s568.v, s569.v, s570.v] sz27 rfl rfl rfl rfl rfl rfl hM ?_); intro w725 hM
   refine wl_nil ?_
   refine bk_n ?_
   refine sq_n ?_
   refine wc_region ?_
   refine wmv rfl rfl ?_
   obtain ⟨hg729, hx⟩ := xg_some hx
   refine wv rfl (r_sub rfl rfl hg729) ?_
   refine was rfl rfl ?_
   refine wl_nil ?_
   obtain rfl := Option.some.inj hx
   replace hM := hM.p9.p9.p9.p3.p5.p5
   replace hM := hM.t6
   exact lp_end (m484, n464 - 1, r557.2.b, r557.2.i, r557.2.h, r565.1.name, r565.1.from_, r565.1.text, r565.1.list, r565.1.seen, s561, s568, s569, s570) (Nat.lt_succ_self _) ⟨rfl, rfl, rfl, rfl, trivial⟩ ⟨hM, hx486⟩
  ·
   replace hx := xif_f hc723 hx
   refine wc_skip ?_
   refine bk_n ?_
   refine sq_n ?_
   refine wc_region ?_
   refine wmv rfl rfl ?_
   obtain ⟨hg733, hx⟩ := xg_some hx
   refine wv rfl (r_sub rfl rfl hg733) ?_
   refine was rfl rfl ?_
   refine wl_nil ?_
   obtain rfl := Option.some.inj hx
   replace hM := hM.t6
   exact lp_end (m484, n464 - 1, r557.2.b, r557.2.i, r557.2.h, l468, n469, l470, l471, l472, s561, s475, s477, s479) (Nat.lt_succ_self _) ⟨rfl, rfl, rfl, rfl, trivial⟩ ⟨hM, hx486⟩
 ·
  replace hx := xif_f hc489 hx
  refine wc_exit ?_
  refine sq_exit ?_
  refine lp1_exit ?_
  obtain rfl := Option.some.inj hx
  obtain rfl := Option.some.inj hx486
  replace hx := hx463
  try dsimp only [Sum.elim_inl, Sum.elim_inr] at hx
  refine bk_here ?_
  refine sq_n ?_
  refine wc_sr ?_
  refine wv rfl (r_ldBS Tryz.underlying27 sz27 rfl (us := [(.string l468), (.int .i64 n469), s475.v, s477.v, s479.v]) rfl hM (.tail _ (.tail _ (.head _))) rfl) ?_
  replace hM := hM.p1
  refine w_exu (x_stB #[(.string l468), (.int .i64 n469), s475.v, s477.v, s479.v] sz27 rfl rfl rfl rfl rfl rfl hM ?_); intro w736 hM
  refine wl_sq ?_
  refine wc_ret ?_
  obtain rfl := Option.some.inj hx
  refine fin_ret [(.agg #[(.string l468), (.int .i64 n469), s475.v, s477.v, s479.v])] ⟨rv_box Tryz.underlying27 sz27 rfl rfl hM (.head _), trivial⟩ ?_
  replace hM := hM.p1.p5.p5.p5
  replace hM := hM.t4
  have hM := hM.fewer (rsC (.head _) rsN)
  exact ⟨(s475, s477, s479, s473), rfl, hM.gives⟩

noncomputable def x_spec_MakeDoc (code : List UInt8) : Option DDoc :=
  Option.bind (x_spec_l01New code) fun r6 => Option.bind (x_spec_l08Name r6) fun r15 => Option.bind (x_spec_l08Draw r15.2 r15.1 10) fun r19 => some r19.1
theorem ct_spec_MakeDoc (w : World) (X S : Bs) (code : List UInt8) (s_code : Sv) (hS : ∀ b, S b → b < w.heap.size ∧ ¬ X b) (a_code_0 : (cSl 1 fY code).rd S w s_code.v) (oL : Sep [] X w) {r : DDoc} (hx : x_spec_MakeDoc code = some r) :
  Ret Tryz.prog 5 [s_code.v] w (fun u w' => ∃ y : Sv × Sv × Sv, u = .agg #[(.string r.name), (.int .i64 r.from_), y.1.v, y.2.1.v, y.2.2.v] ∧ Gives X S w [oC (cSl 1 fI r.text) y.1.v, oC (cSl 3 fDEntry r.list) y.2.1.v, oC (cSl 3 fDSeen r.seen) y.2.2.v] [] w') := by
 unfold x_spec_MakeDoc at hx
 refine enter Tryz.func5 rfl Tryz.ntmps5 (by kernel_rfl) rfl ?_
 have hM := St.enter oL hS
 have hM := hM.addE (r := rV s_code.v (cSl 1 fY code)) a_code_0
 refine wc_sr ?_
 refine w_ex rfl (x_alloc sz27 hM ?_); intro b32 w31 hR33 hM
 dsimp only [Value.cells] at hM
 refine wl_sq ?_
 refine wc_sr ?_
 refine wmv rfl rfl ?_
 obtain ⟨r36, h37, hx⟩ := bind_some' hx
 refine w_call rfl rfl (hM.callR (l := []) fun X S oL hS hR => ct_spec_l01New _ X S code s_code hS (hR _ (.head _)) oL h37) ?_
 rintro _ w38 ⟨⟨b39, s40⟩, rfl, hM⟩
 dsimp only [List.cons_append, List.nil_append] at hM
 refine was rfl rfl ?_
 refine wl_sq ?_
 refine wc_sr ?_
 refine wmv rfl rfl ?_
 refine wmv rfl rfl ?_
 obtain ⟨r45, h46, hx⟩ := bind_some' hx
 refine w_call rfl rfl (hM.callR (l := [oBox b39 #[s40.v, (.int .i64 r36.i), (.int .i64 r36.h)] 78]) fun X S oL hS hR => ct_spec_l08Name _ X S b39 r36 s40 hS (hR _ (.head _)) oL h46) ?_
 rintro _ w47 ⟨s48, rfl, hM⟩
 dsimp only [List.cons_append, List.nil_append] at hM
 obtain ⟨r49, h50, hx⟩ := bind_some' hx
 refine w_call rfl rfl (hM.callR (l := [oBox b39 #[s48.v, (.int .i64 r45.2.i), (.int .i64 r45.2.h)] 78]) fun X S oL hS hR => ct_spec_l08Draw _ X S b39 r45.2 s48 r45.1 (10 : Int) hS (hR _ (.head _)) oL h50) ?_
 rintro _ w51 ⟨⟨s52, s53, s54, s55⟩, rfl, hM⟩
 dsimp only [List.cons_append, List.nil_append] at hM
 replace hM := hM.p4
 refine w_exu (x_stB #[(.string r49.1.name), (.int .i64 r49.1.from_), s52.v, s53.v, s54.v] sz27 rfl rfl rfl rfl rfl rfl hM ?_); intro w59 hM
 refine wl_sq ?_
 refine wc_ret ?_
 obtain rfl := Option.some.inj hx
 refine fin_ret [(.agg #[(.string r49.1.name), (.int .i64 r49.1.from_), s52.v, s53.v, s54.v])] ⟨rv_box Tryz.underlying27 sz27 rfl rfl hM (.head _), trivial⟩ ?_
 replace hM := hM.p3.p3.p3
 replace hM := hM.t3
 have hM := hM.fewer rsN
 exact ⟨(s52, s53, s54), rfl, hM.gives⟩

noncomputable def x_spec_MakeNum (code : List UInt8) (n : Int) : Option Int :=
  Option.bind (x_spec_l01New code) fun r3 => xg (inI (r3.h + 777)) <| Option.bind (x_spec_l01Below (⟨r3.b, r3.i, r3.h + 777⟩ : DL01Cur) n) fun r23 => some r23.1
theorem ct_spec_MakeNum (w : World) (X S : Bs) (code : List UInt8) (s_code : Sv) (n : Int) (hS : ∀ b, S b → b < w.heap.size ∧ ¬ X b) (a_code_0 : (cSl 1 fY code).rd S w s_code.v) (oL : Sep [] X w) {r : Int} (hx : x_spec_MakeNum code n = some r) :
  Ret Tryz.prog 15 [s_code.v, (.int .i64 n)] w (fun u w' => ∃ _ : Unit, u = (.int .i64 r) ∧ Gives X S w [] [] w') := by
 unfold x_spec_MakeNum at hx
 refine enter Tryz.func15 rfl Tryz.ntmps15 (by kernel_rfl) rfl ?_
 have hM := St.enter oL hS
 have hM := hM.addE (r := rV s_code.v (cSl 1 fY code)) a_code_0
 refine wc_sr ?_
 refine was rfl rfl ?_
 refine wl_sq ?_
 refine wc_sr ?_
 refine wmv rfl rfl ?_
 obtain ⟨r30, h31, hx⟩ := bind_some' hx
 refine w_call rfl rfl (hM.callR (l := []) fun X S oL hS hR => ct_spec_l01New _ X S code s_code hS (hR _ (.head _)) oL h31) ?_
 rintro _ w32 ⟨⟨b33, s34⟩, rfl, hM⟩
 dsimp only [List.cons_append, List.nil_append] at hM
 refine was rfl rfl ?_
 refine wl_sq ?_
 refine wc_sr ?_
 refine wmv rfl rfl ?_
 refine wmv rfl rfl ?_
 refine wv rfl (r_nilck rfl) ?_
 refine wv rfl (r_fld Tryz.underlying78 rfl rfl sz3 rfl) ?_
 refine wv rfl (r_ldB Tryz.underlying3 rfl rfl hM (.head _) rfl) ?_
 obtain ⟨hg43, hx⟩ := xg_some hx
 refine wv rfl (r_add rfl rfl hg43) ?_
 refine wv rfl (r_nilck rfl) ?_
 refine wv rfl (r_fld Tryz.underlying78 rfl rfl sz3 rfl) ?_
 refine w_exu (x_stB #[s34.v, (.int .i64 r30.i), (.int .i64 (r30.h + 777))] sz3 rfl rfl rfl rfl rfl rfl hM ?_); intro w46 hM
 refine wl_sq ?_
 refine wc_sr ?_
 refine wmv rfl rfl ?_
 refine wmv rfl rfl ?_
 obtain ⟨r50, h51, hx⟩ := bind_some' hx
 refine w_call rfl rfl (hM.callR (l := [oBox b33 #[s34.v, (.int .i64 r30.i), (.int .i64 (r30.h + 777))] 78]) fun X S oL hS hR => ct_spec_l01Below _ X S b33 (⟨r30.b, r30.i, r30.h + 777⟩ : DL01Cur) s34 n hS (hR _ (.head _)) oL h51) ?_
 rintro _ w52 ⟨s53, rfl, hM⟩
 dsimp only [List.cons_append, List.nil_append] at hM
 refine was rfl rfl ?_
 refine wl_sq ?_
 refine wc_ret ?_
 obtain rfl := Option.some.inj hx
 refine fin_ret [(.int .i64 r50.1)] ⟨rfl, trivial⟩ ?_
 replace hM := hM.t0
 have hM := hM.fewer rsN
 exact ⟨(), rfl, hM.gives⟩

noncomputable def x_spec_MakeOp (code : List UInt8) (n : Int) : Option (List DPart) :=
  Option.bind (x_spec_l01New code) fun r3 => xg (inI (r3.h + 17)) <| Option.bind (x_spec_l02Draw (⟨r3.b, r3.i, r3.h + 17⟩ : DL01Cur) n) fun r23 => some r23.1
theorem ct_spec_MakeOp (w : World) (X S : Bs) (code : List UInt8) (s_code : Sv) (n : Int) (hS : ∀ b, S b → b < w.heap.size ∧ ¬ X b) (a_code_0 : (cSl 1 fY code).rd S w s_code.v) (oL : Sep [] X w) {r : List DPart} (hx : x_spec_MakeOp code n = some r) :
  Ret Tryz.prog 19 [s_code.v, (.int .i64 n)] w (fun u w' => ∃ y : Sv, u = y.v ∧ Gives X S w [oC (cSl 3 fDPart r) y.v] [] w') := by
 unfold x_spec_MakeOp at hx
 refine enter Tryz.func19 rfl Tryz.ntmps19 (by kernel_rfl) rfl ?_
 have hM := St.enter oL hS
 have hM := hM.addE (r := rV s_code.v (cSl 1 fY code)) a_code_0
 refine wc_sr ?_
 refine was rfl rfl ?_
 refine wl_sq ?_
 refine wc_sr ?_
 refine wmv rfl rfl ?_
 obtain ⟨r32, h33, hx⟩ := bind_some' hx
 refine w_call rfl rfl (hM.callR (l := []) fun X S oL hS hR => ct_spec_l01New _ X S code s_code hS (hR _ (.head _)) oL h33) ?_
 rintro _ w34 ⟨⟨b35, s36⟩, rfl, hM⟩
 dsimp only [List.cons_append, List.nil_append] at hM
 refine was rfl rfl ?_
 refine wl_sq ?_
 refine wc_sr ?_
 refine wmv rfl rfl ?_
 refine wmv rfl rfl ?_
 refine wv rfl (r_nilck rfl) ?_
 refine wv rfl (r_fld Tryz.underlying78 rfl rfl sz3 rfl) ?_
 refine wv rfl (r_ldB Tryz.underlying3 rfl rfl hM (.head _) rfl) ?_
 obtain ⟨hg45, hx⟩ := xg_some hx
 refine wv rfl (r_add rfl rfl hg45) ?_
 refine wv rfl (r_nilck rfl) ?_
 refine wv rfl (r_fld Tryz.underlying78 rfl rfl sz3 rfl) ?_
 refine w_exu (x_stB #[s36.v, (.int .i64 r32.i), (.int .i64 (r32.h + 17))] sz3 rfl rfl rfl rfl rfl rfl hM ?_); intro w48 hM
 refine wl_sq ?_
 refine wc_sr ?_
 refine wmv rfl rfl ?_
 refine wmv rfl rfl ?_
 obtain ⟨r52, h53, hx⟩ := bind_some' hx
 refine w_call rfl rfl (hM.callR (l := [oBox b35 #[s36.v, (.int .i64 r32.i), (.int .i64 (r32.h + 17))] 78]) fun X S oL hS hR => ct_spec_l02Draw _ X S b35 (⟨r32.b, r32.i, r32.h + 17⟩ : DL01Cur) s36 n hS (hR _ (.head _)) oL h53) ?_
 rintro _ w54 ⟨⟨s55, s56⟩, rfl, hM⟩
 dsimp only [List.cons_append, List.nil_append] at hM
 refine was rfl rfl ?_
 refine wl_sq ?_
 refine wc_ret ?_
 obtain rfl := Option.some.inj hx
 refine fin_ret [s55.v] ⟨rfl, trivial⟩ ?_
 replace hM := hM.t1
 have hM := hM.fewer rsN
 exact ⟨s55, rfl, hM.gives⟩

end Go.Proofs.YtlgmikaemfbmaaaGreat
