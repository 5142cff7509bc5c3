/- Walks of functions of this program (printed by a program of ours, by the rules of the layer). No condition. -/
import Derived.Test.YtenkkffokomonaaWA
import Derived.Test.YtenkkffokomonaaVlJ
namespace Go.Proofs.Ytenkkffokomonaa
open Go.RowKit

theorem ct_spec_l01New (w : World) (v_code : Sv) (code : List UInt8) (a_code : ArgX (oStar []).fp w [v_code.v] (dFs 1 fB code)) : Ret Try.prog 50 [v_code.v] w (fun u w' => ∃ b_r : Nat, ∃ h_r : Int, u = .pointer (some ⟨b_r, 0, none⟩) ∧ Gives (oStar []).fp w [oBox b_r #[v_code.v, (.int .i64 0), (.int .i64 h_r)] 60] w') := by
  refine enter Try.func50 rfl Try.ntmps50 (by kernel_rfl) rfl ?_
  have hM := St.enter0 w
  have hM := hM.addE (cs := [v_code.v]) (d := dFs 1 fB code) a_code
  have hl_code := Fs.le a_code
  refine wc_seq ?_
  refine wc_region ?_
  refine wv rfl (r_assign rfl) ?_
  refine wl_nil ?_
  refine sq_n ?_
  refine wc_seq ?_
  refine wc_region ?_
  refine wv rfl (r_move rfl) ?_
  refine wv rfl (r_lenF Try.underlying44 rfl (hM.arg (.head _))) ?_
  refine wv rfl (r_addw rfl rfl) ?_
  refine wv rfl (r_assign rfl) ?_
  refine wl_nil ?_
  refine sq_n ?_
  refine wc_seq ?_
  refine wc_seq ?_
  refine wc_region ?_
  refine wv rfl (r_assign rfl) ?_
  refine wl_nil ?_
  refine sq_n ?_
  refine wc_block ?_
  refine wc_loop2 (fun (k : Nat) (h : Int) => [(0, v_code.v), (3, (.int .i64 h)), (4, (.int .i64 (k : Int)))]) (fun (k : Nat) (h : Int) w' => St ⟨w, (oStar []).fp⟩ [] [([v_code.v], dFs 1 fB code)] w' ∧ k ≤ code.length) (fun (k : Nat) (h : Int) => code.length - k) 0 (iw (1621 + (code.length : Int))) ⟨rfl, rfl, rfl, trivial⟩ ⟨hM, (by omega)⟩ ?_
  rintro k h w1 ⟨hM, hf0_0⟩
  refine wc_seq ?_
  refine wc_seq ?_
  refine wc_region ?_
  refine wv rfl (r_move rfl) ?_
  refine wv rfl (r_move rfl) ?_
  refine wv rfl (r_lenF Try.underlying44 rfl (hM.arg (.head _))) ?_
  refine wv rfl (r_lss rfl rfl) ?_
  refine wv rfl (r_move rfl) ?_
  refine wl_mid 3 (fun _ : Unit => [(15, (.bool ((decide ((k : Int) < (code.length : Int))) && (decide ((k : Int) < 4000))))), (0, v_code.v), (3, (.int .i64 h)), (4, (.int .i64 (k : Int)))]) (fun _ w' => St ⟨w, (oStar []).fp⟩ [] [([v_code.v], dFs 1 fB code)] w') ?_ ?_
  · rcases Bool.eq_false_or_eq_true (decide ((k : Int) < (code.length : Int))) with hg2 | hg2
    · skip
      have hg2p := of_decide_eq_true hg2
      refine gv rfl hg2 rfl (r_move rfl) ?_
      refine gv rfl hg2 rfl (r_lss rfl rfl) ?_
      refine wv rfl (p_t rfl hg2 rfl) ?_
      exact mid_nil () ⟨bcongr (and_t hg2), rfl, rfl, rfl, trivial⟩ hM
    · skip
      have hg2p := of_decide_eq_false hg2
      refine gs rfl (isB_no hg2) rfl ?_
      refine gs rfl (isB_no hg2) rfl ?_
      refine wv rfl (p_f rfl hg2 rfl) ?_
      exact mid_nil () ⟨bcongr (and_f hg2), rfl, rfl, rfl, trivial⟩ hM
  rintro _ w3 hM
  refine wl_nil ?_
  refine sq_n ?_
  refine wc_cond rfl (fun hc4 => ?_) (fun hc4 => ?_)
  · skip
    obtain ⟨hc4a, hc4b⟩ := (Bool.and_eq_true_iff).1 hc4
    have hc4a := of_decide_eq_true hc4a
    have hc4b := of_decide_eq_true hc4b
    refine wc_skip ?_
    refine sq_n ?_
    refine wc_seq ?_
    refine wc_block ?_
    refine wc_region ?_
    refine wv rfl (r_move rfl) ?_
    refine wv rfl (r_mulw rfl rfl) ?_
    refine wv rfl (r_move rfl) ?_
    refine wv rfl (r_move rfl) ?_
    refine wv rfl (r_ixF Try.underlying44 sz5 rfl rfl (hM.arg (.head _)) ⟨by omega, by omega⟩) ?_
    have hbd := u8_le (code.getD k 0)
    refine wv rfl (r_ldF0 (i := k) 0 Try.underlying5 rfl rfl (hM.arg (.head _)) (by omega) rfl) ?_
    refine wv rfl (r_cvt Try.underlying5 Try.underlying3 rfl (i64_in ⟨by omega, by omega⟩)) ?_
    refine wv rfl (r_addw rfl rfl) ?_
    refine wv rfl (r_addw rfl rfl) ?_
    have hba := bAnd_range (iw ((iw ((iw (h * 43)) + ((code.getD k 0).toNat : Int))) + 7)) 1073741823 (by omega)
    refine wv rfl (r_and rfl rfl) ?_
    refine wv rfl (r_assign rfl) ?_
    refine wl_nil ?_
    refine bk_n ?_
    refine sq_n ?_
    refine wc_region ?_
    refine wv rfl (r_move rfl) ?_
    refine wv rfl (r_add rfl rfl ⟨by omega, by omega⟩) ?_
    refine wv rfl (r_assign rfl) ?_
    refine wl_nil ?_
    exact lp_end2 (k + 1) (bAnd (iw ((iw ((iw (h * 43)) + ((code.getD k 0).toNat : Int))) + 7)) 1073741823) (by omega) ⟨rfl, rfl, rfl, trivial⟩ ⟨hM, (by omega)⟩
  · skip
    refine wc_exit ?_
    refine sq_exit ?_
    refine lp2_exit ?_
    refine bk_here ?_
    refine sq_n ?_
    refine wc_seq ?_
    refine wc_region ?_
    refine wv rfl (r_move rfl) ?_
    refine wv rfl (r_move rfl) ?_
    refine wv rfl (r_build (cells := #[v_code.v, (.int .i64 0), (.int .i64 h)]) rfl (by kernel_rfl)) ?_
    refine w_box rfl rfl hM ?_; intro b5 w6 hM
    refine wv rfl (r_assign rfl) ?_
    refine wl_nil ?_
    refine sq_n ?_
    refine wc_ret ?_
    refine fin_ret [(.pointer (some ⟨b5, 0, none⟩))] ⟨rfl, trivial⟩ ?_
    exact ⟨b5, h, rfl, St.gives (O := [oBox b5 #[v_code.v, (.int .i64 0), (.int .i64 h)] 60]) hM⟩

theorem ct_spec_l01Byte (w : World) (b_c : Nat) (vcode_c : Sv) (code_c : List UInt8) (i_c : Int) (h_c : Int) (acode_c : ArgX (oStar [oBox b_c #[vcode_c.v, (.int .i64 i_c), (.int .i64 h_c)] 60]).fp w [vcode_c.v] (dFs 1 fB code_c)) (oL : (oStar [oBox b_c #[vcode_c.v, (.int .i64 i_c), (.int .i64 h_c)] 60]).ok w) (hp0 : 0 ≤ i_c) : Ret Try.prog 57 [.pointer (some ⟨b_c, 0, none⟩)] w (fun u w' => ∃ y : Int, ∃ i_c' : Int, ∃ h_c' : Int, u = .int .i64 y ∧ Gives (oStar [oBox b_c #[vcode_c.v, (.int .i64 i_c), (.int .i64 h_c)] 60]).fp w [oBox b_c #[vcode_c.v, (.int .i64 i_c'), (.int .i64 h_c')] 60] w' ∧ (0 ≤ y ∧ y ≤ 255) ∧ (0 ≤ i_c')) := by
  refine enter Try.func57 rfl Try.ntmps57 (by kernel_rfl) rfl ?_
  have hM := St.enter oL
  have hM := hM.addE (cs := [vcode_c.v]) (d := dFs 1 fB code_c) acode_c
  have hl_acode_c := Fs.le acode_c
  refine wc_seq ?_
  refine wc_region ?_
  refine wv rfl (r_assign rfl) ?_
  refine wl_nil ?_
  refine sq_n ?_
  refine wc_seq ?_
  refine wc_region ?_
  refine wv rfl (r_move rfl) ?_
  refine wv rfl (r_move rfl) ?_
  refine wv rfl (r_nilck rfl) ?_
  refine wv rfl (r_fld Try.underlying60 rfl rfl sz3 rfl) ?_
  refine wv rfl (r_ldB Try.underlying3 rfl rfl (hM.at' (.head _)) rfl) ?_
  refine wv rfl (r_mulw rfl rfl) ?_
  refine wv rfl (r_addw rfl rfl) ?_
  refine wv rfl (r_nilck rfl) ?_
  refine wv rfl (r_fld Try.underlying60 rfl rfl sz3 rfl) ?_
  refine w_st1 sz3 rfl rfl rfl rfl hM ?_; intro w1 hM
  refine wl_nil ?_
  refine sq_n ?_
  refine wc_seq ?_
  refine wc_draw [(0, false), (1, false), (2, false), (3, false), (4, false), (5, false), (6, false), (7, false), (8, false), (9, false), (10, false), (11, false), (12, false)] Try_mixed (by kernel_rfl) rfl (by kernel_rfl) rfl ?_
  refine ov rfl (fun w' h' => r_move rfl) ?_
  refine ov rfl (fun w' h' => r_nilck rfl) ?_
  refine ov rfl (fun w' h' => r_fld Try.underlying60 rfl rfl sz3 rfl) ?_
  refine ov rfl (fun w' h' => r_ldB Try.underlying3 rfl rfl ((hM.call h').at' (.head _)) rfl) ?_
  refine ov rfl (fun w' h' => r_shr rfl rfl (by omega)) ?_
  refine ov rfl (fun w' h' => r_move rfl) ?_
  refine ov rfl (fun w' h' => r_nilck rfl) ?_
  refine ov rfl (fun w' h' => r_fld Try.underlying60 rfl rfl sz3 rfl) ?_
  refine ov rfl (fun w' h' => r_ldB Try.underlying3 rfl rfl ((hM.call h').at' (.head _)) rfl) ?_
  refine ov rfl (fun w' h' => r_shr rfl rfl (by omega)) ?_
  refine ov rfl (fun w' h' => r_xor rfl rfl) ?_
  have hba := bAnd_range (bXor (bShr (iw ((iw (h_c * 6364136223846793005)) + 1442695040888963407)) 33) (bShr (iw ((iw (h_c * 6364136223846793005)) + 1442695040888963407)) 45)) 255 (by omega)
  refine ov rfl (fun w' h' => r_and rfl rfl) ?_
  refine ov rfl (fun w' h' => r_assign rfl) ?_
  refine o_nil fun w2 hw3 => ?_
  have hM := hM.call hw3
  refine sq_n ?_
  refine wc_seq ?_
  refine wc_seq ?_
  refine wc_draw [(0, false), (1, false), (2, false), (3, false), (4, false), (5, false), (6, false), (7, false), (8, false), (9, false)] Try_mixed (by kernel_rfl) rfl (by kernel_rfl) rfl ?_
  refine ov rfl (fun w' h' => r_move rfl) ?_
  refine ov rfl (fun w' h' => r_nilck rfl) ?_
  refine ov rfl (fun w' h' => r_fld Try.underlying60 rfl rfl sz3 rfl) ?_
  refine ov rfl (fun w' h' => r_ldB Try.underlying3 rfl rfl ((hM.call h').at' (.head _)) rfl) ?_
  refine ov rfl (fun w' h' => r_move rfl) ?_
  refine ov rfl (fun w' h' => r_nilck rfl) ?_
  refine ov rfl (fun w' h' => r_fld Try.underlying60 rfl rfl sz44 rfl) ?_
  refine ov rfl (fun w' h' => r_ldB Try.underlying44 rfl rfl ((hM.call h').at' (.head _)) rfl) ?_
  refine ov rfl (fun w' h' => r_lenF Try.underlying44 rfl ((hM.call h').arg (.head _))) ?_
  refine ov rfl (fun w' h' => r_lss rfl rfl) ?_
  refine o_nil fun w4 hw5 => ?_
  have hM := hM.call hw5
  refine sq_n ?_
  refine wc_cond rfl (fun hc6 => ?_) (fun hc6 => ?_)
  · skip
    have hc6 := of_decide_eq_true hc6
    refine wc_seq ?_
    refine wc_draw [(0, false), (1, false), (2, false), (3, false), (4, false), (5, false), (6, false), (7, false), (8, false), (9, false), (10, false), (11, false), (12, false), (13, false), (14, false)] Try_mixed (by kernel_rfl) rfl (by kernel_rfl) rfl ?_
    refine ov rfl (fun w' h' => r_move rfl) ?_
    refine ov rfl (fun w' h' => r_move rfl) ?_
    refine ov rfl (fun w' h' => r_nilck rfl) ?_
    refine ov rfl (fun w' h' => r_fld Try.underlying60 rfl rfl sz44 rfl) ?_
    refine ov rfl (fun w' h' => r_ldB Try.underlying44 rfl rfl ((hM.call h').at' (.head _)) rfl) ?_
    refine ov rfl (fun w' h' => r_move rfl) ?_
    refine ov rfl (fun w' h' => r_nilck rfl) ?_
    refine ov rfl (fun w' h' => r_fld Try.underlying60 rfl rfl sz3 rfl) ?_
    refine ov rfl (fun w' h' => r_ldB Try.underlying3 rfl rfl ((hM.call h').at' (.head _)) rfl) ?_
    refine ov rfl (fun w' h' => r_ixF Try.underlying44 sz5 rfl rfl ((hM.call h').arg (.head _)) ⟨by omega, by omega⟩) ?_
    have hbd := u8_le (code_c.getD i_c.toNat 0)
    refine ov rfl (fun w' h' => r_ldF0 (i := i_c.toNat) 0 Try.underlying5 rfl rfl ((hM.call h').arg (.head _)) (by omega) rfl) ?_
    refine ov rfl (fun w' h' => r_cvt Try.underlying5 Try.underlying3 rfl (i64_in ⟨by omega, by omega⟩)) ?_
    refine ov rfl (fun w' h' => r_add rfl rfl ⟨by omega, by omega⟩) ?_
    have hba := bAnd_range ((bAnd (bXor (bShr (iw ((iw (h_c * 6364136223846793005)) + 1442695040888963407)) 33) (bShr (iw ((iw (h_c * 6364136223846793005)) + 1442695040888963407)) 45)) 255) + ((code_c.getD i_c.toNat 0).toNat : Int)) 255 (by omega)
    refine ov rfl (fun w' h' => r_and rfl rfl) ?_
    refine ov rfl (fun w' h' => r_assign rfl) ?_
    refine o_nil fun w7 hw8 => ?_
    have hM := hM.call hw8
    refine sq_n ?_
    refine wc_region ?_
    refine wv rfl (r_move rfl) ?_
    refine wv rfl (r_move rfl) ?_
    refine wv rfl (r_nilck rfl) ?_
    refine wv rfl (r_fld Try.underlying60 rfl rfl sz3 rfl) ?_
    refine wv rfl (r_ldB Try.underlying3 rfl rfl (hM.at' (.head _)) rfl) ?_
    refine wv rfl (r_add rfl rfl ⟨by omega, by omega⟩) ?_
    refine wv rfl (r_nilck rfl) ?_
    refine wv rfl (r_fld Try.underlying60 rfl rfl sz3 rfl) ?_
    refine w_st1 sz3 rfl rfl rfl rfl hM ?_; intro w9 hM
    refine wl_nil ?_
    refine sq_n ?_
    refine wc_seq ?_
    refine wc_region ?_
    refine wv rfl (r_move rfl) ?_
    refine wv rfl (r_assign rfl) ?_
    refine wl_nil ?_
    refine sq_n ?_
    refine wc_ret ?_
    refine fin_ret [(.int .i64 (bAnd ((bAnd (bXor (bShr (iw ((iw (h_c * 6364136223846793005)) + 1442695040888963407)) 33) (bShr (iw ((iw (h_c * 6364136223846793005)) + 1442695040888963407)) 45)) 255) + ((code_c.getD i_c.toNat 0).toNat : Int)) 255))] ⟨rfl, trivial⟩ ?_
    exact ⟨bAnd ((bAnd (bXor (bShr (iw ((iw (h_c * 6364136223846793005)) + 1442695040888963407)) 33) (bShr (iw ((iw (h_c * 6364136223846793005)) + 1442695040888963407)) 45)) 255) + ((code_c.getD i_c.toNat 0).toNat : Int)) 255, i_c + 1, iw ((iw (h_c * 6364136223846793005)) + 1442695040888963407), rfl, St.gives (O := [oBox b_c #[vcode_c.v, (.int .i64 (i_c + 1)), (.int .i64 (iw ((iw (h_c * 6364136223846793005)) + 1442695040888963407)))] 60]) hM, (by omega), (by omega)⟩
  · skip
    have hc6 := of_decide_eq_false hc6
    refine wc_skip ?_
    refine sq_n ?_
    refine wc_seq ?_
    refine wc_region ?_
    refine wv rfl (r_move rfl) ?_
    refine wv rfl (r_assign rfl) ?_
    refine wl_nil ?_
    refine sq_n ?_
    refine wc_ret ?_
    refine fin_ret [(.int .i64 (bAnd (bXor (bShr (iw ((iw (h_c * 6364136223846793005)) + 1442695040888963407)) 33) (bShr (iw ((iw (h_c * 6364136223846793005)) + 1442695040888963407)) 45)) 255))] ⟨rfl, trivial⟩ ?_
    exact ⟨bAnd (bXor (bShr (iw ((iw (h_c * 6364136223846793005)) + 1442695040888963407)) 33) (bShr (iw ((iw (h_c * 6364136223846793005)) + 1442695040888963407)) 45)) 255, i_c, iw ((iw (h_c * 6364136223846793005)) + 1442695040888963407), rfl, St.gives (O := [oBox b_c #[vcode_c.v, (.int .i64 i_c), (.int .i64 (iw ((iw (h_c * 6364136223846793005)) + 1442695040888963407)))] 60]) hM, (by omega), (by omega)⟩

theorem ct_spec_l01Below (w : World) (b_c : Nat) (vcode_c : Sv) (code_c : List UInt8) (i_c : Int) (h_c : Int) (n : Int) (acode_c : ArgX (oStar [oBox b_c #[vcode_c.v, (.int .i64 i_c), (.int .i64 h_c)] 60]).fp w [vcode_c.v] (dFs 1 fB code_c)) (oL : (oStar [oBox b_c #[vcode_c.v, (.int .i64 i_c), (.int .i64 h_c)] 60]).ok w) (hp0 : 0 ≤ i_c) : Ret Try.prog 51 [.pointer (some ⟨b_c, 0, none⟩), .int .i64 n] w (fun u w' => ∃ y : Int, ∃ i_c' : Int, ∃ h_c' : Int, u = .int .i64 y ∧ Gives (oStar [oBox b_c #[vcode_c.v, (.int .i64 i_c), (.int .i64 h_c)] 60]).fp w [oBox b_c #[vcode_c.v, (.int .i64 i_c'), (.int .i64 h_c')] 60] w' ∧ ((n ≤ 0 → y = 0) ∧ (0 < n → 0 ≤ y ∧ y < n)) ∧ (0 ≤ i_c')) := by
  refine enter Try.func51 rfl Try.ntmps51 (by kernel_rfl) rfl ?_
  have hM := St.enter oL
  have hM := hM.addE (cs := [vcode_c.v]) (d := dFs 1 fB code_c) acode_c
  have hl_acode_c := Fs.le acode_c
  refine wc_seq ?_
  refine wc_region ?_
  refine wv rfl (r_assign rfl) ?_
  refine wl_nil ?_
  refine sq_n ?_
  refine wc_seq ?_
  refine wc_seq ?_
  refine wc_region ?_
  refine wv rfl (r_move rfl) ?_
  refine wv rfl (r_leq rfl rfl) ?_
  refine wl_nil ?_
  refine sq_n ?_
  refine wc_cond rfl (fun hc1 => ?_) (fun hc1 => ?_)
  · skip
    have hc1 := of_decide_eq_true hc1
    refine wc_seq ?_
    refine wc_region ?_
    refine wv rfl (r_assign rfl) ?_
    refine wl_nil ?_
    refine sq_n ?_
    refine wc_ret ?_
    refine sq_ret ?_
    refine fin_ret [(.int .i64 0)] ⟨rfl, trivial⟩ ?_
    exact ⟨0, i_c, h_c, rfl, St.gives (O := [oBox b_c #[vcode_c.v, (.int .i64 i_c), (.int .i64 h_c)] 60]) hM, (by omega), (by omega)⟩
  · skip
    have hc1 := of_decide_eq_false hc1
    refine wc_skip ?_
    refine sq_n ?_
    refine wc_seq ?_
    refine wc_seq ?_
    refine wc_region ?_
    refine wv rfl (r_move rfl) ?_
    refine wv rfl (r_leq rfl rfl) ?_
    refine wl_nil ?_
    refine sq_n ?_
    refine wc_cond rfl (fun hc2 => ?_) (fun hc2 => ?_)
    · skip
      have hc2 := of_decide_eq_true hc2
      refine wc_seq ?_
      refine wc_region ?_
      refine wv rfl (r_move rfl) ?_
      refine w_call rfl rfl (ct_spec_l01Byte w b_c vcode_c code_c i_c h_c (St.argx (L := [oBox b_c #[vcode_c.v, (.int .i64 i_c), (.int .i64 h_c)] 60]) hM (.head _)) (St.lend (L := [oBox b_c #[vcode_c.v, (.int .i64 i_c), (.int .i64 h_c)] 60]) hM) (by first | omega | (simp; done) | (simp; omega))) ?_
      rintro _ w6 ⟨yx3, ix4, hx5, rfl, hG7, hf8, hf9⟩
      have hM := St.got (L := [oBox b_c #[vcode_c.v, (.int .i64 i_c), (.int .i64 h_c)] 60]) hM hG7
      simp only [List.cons_append, List.nil_append] at hM
      refine wv rfl (r_move rfl) ?_
      refine wv rfl (r_rem rfl rfl ⟨by omega, by omega⟩) ?_
      refine wv rfl (r_assign rfl) ?_
      refine wl_nil ?_
      refine sq_n ?_
      refine wc_ret ?_
      refine sq_ret ?_
      refine fin_ret [(.int .i64 (yx3 % n))] ⟨rfl, trivial⟩ ?_
      exact ⟨yx3 % n, ix4, hx5, rfl, St.gives (O := [oBox b_c #[vcode_c.v, (.int .i64 ix4), (.int .i64 hx5)] 60]) hM, (⟨fun h => by omega, fun h => ⟨Int.emod_nonneg _ (by omega), Int.emod_lt_of_pos _ h⟩⟩), (by omega)⟩
    · skip
      have hc2 := of_decide_eq_false hc2
      refine wc_skip ?_
      refine sq_n ?_
      refine wc_seq ?_
      refine wc_region ?_
      refine wv rfl (r_move rfl) ?_
      refine w_call rfl rfl (ct_spec_l01Byte w b_c vcode_c code_c i_c h_c (St.argx (L := [oBox b_c #[vcode_c.v, (.int .i64 i_c), (.int .i64 h_c)] 60]) hM (.head _)) (St.lend (L := [oBox b_c #[vcode_c.v, (.int .i64 i_c), (.int .i64 h_c)] 60]) hM) (by first | omega | (simp; done) | (simp; omega))) ?_
      rintro _ w13 ⟨yx10, ix11, hx12, rfl, hG14, hf15, hf16⟩
      have hM := St.got (L := [oBox b_c #[vcode_c.v, (.int .i64 i_c), (.int .i64 h_c)] 60]) hM hG14
      simp only [List.cons_append, List.nil_append] at hM
      refine wv rfl (r_assign rfl) ?_
      refine wl_nil ?_
      refine sq_n ?_
      refine wc_seq ?_
      refine wc_region ?_
      refine wv rfl (r_move rfl) ?_
      refine w_call rfl rfl (ct_spec_l01Byte w13 b_c vcode_c code_c ix11 hx12 (St.argx (L := [oBox b_c #[vcode_c.v, (.int .i64 ix11), (.int .i64 hx12)] 60]) hM (.head _)) (St.lend (L := [oBox b_c #[vcode_c.v, (.int .i64 ix11), (.int .i64 hx12)] 60]) hM) (by first | omega | (simp; done) | (simp; omega))) ?_
      rintro _ w20 ⟨yx17, ix18, hx19, rfl, hG21, hf22, hf23⟩
      have hM := St.got (L := [oBox b_c #[vcode_c.v, (.int .i64 ix11), (.int .i64 hx12)] 60]) hM hG21
      simp only [List.cons_append, List.nil_append] at hM
      refine wv rfl (r_assign rfl) ?_
      refine wl_nil ?_
      refine sq_n ?_
      refine wc_seq ?_
      refine wc_region ?_
      refine wv rfl (r_move rfl) ?_
      refine w_call rfl rfl (ct_spec_l01Byte w20 b_c vcode_c code_c ix18 hx19 (St.argx (L := [oBox b_c #[vcode_c.v, (.int .i64 ix18), (.int .i64 hx19)] 60]) hM (.head _)) (St.lend (L := [oBox b_c #[vcode_c.v, (.int .i64 ix18), (.int .i64 hx19)] 60]) hM) (by first | omega | (simp; done) | (simp; omega))) ?_
      rintro _ w27 ⟨yx24, ix25, hx26, rfl, hG28, hf29, hf30⟩
      have hM := St.got (L := [oBox b_c #[vcode_c.v, (.int .i64 ix18), (.int .i64 hx19)] 60]) hM hG28
      simp only [List.cons_append, List.nil_append] at hM
      refine wv rfl (r_assign rfl) ?_
      refine wl_nil ?_
      refine sq_n ?_
      refine wc_seq ?_
      refine wc_region ?_
      refine wv rfl (r_move rfl) ?_
      refine w_call rfl rfl (ct_spec_l01Byte w27 b_c vcode_c code_c ix25 hx26 (St.argx (L := [oBox b_c #[vcode_c.v, (.int .i64 ix25), (.int .i64 hx26)] 60]) hM (.head _)) (St.lend (L := [oBox b_c #[vcode_c.v, (.int .i64 ix25), (.int .i64 hx26)] 60]) hM) (by first | omega | (simp; done) | (simp; omega))) ?_
      rintro _ w34 ⟨yx31, ix32, hx33, rfl, hG35, hf36, hf37⟩
      have hM := St.got (L := [oBox b_c #[vcode_c.v, (.int .i64 ix25), (.int .i64 hx26)] 60]) hM hG35
      simp only [List.cons_append, List.nil_append] at hM
      refine wv rfl (r_assign rfl) ?_
      refine wl_nil ?_
      refine sq_n ?_
      refine wc_seq ?_
      refine wc_region ?_
      refine wv rfl (r_move rfl) ?_
      refine wv rfl (r_mul rfl rfl ⟨by omega, by omega⟩) ?_
      refine wv rfl (r_move rfl) ?_
      refine wv rfl (r_mul rfl rfl ⟨by omega, by omega⟩) ?_
      refine wv rfl (r_add rfl rfl ⟨by omega, by omega⟩) ?_
      refine wv rfl (r_move rfl) ?_
      refine wv rfl (r_mul rfl rfl ⟨by omega, by omega⟩) ?_
      refine wv rfl (r_add rfl rfl ⟨by omega, by omega⟩) ?_
      refine wv rfl (r_move rfl) ?_
      refine wv rfl (r_add rfl rfl ⟨by omega, by omega⟩) ?_
      refine wv rfl (r_move rfl) ?_
      refine wv rfl (r_rem rfl rfl ⟨by omega, by omega⟩) ?_
      refine wv rfl (r_assign rfl) ?_
      refine wl_nil ?_
      refine sq_n ?_
      refine wc_ret ?_
      refine fin_ret [(.int .i64 (((((yx10 * 16777216) + (yx17 * 65536)) + (yx24 * 256)) + yx31) % n))] ⟨rfl, trivial⟩ ?_
      exact ⟨((((yx10 * 16777216) + (yx17 * 65536)) + (yx24 * 256)) + yx31) % n, ix32, hx33, rfl, St.gives (O := [oBox b_c #[vcode_c.v, (.int .i64 ix32), (.int .i64 hx33)] 60]) hM, (⟨fun h => by omega, fun h => ⟨Int.emod_nonneg _ (by omega), Int.emod_lt_of_pos _ h⟩⟩), (by omega)⟩

theorem ct_spec_l01Pick (w : World) (b_c : Nat) (vcode_c : Sv) (code_c : List UInt8) (i_c : Int) (h_c : Int) (v_l : Sv) (l : List Int) (acode_c : ArgX (oStar [oBox b_c #[vcode_c.v, (.int .i64 i_c), (.int .i64 h_c)] 60]).fp w [vcode_c.v] (dFs 1 fB code_c)) (a_l : ArgX (oStar [oBox b_c #[vcode_c.v, (.int .i64 i_c), (.int .i64 h_c)] 60]).fp w [v_l.v] (dFs 1 fI l)) (oL : (oStar [oBox b_c #[vcode_c.v, (.int .i64 i_c), (.int .i64 h_c)] 60]).ok w) (hp0 : 0 ≤ i_c) (hp1 : 0 < l.length) : Ret Try.prog 52 [.pointer (some ⟨b_c, 0, none⟩), v_l.v] w (fun u w' => ∃ y : Int, ∃ i_c' : Int, ∃ h_c' : Int, u = .int .i64 y ∧ Gives (oStar [oBox b_c #[vcode_c.v, (.int .i64 i_c), (.int .i64 h_c)] 60]).fp w [oBox b_c #[vcode_c.v, (.int .i64 i_c'), (.int .i64 h_c')] 60] w' ∧ (y ∈ l) ∧ (0 ≤ i_c')) := by
  refine enter Try.func52 rfl Try.ntmps52 (by kernel_rfl) rfl ?_
  have hM := St.enter oL
  have hM := hM.addE (cs := [vcode_c.v]) (d := dFs 1 fB code_c) acode_c
  have hl_acode_c := Fs.le acode_c
  have hM := hM.addE (cs := [v_l.v]) (d := dFs 1 fI l) a_l
  have hl_l := Fs.le a_l
  refine wc_seq ?_
  refine wc_region ?_
  refine wv rfl (r_assign rfl) ?_
  refine wl_nil ?_
  refine sq_n ?_
  refine wc_seq ?_
  refine wc_region ?_
  refine wv rfl (r_move rfl) ?_
  refine wv rfl (r_move rfl) ?_
  refine wv rfl (r_move rfl) ?_
  refine wv rfl (r_lenF Try.underlying29 rfl (hM.arg (.head _))) ?_
  refine w_call rfl rfl (ct_spec_l01Below w b_c vcode_c code_c i_c h_c (l.length : Int) (St.argx (L := [oBox b_c #[vcode_c.v, (.int .i64 i_c), (.int .i64 h_c)] 60]) hM (.tail _ (.head _))) (St.lend (L := [oBox b_c #[vcode_c.v, (.int .i64 i_c), (.int .i64 h_c)] 60]) hM) (by first | omega | (simp; done) | (simp; omega))) ?_
  rintro _ w4 ⟨yx1, ix2, hx3, rfl, hG5, hf6, hf7⟩
  have hM := St.got (L := [oBox b_c #[vcode_c.v, (.int .i64 i_c), (.int .i64 h_c)] 60]) hM hG5
  simp only [List.cons_append, List.nil_append] at hM
  refine wv rfl (r_ixF Try.underlying29 sz3 rfl rfl (hM.arg (.head _)) ⟨by omega, by omega⟩) ?_
  refine wv rfl (r_ldF0 (i := yx1.toNat) 0 Try.underlying3 rfl rfl (hM.arg (.head _)) (by omega) rfl) ?_
  refine wv rfl (r_assign rfl) ?_
  refine wl_nil ?_
  refine sq_n ?_
  refine wc_ret ?_
  refine fin_ret [(.int .i64 (l.getD yx1.toNat 0))] ⟨rfl, trivial⟩ ?_
  exact ⟨(l.getD yx1.toNat 0), ix2, hx3, rfl, St.gives (O := [oBox b_c #[vcode_c.v, (.int .i64 ix2), (.int .i64 hx3)] 60]) hM, (getD_mem _ _ _ (by omega)), (by omega)⟩

theorem ct_spec_MakeRows (w : World) (v_code : Sv) (code : List UInt8) (a_code : ArgX (oStar []).fp w [v_code.v] (dFs 1 fB code)) : Ret Try.prog 38 [v_code.v] w (fun u w' => ∃ t : List Int, ∃ y0 : Sv, u = y0.v ∧ Gives (oStar []).fp w [oF y0.v 3 1 fI t] w' ∧ (t.length ≤ 13 ∧ ∀ x ∈ t, x = 10 ∨ x = 97 ∨ x = 98 ∨ x = 99)) := by
  refine enter Try.func38 rfl Try.ntmps38 (by kernel_rfl) rfl ?_
  have hM := St.enter0 w
  have hM := hM.addE (cs := [v_code.v]) (d := dFs 1 fB code) a_code
  have hl_code := Fs.le a_code
  refine wc_seq ?_
  refine wc_region ?_
  refine wv rfl (r_assign rfl) ?_
  refine wl_nil ?_
  refine sq_n ?_
  refine wc_seq ?_
  refine wc_region ?_
  refine wv rfl (r_move rfl) ?_
  refine w_call rfl rfl (ct_spec_l01New w _ code (St.argx (L := []) hM (.head _))) ?_
  rintro _ w3 ⟨bx1, hx2, rfl, hG4⟩
  have hM := St.got (L := []) hM hG4
  simp only [List.cons_append, List.nil_append] at hM
  refine wv rfl (r_assign rfl) ?_
  refine wl_nil ?_
  refine sq_n ?_
  refine wc_seq ?_
  refine wc_region ?_
  refine w_emptyF (f := fI) rfl Try.underlying29 sz3 hM ?_; intro v6 w5 hM
  obtain ⟨v6, rfl⟩ := Of.sv hM.top
  refine wv rfl (r_assign rfl) ?_
  refine wl_nil ?_
  refine sq_n ?_
  refine wc_seq ?_
  refine wc_seq ?_
  refine wc_region ?_
  refine wv rfl (r_move rfl) ?_
  have hM := hM.swap
  refine w_call rfl rfl (ct_spec_l01Below w5 bx1 v_code code 0 hx2 (14 : Int) (St.argx (L := [oBox bx1 #[v_code.v, (.int .i64 0), (.int .i64 hx2)] 60]) hM (.head _)) (St.lend (L := [oBox bx1 #[v_code.v, (.int .i64 0), (.int .i64 hx2)] 60]) hM) (by first | omega | (simp; done) | (simp; omega))) ?_
  rintro _ w10 ⟨yx7, ix8, hx9, rfl, hG11, hf12, hf13⟩
  have hM := St.got (L := [oBox bx1 #[v_code.v, (.int .i64 0), (.int .i64 hx2)] 60]) hM hG11
  simp only [List.cons_append, List.nil_append] at hM
  refine wv rfl (r_assign rfl) ?_
  refine wl_nil ?_
  refine sq_n ?_
  refine wc_block ?_
  refine wc_loop5 (fun (n : Nat) (t : List Int) (v : Sv) (i : Int) (h : Int) => [(3, (.pointer (some ⟨bx1, 0, none⟩))), (4, v.v), (5, (.int .i64 (n : Int)))]) (fun (n : Nat) (t : List Int) (v : Sv) (i : Int) (h : Int) w' => St ⟨w, (oStar []).fp⟩ [oBox bx1 #[v_code.v, (.int .i64 i), (.int .i64 h)] 60, oF v.v 3 1 fI t] [([v_code.v], dFs 1 fB code)] w' ∧ t.length + n ≤ 13 ∧ (∀ x ∈ t, x = 10 ∨ x = 97 ∨ x = 98 ∨ x = 99) ∧ 0 ≤ i) (fun (n : Nat) (t : List Int) (v : Sv) (i : Int) (h : Int) => n) yx7.toNat ([]) v6 ix8 hx9 ⟨rfl, rfl, icongr (by omega), trivial⟩ ⟨hM, (by simp; omega), (by simp), (by omega)⟩ ?_
  rintro n t v i h w15 ⟨hM, hf0_0, hf0_1, hf0_2⟩
  refine wc_seq ?_
  refine wc_seq ?_
  refine wc_region ?_
  refine wv rfl (r_move rfl) ?_
  refine wv rfl (r_gtr rfl rfl) ?_
  refine wl_nil ?_
  refine sq_n ?_
  refine wc_cond rfl (fun hc16 => ?_) (fun hc16 => ?_)
  · skip
    have hc16 := of_decide_eq_true hc16
    refine wc_skip ?_
    refine sq_n ?_
    refine wc_seq ?_
    refine wc_block ?_
    refine wc_region ?_
    refine wv rfl (r_move rfl) ?_
    refine wv rfl (r_move rfl) ?_
    refine w_litF (f := fI) [10, 97, 98, 99, 97] 5 rfl Try.underlying29 sz3 rfl rfl (by decide) rfl (by kernel_rfl) rfl hM ?_; intro v18 w17 hM
    obtain ⟨v18, rfl⟩ := Of.sv hM.top
    have hM := hM.swap
    refine w_call rfl rfl (ct_spec_l01Pick w17 bx1 v_code code i h _ ([10, 97, 98, 99, 97]) (St.argx (L := [oBox bx1 #[v_code.v, (.int .i64 i), (.int .i64 h)] 60]) hM (.head _)) (St.argO (M := [oBox bx1 #[v_code.v, (.int .i64 i), (.int .i64 h)] 60]) hM (.head _) (fun _ => rfl)) (St.lend (L := [oBox bx1 #[v_code.v, (.int .i64 i), (.int .i64 h)] 60]) hM) (by first | omega | (simp; done) | (simp; omega)) (by first | omega | (simp; done) | (simp; omega))) ?_
    rintro _ w22 ⟨yx19, ix20, hx21, rfl, hG23, hf24, hf25⟩
    have hM := St.got (L := [oBox bx1 #[v_code.v, (.int .i64 i), (.int .i64 h)] 60]) hM hG23
    simp only [List.cons_append, List.nil_append] at hM
    have hM := hM.roll
    refine w_pushF (f := fI) yx19 rfl rfl Try.underlying29 sz3 rfl rfl rfl rfl rfl (fun _ => rfl) hM (by simp only [maxLen]; omega) (by omega) ?_; intro u28 v27 w26 hM
    obtain ⟨v27, rfl⟩ := Of.sv hM.top
    refine wv rfl (r_assign rfl) ?_
    refine wl_nil ?_
    refine bk_n ?_
    refine sq_n ?_
    refine wc_region ?_
    refine wv rfl (r_move rfl) ?_
    refine wv rfl (r_sub rfl rfl ⟨by omega, by omega⟩) ?_
    refine wv rfl (r_assign rfl) ?_
    refine wl_nil ?_
    have hM := hM.roll
    have hM := hM.drop
    have hM := hM.swap
    exact lp_end5 (n - 1) (t ++ [yx19]) v27 ix20 hx21 (by omega) ⟨rfl, rfl, icongr (by omega), trivial⟩ ⟨hM, (by simp; omega), (rows_mem (by assumption) (by assumption)), (by omega)⟩
  · skip
    have hc16 := of_decide_eq_false hc16
    refine wc_exit ?_
    refine sq_exit ?_
    refine lp5_exit ?_
    refine bk_here ?_
    refine sq_n ?_
    refine wc_seq ?_
    refine wc_region ?_
    refine wv rfl (r_move rfl) ?_
    refine wv rfl (r_assign rfl) ?_
    refine wl_nil ?_
    refine sq_n ?_
    refine wc_ret ?_
    have hM := hM.swap
    refine fin_ret [v.v] ⟨rfl, trivial⟩ ?_
    exact ⟨t, v, rfl, St.gives (O := [oF v.v 3 1 fI t]) hM, (⟨by omega, hf0_1⟩)⟩

end Go.Proofs.Ytenkkffokomonaa
