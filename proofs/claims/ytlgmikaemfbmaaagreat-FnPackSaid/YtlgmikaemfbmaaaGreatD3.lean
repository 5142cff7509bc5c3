/- Walks of functions of this program (printed by a program of ours, by the rules of the layer). No condition. -/
import Derived.Test.YtlgmikaemfbmaaaGreatD2
import Derived.Test.YtlgmikaemfbmaaaGreatNs
import Derived.Test.YtlgmikaemfbmaaaGreatNu
import Derived.Test.YtlgmikaemfbmaaaGreatNt
namespace Go.Proofs.YtlgmikaemfbmaaaGreat
open Go.RowKit

noncomputable def x_impl_GetNum_b0 (at_ : Int) (b : List UInt8) (n19 : Int) (i20 : Int) : Option (Lr (Int × Int) (Sum Unit (Int × Int × Bool))) :=
  Option.bind (bif decide (i20 < 5) then (xg (inI (at_ + i20)) <| some (decide ((at_ + i20) < (b.length : Int)))) else (some false)) fun c101 => bif c101 then (xg (inI (at_ + i20)) <| xg (0 ≤ (at_ + i20) ∧ (at_ + i20) < (b.length : Int)) <| xg (0 ≤ ((el b ((at_ + i20).toNat)).toNat : Int) ∧ 0 < (128 : Int)) <| xg (inI (7 * i20)) <| xg (0 ≤ (7 * i20)) <| xg (inI (n19 + (bShl (((el b ((at_ + i20).toNat)).toNat : Int) % 128) (7 * i20)))) <| bif decide (((el b ((at_ + i20).toNat)).toNat : Int) < 128) then (Option.bind (bif decide (((el b ((at_ + i20).toNat)).toNat : Int) = 0) then (some (decide ((0 : Int) < i20))) else (some false)) fun c145 => Option.bind (bif c145 then (some true) else (some (decide ((1114111000 : Int) < (n19 + (bShl (((el b ((at_ + i20).toNat)).toNat : Int) % 128) (7 * i20))))))) fun c152 => bif c152 then (some (Lr.out (Sum.inr ((0, 0, false))))) else (xg (inI (at_ + i20)) <| xg (inI ((at_ + i20) + 1)) <| some (Lr.out (Sum.inr ((n19 + (bShl (((el b ((at_ + i20).toNat)).toNat : Int) % 128) (7 * i20)), (at_ + i20) + 1, true)))))) else (xg (inI (i20 + 1)) <| some (Lr.go (n19 + (bShl (((el b ((at_ + i20).toNat)).toNat : Int) % 128) (7 * i20)), i20 + 1)))) else (some (Lr.out (Sum.inl ())))
noncomputable def x_impl_GetNum_f0 (at_ : Int) (b : List UInt8) (s175 : Int × Int) : Option (Lr (Int × Int) (Sum Unit (Int × Int × Bool))) := x_impl_GetNum_b0 at_ b s175.1 s175.2
noncomputable def x_impl_GetNum (b : List UInt8) (at_ : Int) : Option (Int × Int × Bool) :=
  xg (inI ((b.length : Int) - 1)) <| Option.bind (x_impl_within at_ 0 ((b.length : Int) - 1)) fun r9 => bif !r9 then (some (0, 0, false)) else (Option.bind (iter (x_impl_GetNum_f0 at_ b) (0, 0)) fun (y176 : Sum Unit (Int × Int × Bool)) => Sum.elim (fun _y177 => some (0, 0, false)) (fun y178 => some (y178.1, y178.2.1, y178.2.2)) y176)
theorem ct_impl_GetNum (w : World) (X S : Bs) (b : List UInt8) (s_b : Sv) (at_ : Int) (hS : ∀ b, S b → b < w.heap.size ∧ ¬ X b) (a_b_0 : (cSl 1 fY b).rd S w s_b.v) (oL : Sep [] X w) {r : Int × Int × Bool} (hx : x_impl_GetNum b at_ = some r) :
  Ret Tryz.prog 23 [s_b.v, (.int .i64 at_)] w (fun u w' => ∃ _ : Unit, u = .tuple #[(.int .i64 r.1), (.int .i64 r.2.1), (.bool r.2.2)] ∧ Gives X S w [] [] w') := by
 unfold x_impl_GetNum at hx
 refine enter Tryz.func23 rfl Tryz.ntmps23 (by kernel_rfl) rfl ?_
 have hM := St.enter oL hS
 have hM := hM.addE (r := rV s_b.v (cSl 1 fY b)) a_b_0
 refine wc_sr ?_
 refine was rfl rfl ?_
 refine was rfl rfl ?_
 refine was rfl rfl ?_
 refine wl_sq ?_
 refine wc_seq ?_
 refine wc_sr ?_
 refine wmv rfl rfl ?_
 refine wmv rfl rfl ?_
 refine wv rfl (r_lenC Tryz.underlying22 rfl (hM.seeR (.head _))) ?_
 obtain ⟨hg189, hx⟩ := xg_some hx
 refine wv rfl (r_sub rfl rfl hg189) ?_
 obtain ⟨r190, h191, hx⟩ := bind_some' hx
 refine w_call rfl rfl (hM.callV fun X S oL hS hR hO => ct_impl_within _ X S at_ (0 : Int) ((b.length : Int) - 1) hS  oL h191) ?_
 rintro _ w192 ⟨rfl, hR193⟩
 have hM := hM.call hR193
 refine wv rfl (r_not rfl) ?_
 refine wl_sq ?_
 refine wc_cond rfl (fun hc195 => ?_) (fun hc195 => ?_)
 ·
  replace hx := xif_t hc195 hx
  refine wc_sr ?_
  refine was rfl rfl ?_
  refine was rfl rfl ?_
  refine was rfl rfl ?_
  refine wl_sq ?_
  refine wc_ret ?_
  refine sq_ret ?_
  obtain rfl := Option.some.inj hx
  refine fin_ret [(.int .i64 0), (.int .i64 0), (.bool false)] ⟨rfl, rfl, rfl, trivial⟩ ?_
  replace hM := hM.t0
  have hM := hM.fewer rsN
  exact ⟨(), rfl, hM.gives⟩
 ·
  replace hx := xif_f hc195 hx
  refine wc_skip ?_
  refine sq_n ?_
  refine wc_sr ?_
  refine was rfl rfl ?_
  refine wl_sq ?_
  refine wc_seq ?_
  refine wc_sr ?_
  refine was rfl rfl ?_
  refine wl_sq ?_
  refine wc_block ?_
  obtain ⟨y201, hx, hx202⟩ := bind_some' hx
  obtain ⟨m207, hx⟩ := iter_run hx
  refine wc_loop (un fun (m205 : Nat) => un fun (n203 : Int) => fun (i204 : Int) => [(0, s_b.v), (1, (.int .i64 at_)), (7, (.int .i64 n203)), (8, (.int .i64 i204))]) (un fun (m205 : Nat) => un fun (n203 : Int) => fun (i204 : Int) w' => St ⟨w, X, S⟩ [] [rV s_b.v (cSl 1 fY b)] w' ∧ iterN _ m205 (n203, i204) = some y201) (fun p => p.1) (m207, 0, 0) ⟨rfl, rfl, rfl, rfl, trivial⟩ ⟨hM, hx⟩ ?_
  rintro ⟨m205, n203, i204⟩ w208 ⟨hM, hx⟩
  obtain ⟨m209, z210, rfl, hx, hx211⟩ := iterN_step hx
  unfold x_impl_GetNum_f0 x_impl_GetNum_b0 at hx
  try dsimp only at hx
  refine wc_seq ?_
  refine wc_sr ?_
  refine wmv rfl rfl ?_
  refine wv rfl (r_lss rfl rfl) ?_
  refine wmv rfl rfl ?_
  obtain ⟨c215, hx, hx224⟩ := bind_some' hx
  refine wl_mid 7 (fun _ : Unit => [(25, (.bool c215)), (0, s_b.v), (1, (.int .i64 at_)), (7, (.int .i64 n203)), (8, (.int .i64 i204))]) (fun _ w' => St ⟨w, X, S⟩ [] [rV s_b.v (cSl 1 fY b)] w') ?_ ?_
  ·
   rcases Bool.eq_false_or_eq_true (decide (i204 < 5)) with hg216 | hg216
   ·
    replace hx := xif_t hg216 hx
    refine gv rfl hg216 rfl (r_move rfl) ?_
    refine gv rfl hg216 rfl (r_move rfl) ?_
    obtain ⟨hg228, hx⟩ := xg_some hx
    refine gv rfl hg216 rfl (r_add rfl rfl hg228) ?_
    refine gv rfl hg216 rfl (r_move rfl) ?_
    refine gv rfl hg216 rfl (r_lenC Tryz.underlying22 rfl (hM.seeR (.head _))) ?_
    refine gv rfl hg216 rfl (r_lss rfl rfl) ?_
    refine wv rfl (p_t rfl hg216 rfl) ?_
    obtain rfl := Option.some.inj hx
    exact mid_nil () ⟨rfl, rfl, rfl, rfl, rfl, trivial⟩ hM
   ·
    replace hx := xif_f hg216 hx
    refine gs rfl (isB_no hg216) rfl ?_
    refine gs rfl (isB_no hg216) rfl ?_
    refine gs rfl (isB_no hg216) rfl ?_
    refine gs rfl (isB_no hg216) rfl ?_
    refine gs rfl (isB_no hg216) rfl ?_
    refine gs rfl (isB_no hg216) rfl ?_
    refine wv rfl (p_f rfl hg216 rfl) ?_
    obtain rfl := Option.some.inj hx
    exact mid_nil () ⟨rfl, rfl, rfl, rfl, rfl, trivial⟩ hM
  rintro _ w232 hM
  replace hx := hx224
  refine wl_sq ?_
  refine wc_cond rfl (fun hc233 => ?_) (fun hc233 => ?_)
  ·
   replace hx := xif_t hc233 hx
   refine wc_skip ?_
   refine sq_n ?_
   refine wc_seq ?_
   refine wc_block ?_
   refine wc_sr ?_
   refine wmv rfl rfl ?_
   refine wmv rfl rfl ?_
   refine wmv rfl rfl ?_
   obtain ⟨hg238, hx⟩ := xg_some hx
   refine wv rfl (r_add rfl rfl hg238) ?_
   obtain ⟨hg241, hx⟩ := xg_some hx
   have hi240 : ((at_ + i204).toNat) < b.length := by omega
   refine wv rfl (r_ixC Tryz.underlying22 sz5 rfl rfl (hM.seeR (.head _)) hg241) ?_
   refine wv rfl (r_ld Tryz.underlying5 rfl rfl (Cs.get (i := ((at_ + i204).toNat)) (j := 0) (hM.seeR (.head _)) (fun _ => rfl) hi240 rfl)) ?_
   refine wv rfl (r_cvt Tryz.underlying5 Tryz.underlying3 rfl (u8_cvt _)) ?_
   refine was rfl rfl ?_
   refine wl_sq ?_
   refine wc_sr ?_
   refine wmv rfl rfl ?_
   refine wmv rfl rfl ?_
   obtain ⟨hg248, hx⟩ := xg_some hx
   refine wv rfl (r_rem rfl rfl hg248) ?_
   refine wmv rfl rfl ?_
   obtain ⟨hg251, hx⟩ := xg_some hx
   refine wv rfl (r_mul rfl rfl hg251) ?_
   obtain ⟨hg253, hx⟩ := xg_some hx
   refine wv rfl (r_shl rfl rfl hg253) ?_
   obtain ⟨hg255, hx⟩ := xg_some hx
   refine wv rfl (r_add rfl rfl hg255) ?_
   refine was rfl rfl ?_
   refine wl_sq ?_
   refine wc_sr ?_
   refine wmv rfl rfl ?_
   refine wv rfl (r_lss rfl rfl) ?_
   refine wl_sq ?_
   refine wc_cond rfl (fun hc259 => ?_) (fun hc259 => ?_)
   ·
    replace hx := xif_t hc259 hx
    refine wc_seq ?_
    refine wc_sr ?_
    refine wmv rfl rfl ?_
    refine wv rfl (r_eql rfl rfl) ?_
    refine wmv rfl rfl ?_
    obtain ⟨c263, hx, hx267⟩ := bind_some' hx
    refine wl_mid 3 (fun _ : Unit => [(49, (.bool c263)), (1, (.int .i64 at_)), (7, (.int .i64 (n203 + (bShl (((el b ((at_ + i204).toNat)).toNat : Int) % 128) (7 * i204))))), (8, (.int .i64 i204))]) (fun _ w' => St ⟨w, X, S⟩ [] [rV s_b.v (cSl 1 fY b)] w') ?_ ?_
    ·
     rcases Bool.eq_false_or_eq_true (decide (((el b ((at_ + i204).toNat)).toNat : Int) = 0)) with hg264 | hg264
     ·
      replace hx := xif_t hg264 hx
      refine gv rfl hg264 rfl (r_move rfl) ?_
      refine gv rfl hg264 rfl (r_gtr rfl rfl) ?_
      refine wv rfl (p_t rfl hg264 rfl) ?_
      obtain rfl := Option.some.inj hx
      exact mid_nil () ⟨rfl, rfl, rfl, rfl, trivial⟩ hM
     ·
      replace hx := xif_f hg264 hx
      refine gs rfl (isB_no hg264) rfl ?_
      refine gs rfl (isB_no hg264) rfl ?_
      refine wv rfl (p_f rfl hg264 rfl) ?_
      obtain rfl := Option.some.inj hx
      exact mid_nil () ⟨rfl, rfl, rfl, rfl, trivial⟩ hM
    rintro _ w270 hM
    replace hx := hx267
    refine wmv rfl rfl ?_
    obtain ⟨c272, hx, hx276⟩ := bind_some' hx
    refine wl_mid 3 (fun _ : Unit => [(53, (.bool c272)), (1, (.int .i64 at_)), (7, (.int .i64 (n203 + (bShl (((el b ((at_ + i204).toNat)).toNat : Int) % 128) (7 * i204))))), (8, (.int .i64 i204))]) (fun _ w' => St ⟨w, X, S⟩ [] [rV s_b.v (cSl 1 fY b)] w') ?_ ?_
    ·
     rcases Bool.eq_false_or_eq_true c263 with hg273 | hg273
     ·
      replace hx := xif_t hg273 hx
      refine gs rfl (isB_no hg273) rfl ?_
      refine gs rfl (isB_no hg273) rfl ?_
      refine wv rfl (p_t rfl hg273 rfl) ?_
      obtain rfl := Option.some.inj hx
      exact mid_nil () ⟨rfl, rfl, rfl, rfl, trivial⟩ hM
     ·
      replace hx := xif_f hg273 hx
      refine gv rfl hg273 rfl (r_move rfl) ?_
      refine gv rfl hg273 rfl (r_gtr rfl rfl) ?_
      refine wv rfl (p_f rfl hg273 rfl) ?_
      obtain rfl := Option.some.inj hx
      exact mid_nil () ⟨rfl, rfl, rfl, rfl, trivial⟩ hM
    rintro _ w279 hM
    replace hx := hx276
    refine wl_sq ?_
    refine wc_cond rfl (fun hc280 => ?_) (fun hc280 => ?_)
    ·
     replace hx := xif_t hc280 hx
     refine wc_sr ?_
     refine was rfl rfl ?_
     refine was rfl rfl ?_
     refine was rfl rfl ?_
     refine wl_sq ?_
     refine wc_ret ?_
     refine sq_ret ?_
     refine bk_ret ?_
     refine sq_ret ?_
     refine lp1_ret ?_
     obtain rfl := Option.some.inj hx
     obtain rfl := Option.some.inj hx211
     replace hx := hx202
     try dsimp only [Sum.elim_inl, Sum.elim_inr] at hx
     refine bk_ret ?_
     refine sq_ret ?_
     obtain rfl := Option.some.inj hx
     refine fin_ret [(.int .i64 0), (.int .i64 0), (.bool false)] ⟨rfl, rfl, rfl, trivial⟩ ?_
     replace hM := hM.t0
     have hM := hM.fewer rsN
     exact ⟨(), rfl, hM.gives⟩
    ·
     replace hx := xif_f hc280 hx
     refine wc_skip ?_
     refine sq_n ?_
     refine wc_sr ?_
     refine wmv rfl rfl ?_
     refine wmv rfl rfl ?_
     refine wmv rfl rfl ?_
     obtain ⟨hg288, hx⟩ := xg_some hx
     refine wv rfl (r_add rfl rfl hg288) ?_
     obtain ⟨hg290, hx⟩ := xg_some hx
     refine wv rfl (r_add rfl rfl hg290) ?_
     refine was rfl rfl ?_
     refine was rfl rfl ?_
     refine was rfl rfl ?_
     refine wl_sq ?_
     refine wc_ret ?_
     refine bk_ret ?_
     refine sq_ret ?_
     refine lp1_ret ?_
     obtain rfl := Option.some.inj hx
     obtain rfl := Option.some.inj hx211
     replace hx := hx202
     try dsimp only [Sum.elim_inl, Sum.elim_inr] at hx
     refine bk_ret ?_
     refine sq_ret ?_
     obtain rfl := Option.some.inj hx
     refine fin_ret [(.int .i64 (n203 + (bShl (((el b ((at_ + i204).toNat)).toNat : Int) % 128) (7 * i204)))), (.int .i64 ((at_ + i204) + 1)), (.bool true)] ⟨rfl, rfl, rfl, trivial⟩ ?_
     replace hM := hM.t0
     have hM := hM.fewer rsN
     exact ⟨(), rfl, hM.gives⟩
   ·
    replace hx := xif_f hc259 hx
    refine wc_skip ?_
    refine bk_n ?_
    refine sq_n ?_
    refine wc_region ?_
    refine wmv rfl rfl ?_
    obtain ⟨hg296, hx⟩ := xg_some hx
    refine wv rfl (r_add rfl rfl hg296) ?_
    refine was rfl rfl ?_
    refine wl_nil ?_
    obtain rfl := Option.some.inj hx
    exact lp_end (m209, n203 + (bShl (((el b ((at_ + i204).toNat)).toNat : Int) % 128) (7 * i204)), i204 + 1) (Nat.lt_succ_self _) ⟨rfl, rfl, rfl, rfl, trivial⟩ ⟨hM, hx211⟩
  ·
   replace hx := xif_f hc233 hx
   refine wc_exit ?_
   refine sq_exit ?_
   refine lp1_exit ?_
   obtain rfl := Option.some.inj hx
   obtain rfl := Option.some.inj hx211
   replace hx := hx202
   try dsimp only [Sum.elim_inl, Sum.elim_inr] at hx
   refine bk_here ?_
   refine sq_n ?_
   refine wc_sr ?_
   refine was rfl rfl ?_
   refine was rfl rfl ?_
   refine was rfl rfl ?_
   refine wl_sq ?_
   refine wc_ret ?_
   obtain rfl := Option.some.inj hx
   refine fin_ret [(.int .i64 0), (.int .i64 0), (.bool false)] ⟨rfl, rfl, rfl, trivial⟩ ?_
   replace hM := hM.t0
   have hM := hM.fewer rsN
   exact ⟨(), rfl, hM.gives⟩

noncomputable def x_impl_reader_num (r_ : DReader) : Option (Int × DReader) :=
  Option.bind (x_impl_GetNum r_.b r_.at_) fun r11 => Option.bind (bif !r11.2.2 then (some true) else (some r_.bad)) fun c29 => bif c29 then (some (0, (⟨r_.b, r_.at_, true⟩ : DReader))) else (some (r11.1, (⟨r_.b, r11.2.1, r_.bad⟩ : DReader)))
theorem ct_impl_reader_num (w : World) (X S : Bs) (b_r_ : Nat) (r_ : DReader) (s_r__0 : Sv) (hS : ∀ b, S b → b < w.heap.size ∧ ¬ X b) (a_r__0 : (cSl 1 fY r_.b).rd S w s_r__0.v) (oL : Sep [oBox b_r_ #[s_r__0.v, (.int .i64 r_.at_), (.bool r_.bad)] 87] X w) {r : Int × DReader} (hx : x_impl_reader_num r_ = some r) :
  Ret Tryz.prog 45 [(.pointer (some ⟨b_r_, 0, none⟩))] w (fun u w' => ∃ y : Sv, u = (.int .i64 r.1) ∧ Gives X S w [oBox b_r_ #[y.v, (.int .i64 r.2.at_), (.bool r.2.bad)] 87] [rV y.v (cSl 1 fY r.2.b)] w') := by
 unfold x_impl_reader_num at hx
 refine enter Tryz.func45 rfl Tryz.ntmps45 (by kernel_rfl) rfl ?_
 have hM := St.enter oL hS
 have hM := hM.addE (r := rV s_r__0.v (cSl 1 fY r_.b)) a_r__0
 refine wc_sr ?_
 refine was rfl rfl ?_
 refine wl_sq ?_
 refine wc_seq ?_
 refine wc_draw [(0, 0), (1, 0), (2, 0), (3, 0), (4, 0), (5, 0), (6, 0), (7, 0), (8, 2), (9, 0), (10, 0), (11, 0), (12, 0), (13, 0), (14, 0), (15, 0)] Tryz_mixed (by kernel_rfl) rfl (by kernel_rfl) rfl ?_
 refine omv rfl rfl ?_
 refine ov rfl (fun w' h' => r_nilck rfl) ?_
 refine ov rfl (fun w' h' => r_fld Tryz.underlying87 rfl rfl sz22 rfl) ?_
 refine ov rfl (fun w' h' => r_ldB Tryz.underlying22 rfl rfl (hM.call h') (.head _) rfl) ?_
 refine omv rfl rfl ?_
 refine ov rfl (fun w' h' => r_nilck rfl) ?_
 refine ov rfl (fun w' h' => r_fld Tryz.underlying87 rfl rfl sz3 rfl) ?_
 refine ov rfl (fun w' h' => r_ldB Tryz.underlying3 rfl rfl (hM.call h') (.head _) rfl) ?_
 obtain ⟨r62, h63, hx⟩ := bind_some' hx
 refine o_call rfl rfl (fun w' h' => (hM.call h').callV fun X S oL hS hR hO => ct_impl_GetNum _ X S r_.b s_r__0 r_.at_ hS (hR _ (.head _)) oL h63) ?_
 rintro w65 h66 _ w64 ⟨rfl, hR67⟩
 have hM := (hM.call h66).call hR67
 refine omv rfl rfl ?_
 refine ov rfl (fun w' h' => r_extract rfl rfl) ?_
 refine ov rfl (fun w' h' => r_extract rfl rfl) ?_
 refine ov rfl (fun w' h' => r_extract rfl rfl) ?_
 refine ov rfl (fun w' h' => r_assign rfl) ?_
 refine ov rfl (fun w' h' => r_assign rfl) ?_
 refine ov rfl (fun w' h' => r_assign rfl) ?_
 refine o_nilM hM fun w75 hM => ?_
 refine sq_n ?_
 refine wc_seq ?_
 refine wc_sr ?_
 refine wmv rfl rfl ?_
 refine wv rfl (r_not rfl) ?_
 refine wmv rfl rfl ?_
 obtain ⟨c80, hx, hx86⟩ := bind_some' hx
 refine wl_mid 5 (fun _ : Unit => [(26, (.bool c80)), (0, (.pointer (some ⟨b_r_, 0, none⟩))), (3, (.int .i64 r62.1)), (4, (.int .i64 r62.2.1))]) (fun _ w' => St ⟨w, X, S⟩ [oBox b_r_ #[s_r__0.v, (.int .i64 r_.at_), (.bool r_.bad)] 87] [rV s_r__0.v (cSl 1 fY r_.b)] w') ?_ ?_
 ·
  rcases Bool.eq_false_or_eq_true (!r62.2.2) with hg81 | hg81
  ·
   replace hx := xif_t hg81 hx
   refine gs rfl (isB_no hg81) rfl ?_
   refine gs rfl (isB_no hg81) rfl ?_
   refine gs rfl (isB_no hg81) rfl ?_
   refine gs rfl (isB_no hg81) rfl ?_
   refine wv rfl (p_t rfl hg81 rfl) ?_
   obtain rfl := Option.some.inj hx
   exact mid_nil () ⟨rfl, rfl, rfl, rfl, trivial⟩ hM
  ·
   replace hx := xif_f hg81 hx
   refine gv rfl hg81 rfl (r_move rfl) ?_
   refine gv rfl hg81 rfl (r_nilck rfl) ?_
   refine gv rfl hg81 rfl (r_fld Tryz.underlying87 rfl rfl sz4 rfl) ?_
   refine gv rfl hg81 rfl (r_ldB Tryz.underlying4 rfl rfl hM (.head _) rfl) ?_
   refine wv rfl (p_f rfl hg81 rfl) ?_
   obtain rfl := Option.some.inj hx
   exact mid_nil () ⟨rfl, rfl, rfl, rfl, trivial⟩ hM
 rintro _ w91 hM
 replace hx := hx86
 refine wl_sq ?_
 refine wc_cond rfl (fun hc92 => ?_) (fun hc92 => ?_)
 ·
  replace hx := xif_t hc92 hx
  refine wc_sr ?_
  refine wmv rfl rfl ?_
  refine wv rfl (r_nilck rfl) ?_
  refine wv rfl (r_fld Tryz.underlying87 rfl rfl sz4 rfl) ?_
  refine w_exu (x_stB #[s_r__0.v, (.int .i64 r_.at_), (.bool true)] sz4 rfl rfl rfl rfl rfl rfl hM ?_); intro w96 hM
  refine wl_sq ?_
  refine wc_sr ?_
  refine was rfl rfl ?_
  refine wl_sq ?_
  refine wc_ret ?_
  refine sq_ret ?_
  obtain rfl := Option.some.inj hx
  refine fin_ret [(.int .i64 0)] ⟨rfl, trivial⟩ ?_
  replace hM := hM.t1
  have hM := hM.fewer (rsC (.head _) rsN)
  exact ⟨s_r__0, rfl, hM.gives⟩
 ·
  replace hx := xif_f hc92 hx
  refine wc_skip ?_
  refine sq_n ?_
  refine wc_sr ?_
  refine wmv rfl rfl ?_
  refine wmv rfl rfl ?_
  refine wv rfl (r_nilck rfl) ?_
  refine wv rfl (r_fld Tryz.underlying87 rfl rfl sz3 rfl) ?_
  refine w_exu (x_stB #[s_r__0.v, (.int .i64 r62.2.1), (.bool r_.bad)] sz3 rfl rfl rfl rfl rfl rfl hM ?_); intro w103 hM
  refine wl_sq ?_
  refine wc_sr ?_
  refine wmv rfl rfl ?_
  refine was rfl rfl ?_
  refine wl_sq ?_
  refine wc_ret ?_
  obtain rfl := Option.some.inj hx
  refine fin_ret [(.int .i64 r62.1)] ⟨rfl, trivial⟩ ?_
  replace hM := hM.t1
  have hM := hM.fewer (rsC (.head _) rsN)
  exact ⟨s_r__0, rfl, hM.gives⟩

noncomputable def x_impl_reader_nums_b0 (count : Int) (out38 : List Int) (i39 : Int) (l40 : List UInt8) (n41 : Int) (b42 : Bool) : Option (Lr (List Int × Int × List UInt8 × Int × Bool) (List Int × List UInt8 × Int × Bool)) :=
  Option.bind (bif decide (i39 < count) then (some (!b42)) else (some false)) fun c81 => bif c81 then (Option.bind (x_impl_reader_num (⟨l40, n41, b42⟩ : DReader)) fun r95 => xg (out38.length < 1099511627776) <| xg (inI (i39 + 1)) <| some (Lr.go (out38 ++ [r95.1], i39 + 1, r95.2.b, r95.2.at_, r95.2.bad))) else (some (Lr.out (out38, l40, n41, b42)))
noncomputable def x_impl_reader_nums_f0 (count : Int) (s108 : List Int × Int × List UInt8 × Int × Bool) : Option (Lr (List Int × Int × List UInt8 × Int × Bool) (List Int × List UInt8 × Int × Bool)) := x_impl_reader_nums_b0 count s108.1 s108.2.1 s108.2.2.1 s108.2.2.2.1 s108.2.2.2.2
noncomputable def x_impl_reader_nums (r_ : DReader) (count : Int) : Option (List Int × DReader) :=
  Option.bind (iter (x_impl_reader_nums_f0 count) ([], 0, r_.b, r_.at_, r_.bad)) fun (y109 : List Int × List UInt8 × Int × Bool) => some (y109.1, (⟨y109.2.1, y109.2.2.1, y109.2.2.2⟩ : DReader))
theorem ct_impl_reader_nums (w : World) (X S : Bs) (b_r_ : Nat) (r_ : DReader) (s_r__0 : Sv) (count : Int) (hS : ∀ b, S b → b < w.heap.size ∧ ¬ X b) (a_r__0 : (cSl 1 fY r_.b).rd S w s_r__0.v) (oL : Sep [oBox b_r_ #[s_r__0.v, (.int .i64 r_.at_), (.bool r_.bad)] 87] X w) {r : List Int × DReader} (hx : x_impl_reader_nums r_ count = some r) :
  Ret Tryz.prog 46 [(.pointer (some ⟨b_r_, 0, none⟩)), (.int .i64 count)] w (fun u w' => ∃ y : Sv × Sv, u = y.1.v ∧ Gives X S w [oC (cSl 1 fI r.1) y.1.v, oBox b_r_ #[y.2.v, (.int .i64 r.2.at_), (.bool r.2.bad)] 87] [rV y.2.v (cSl 1 fY r.2.b)] w') := by
 unfold x_impl_reader_nums at hx
 refine enter Tryz.func46 rfl Tryz.ntmps46 (by kernel_rfl) rfl ?_
 have hM := St.enter oL hS
 have hM := hM.addE (r := rV s_r__0.v (cSl 1 fY r_.b)) a_r__0
 refine wc_sr ?_
 refine was rfl rfl ?_
 refine wl_sq ?_
 refine wc_sr ?_
 refine was rfl rfl ?_
 refine wl_sq ?_
 refine wc_seq ?_
 refine wc_sr ?_
 refine was rfl rfl ?_
 refine wl_sq ?_
 refine wc_block ?_
 obtain ⟨y118, hx, hx119⟩ := bind_some' hx
 have hM := hM.nil0 (T := Int) 1 fI
 replace hM := hM.p1
 obtain ⟨m131, hx⟩ := iter_run hx
 refine wc_loop (un fun (m129 : Nat) => un fun (out121 : List Int) => un fun (i122 : Int) => un fun (l123 : List UInt8) => un fun (n124 : Int) => un fun (b125 : Bool) => un fun (s127 : Sv) => fun (s128 : Sv) => [(0, (.pointer (some ⟨b_r_, 0, none⟩))), (1, (.int .i64 count)), (5, s127.v), (6, (.int .i64 i122))]) (un fun (m129 : Nat) => un fun (out121 : List Int) => un fun (i122 : Int) => un fun (l123 : List UInt8) => un fun (n124 : Int) => un fun (b125 : Bool) => un fun (s127 : Sv) => fun (s128 : Sv) w' => St ⟨w, X, S⟩ [oBox b_r_ #[s128.v, (.int .i64 n124), (.bool b125)] 87, oC (cSl 1 fI out121) s127.v] [rV s128.v (cSl 1 fY l123)] w' ∧ iterN _ m129 (out121, i122, l123, n124, b125) = some y118) (fun p => p.1) (m131, [], 0, r_.b, r_.at_, r_.bad, nS, s_r__0) ⟨rfl, rfl, rfl, rfl, trivial⟩ ⟨hM, hx⟩ ?_
 rintro ⟨m129, out121, i122, l123, n124, b125, s127, s128⟩ w132 ⟨hM, hx⟩
 obtain ⟨m133, z134, rfl, hx, hx135⟩ := iterN_step hx
 unfold x_impl_reader_nums_f0 x_impl_reader_nums_b0 at hx
 try dsimp only at hx
 refine wc_seq ?_
 refine wc_sr ?_
 refine wmv rfl rfl ?_
 refine wmv rfl rfl ?_
 refine wv rfl (r_lss rfl rfl) ?_
 refine wmv rfl rfl ?_
 obtain ⟨c140, hx, hx147⟩ := bind_some' hx
 refine wl_mid 6 (fun _ : Unit => [(16, (.bool c140)), (0, (.pointer (some ⟨b_r_, 0, none⟩))), (1, (.int .i64 count)), (5, s127.v), (6, (.int .i64 i122))]) (fun _ w' => St ⟨w, X, S⟩ [oBox b_r_ #[s128.v, (.int .i64 n124), (.bool b125)] 87, oC (cSl 1 fI out121) s127.v] [rV s128.v (cSl 1 fY l123)] w') ?_ ?_
 ·
  rcases Bool.eq_false_or_eq_true (decide (i122 < count)) with hg141 | hg141
  ·
   replace hx := xif_t hg141 hx
   refine gv rfl hg141 rfl (r_move rfl) ?_
   refine gv rfl hg141 rfl (r_nilck rfl) ?_
   refine gv rfl hg141 rfl (r_fld Tryz.underlying87 rfl rfl sz4 rfl) ?_
   refine gv rfl hg141 rfl (r_ldB Tryz.underlying4 rfl rfl hM (.head _) rfl) ?_
   refine gv rfl hg141 rfl (r_not rfl) ?_
   refine wv rfl (p_t rfl hg141 rfl) ?_
   obtain rfl := Option.some.inj hx
   exact mid_nil () ⟨rfl, rfl, rfl, rfl, rfl, trivial⟩ hM
  ·
   replace hx := xif_f hg141 hx
   refine gs rfl (isB_no hg141) rfl ?_
   refine gs rfl (isB_no hg141) rfl ?_
   refine gs rfl (isB_no hg141) rfl ?_
   refine gs rfl (isB_no hg141) rfl ?_
   refine gs rfl (isB_no hg141) rfl ?_
   refine wv rfl (p_f rfl hg141 rfl) ?_
   obtain rfl := Option.some.inj hx
   exact mid_nil () ⟨rfl, rfl, rfl, rfl, rfl, trivial⟩ hM
 rintro _ w153 hM
 replace hx := hx147
 refine wl_sq ?_
 refine wc_cond rfl (fun hc154 => ?_) (fun hc154 => ?_)
 ·
  replace hx := xif_t hc154 hx
  refine wc_skip ?_
  refine sq_n ?_
  refine wc_seq ?_
  refine wc_block ?_
  refine wc_region ?_
  refine wmv rfl rfl ?_
  refine wmv rfl rfl ?_
  obtain ⟨r157, h158, hx⟩ := bind_some' hx
  refine w_call rfl rfl (hM.callR (l := [oBox b_r_ #[s128.v, (.int .i64 n124), (.bool b125)] 87]) fun X S oL hS hR => ct_impl_reader_num _ X S b_r_ (⟨l123, n124, b125⟩ : DReader) s128 hS (hR _ (.head _)) oL h158) ?_
  rintro _ w159 ⟨s160, rfl, hM⟩
  dsimp only [List.cons_append, List.nil_append] at hM
  replace hM := hM.p1
  obtain ⟨hg164, hx⟩ := xg_some hx
  refine w_push (f := fI) r157.1 rfl rfl Tryz.underlying23 sz3 rfl rfl rfl rfl (fun _ => rfl) hM (fun _ => zP (pV _ rfl) zN) rfl hg164 rfl ?_; intro u162 s163 w161 hM
  refine was rfl rfl ?_
  refine wl_nil ?_
  refine bk_n ?_
  refine sq_n ?_
  refine wc_region ?_
  refine wmv rfl rfl ?_
  obtain ⟨hg168, hx⟩ := xg_some hx
  refine wv rfl (r_add rfl rfl hg168) ?_
  refine was rfl rfl ?_
  refine wl_nil ?_
  obtain rfl := Option.some.inj hx
  replace hM := hM.p1
  have hM := hM.fewer (rsC (.head _) rsN)
  replace hM : St ⟨w, X, S⟩ [oBox b_r_ #[s160.v, (.int .i64 r157.2.at_), (.bool r157.2.bad)] 87, oC (cSl 1 fI (out121 ++ [r157.1])) s163.v] [rV s160.v (cSl 1 fY r157.2.b)] _ := hM
  exact lp_end (m133, out121 ++ [r157.1], i122 + 1, r157.2.b, r157.2.at_, r157.2.bad, s163, s160) (Nat.lt_succ_self _) ⟨rfl, rfl, rfl, rfl, trivial⟩ ⟨hM, hx135⟩
 ·
  replace hx := xif_f hc154 hx
  refine wc_exit ?_
  refine sq_exit ?_
  refine lp1_exit ?_
  obtain rfl := Option.some.inj hx
  obtain rfl := Option.some.inj hx135
  replace hx := hx119
  try dsimp only [Sum.elim_inl, Sum.elim_inr] at hx
  refine bk_here ?_
  refine sq_n ?_
  refine wc_sr ?_
  refine wmv rfl rfl ?_
  refine was rfl rfl ?_
  refine wl_sq ?_
  refine wc_ret ?_
  obtain rfl := Option.some.inj hx
  refine fin_ret [s127.v] ⟨rfl, trivial⟩ ?_
  replace hM := hM.p1
  replace hM := hM.t2
  have hM := hM.fewer (rsC (.head _) rsN)
  exact ⟨(s127, s128), rfl, hM.gives⟩

noncomputable def x_impl_reader_op_b0 (r5 : Int × DReader) (o89 : List DPart) (i90 : Int) (l91 : List UInt8) (n92 : Int) (b93 : Bool) : Option (Lr (List DPart × Int × List UInt8 × Int × Bool) (List DPart × List UInt8 × Int × Bool)) :=
  Option.bind (bif decide (i90 < r5.1) then (some (!b93)) else (some false)) fun c177 => bif c177 then (Option.bind (x_impl_reader_num (⟨l91, n92, b93⟩ : DReader)) fun r190 => xg (0 ≤ r190.1 ∧ 0 < (4 : Int)) <| bif decide ((r190.1 % 4) = 2) then (xg (0 ≤ r190.1 ∧ r190.1 ≤ 9223372036854775807 ∧ 0 < (4 : Int)) <| Option.bind (x_impl_reader_nums r190.2 (r190.1 / 4)) fun r212 => xg (o89.length < 1099511627776) <| xg (inI (i90 + 1)) <| some (Lr.go (o89 ++ [(⟨r190.1 % 4, 0, r212.1⟩ : DPart)], i90 + 1, r212.2.b, r212.2.at_, r212.2.bad))) else (xg (0 ≤ r190.1 ∧ r190.1 ≤ 9223372036854775807 ∧ 0 < (4 : Int)) <| xg (o89.length < 1099511627776) <| xg (inI (i90 + 1)) <| some (Lr.go (o89 ++ [(⟨r190.1 % 4, r190.1 / 4, []⟩ : DPart)], i90 + 1, r190.2.b, r190.2.at_, r190.2.bad)))) else (some (Lr.out (o89, l91, n92, b93)))
noncomputable def x_impl_reader_op_f0 (r5 : Int × DReader) (s249 : List DPart × Int × List UInt8 × Int × Bool) : Option (Lr (List DPart × Int × List UInt8 × Int × Bool) (List DPart × List UInt8 × Int × Bool)) := x_impl_reader_op_b0 r5 s249.1 s249.2.1 s249.2.2.1 s249.2.2.2.1 s249.2.2.2.2
noncomputable def x_impl_reader_op (r_ : DReader) : Option (List DPart × DReader) :=
  Option.bind (x_impl_reader_num r_) fun r5 => Option.bind (iter (x_impl_reader_op_f0 r5) ([], 0, r5.2.b, r5.2.at_, r5.2.bad)) fun (y250 : List DPart × List UInt8 × Int × Bool) => some (y250.1, (⟨y250.2.1, y250.2.2.1, y250.2.2.2⟩ : DReader))
theorem ct_impl_reader_op (w : World) (X S : Bs) (b_r_ : Nat) (r_ : DReader) (s_r__0 : Sv) (hS : ∀ b, S b → b < w.heap.size ∧ ¬ X b) (a_r__0 : (cSl 1 fY r_.b).rd S w s_r__0.v) (oL : Sep [oBox b_r_ #[s_r__0.v, (.int .i64 r_.at_), (.bool r_.bad)] 87] X w) {r : List DPart × DReader} (hx : x_impl_reader_op r_ = some r) :
  Ret Tryz.prog 47 [(.pointer (some ⟨b_r_, 0, none⟩))] w (fun u w' => ∃ y : Sv × Sv, u = y.1.v ∧ Gives X S w [oC (cSl 3 fDPart r.1) y.1.v, oBox b_r_ #[y.2.v, (.int .i64 r.2.at_), (.bool r.2.bad)] 87] [rV y.2.v (cSl 1 fY r.2.b)] w') := by
 unfold x_impl_reader_op at hx
 refine enter Tryz.func47 rfl Tryz.ntmps47 (by kernel_rfl) rfl ?_
 have hM := St.enter oL hS
 have hM := hM.addE (r := rV s_r__0.v (cSl 1 fY r_.b)) a_r__0
 refine wc_sr ?_
 refine was rfl rfl ?_
 refine wl_sq ?_
 refine wc_sr ?_
 refine was rfl rfl ?_
 refine wl_sq ?_
 refine wc_sr ?_
 refine wmv rfl rfl ?_
 obtain ⟨r259, h260, hx⟩ := bind_some' hx
 refine w_call rfl rfl (hM.callR (l := [oBox b_r_ #[s_r__0.v, (.int .i64 r_.at_), (.bool r_.bad)] 87]) fun X S oL hS hR => ct_impl_reader_num _ X S b_r_ r_ s_r__0 hS (hR _ (.head _)) oL h260) ?_
 rintro _ w261 ⟨s262, rfl, hM⟩
 dsimp only [List.cons_append, List.nil_append] at hM
 refine was rfl rfl ?_
 refine wl_sq ?_
 refine wc_seq ?_
 refine wc_sr ?_
 refine was rfl rfl ?_
 refine wl_sq ?_
 refine wc_block ?_
 obtain ⟨y265, hx, hx266⟩ := bind_some' hx
 have hM := hM.nil0 (T := DPart) 3 fDPart
 replace hM := hM.p1
 have hM := hM.fewer (rsC (.head _) rsN)
 replace hM : St ⟨w, X, S⟩ [oBox b_r_ #[s262.v, (.int .i64 r259.2.at_), (.bool r259.2.bad)] 87, oC (cSl 3 fDPart ([] : List DPart)) nS.v] [rV s262.v (cSl 1 fY r259.2.b)] _ := hM
 obtain ⟨m278, hx⟩ := iter_run hx
 refine wc_loop (un fun (m276 : Nat) => un fun (o268 : List DPart) => un fun (i269 : Int) => un fun (l270 : List UInt8) => un fun (n271 : Int) => un fun (b272 : Bool) => un fun (s274 : Sv) => fun (s275 : Sv) => [(0, (.pointer (some ⟨b_r_, 0, none⟩))), (3, s274.v), (4, (.int .i64 r259.1)), (5, (.int .i64 i269))]) (un fun (m276 : Nat) => un fun (o268 : List DPart) => un fun (i269 : Int) => un fun (l270 : List UInt8) => un fun (n271 : Int) => un fun (b272 : Bool) => un fun (s274 : Sv) => fun (s275 : Sv) w' => St ⟨w, X, S⟩ [oBox b_r_ #[s275.v, (.int .i64 n271), (.bool b272)] 87, oC (cSl 3 fDPart o268) s274.v] [rV s275.v (cSl 1 fY l270)] w' ∧ iterN _ m276 (o268, i269, l270, n271, b272) = some y265) (fun p => p.1) (m278, [], 0, r259.2.b, r259.2.at_, r259.2.bad, nS, s262) ⟨rfl, rfl, rfl, rfl, trivial⟩ ⟨hM, hx⟩ ?_
 rintro ⟨m276, o268, i269, l270, n271, b272, s274, s275⟩ w279 ⟨hM, hx⟩
 obtain ⟨m280, z281, rfl, hx, hx282⟩ := iterN_step hx
 unfold x_impl_reader_op_f0 x_impl_reader_op_b0 at hx
 try dsimp only at hx
 refine wc_seq ?_
 refine wc_sr ?_
 refine wmv rfl rfl ?_
 refine wmv rfl rfl ?_
 refine wv rfl (r_lss rfl rfl) ?_
 refine wmv rfl rfl ?_
 obtain ⟨c287, hx, hx294⟩ := bind_some' hx
 refine wl_mid 6 (fun _ : Unit => [(19, (.bool c287)), (0, (.pointer (some ⟨b_r_, 0, none⟩))), (3, s274.v), (4, (.int .i64 r259.1)), (5, (.int .i64 i269))]) (fun _ w' => St ⟨w, X, S⟩ [oBox b_r_ #[s275.v, (.int .i64 n271), (.bool b272)] 87, oC (cSl 3 fDPart o268) s274.v] [rV s275.v (cSl 1 fY l270)] w') ?_ ?_
 ·
  rcases Bool.eq_false_or_eq_true (decide (i269 < r259.1)) with hg288 | hg288
  ·
   replace hx := xif_t hg288 hx
   refine gv rfl hg288 rfl (r_move rfl) ?_
   refine gv rfl hg288 rfl (r_nilck rfl) ?_
   refine gv rfl hg288 rfl (r_fld Tryz.underlying87 rfl rfl sz4 rfl) ?_
   refine gv rfl hg288 rfl (r_ldB Tryz.underlying4 rfl rfl hM (.head _) rfl) ?_
   refine gv rfl hg288 rfl (r_not rfl) ?_
   refine wv rfl (p_t rfl hg288 rfl) ?_
   obtain rfl := Option.some.inj hx
   exact mid_nil () ⟨rfl, rfl, rfl, rfl, rfl, trivial⟩ hM
  ·
   replace hx := xif_f hg288 hx
   refine gs rfl (isB_no hg288) rfl ?_
   refine gs rfl (isB_no hg288) rfl ?_
   refine gs rfl (isB_no hg288) rfl ?_
   refine gs rfl (isB_no hg288) rfl ?_
   refine gs rfl (isB_no hg288) rfl ?_
   refine wv rfl (p_f rfl hg288 rfl) ?_
   obtain rfl := Option.some.inj hx
   exact mid_nil () ⟨rfl, rfl, rfl, rfl, rfl, trivial⟩ hM
 rintro _ w300 hM
 replace hx := hx294
 refine wl_sq ?_
 refine wc_cond rfl (fun hc301 => ?_) (fun hc301 => ?_)
 ·
  replace hx := xif_t hc301 hx
  refine wc_skip ?_
  refine sq_n ?_
  refine wc_seq ?_
  refine wc_block ?_
  refine wc_sr ?_
  refine wmv rfl rfl ?_
  obtain ⟨r303, h304, hx⟩ := bind_some' hx
  refine w_call rfl rfl (hM.callR (l := [oBox b_r_ #[s275.v, (.int .i64 n271), (.bool b272)] 87]) fun X S oL hS hR => ct_impl_reader_num _ X S b_r_ (⟨l270, n271, b272⟩ : DReader) s275 hS (hR _ (.head _)) oL h304) ?_
  rintro _ w305 ⟨s306, rfl, hM⟩
  dsimp only [List.cons_append, List.nil_append] at hM
  refine was rfl rfl ?_
  refine wl_sq ?_
  refine wc_sr ?_
  refine wmv rfl rfl ?_
  obtain ⟨hg310, hx⟩ := xg_some hx
  refine wv rfl (r_rem rfl rfl hg310) ?_
  refine wv rfl (r_build (cells := #[(.int .i64 (r303.1 % 4)), (.int .i64 0), (.slice none 0 0)]) rfl (by kernel_rfl)) ?_
  refine w_ex rfl (x_alloc sz95 hM ?_); intro b313 w312 hR314 hM
  dsimp only [Value.cells] at hM
  refine w_exu (x_stB #[(.int .i64 (r303.1 % 4)), (.int .i64 0), (.slice none 0 0)] sz95 rfl rfl rfl rfl rfl rfl hM ?_); intro w316 hM
  refine wl_sq ?_
  refine wc_seq ?_
  refine wc_sr ?_
  refine wv rfl (r_fld Tryz.underlying95 rfl rfl sz3 rfl) ?_
  refine wv rfl (r_ldB Tryz.underlying3 rfl rfl hM (.head _) rfl) ?_
  refine wv rfl (r_eql rfl rfl) ?_
  refine wl_sq ?_
  refine wc_cond rfl (fun hc321 => ?_) (fun hc321 => ?_)
  ·
   replace hx := xif_t hc321 hx
   refine wc_region ?_
   refine wmv rfl rfl ?_
   refine wmv rfl rfl ?_
   obtain ⟨hg325, hx⟩ := xg_some hx
   refine wv rfl (r_quo rfl rfl hg325) ?_
   replace hM := hM.p1
   obtain ⟨r326, h327, hx⟩ := bind_some' hx
   refine w_call rfl rfl (hM.callR (l := [oBox b_r_ #[s306.v, (.int .i64 r303.2.at_), (.bool r303.2.bad)] 87]) fun X S oL hS hR => ct_impl_reader_nums _ X S b_r_ r303.2 s306 (r303.1 / 4) hS (hR _ (.head _)) oL h327) ?_
   rintro _ w328 ⟨⟨s329, s330⟩, rfl, hM⟩
   dsimp only [List.cons_append, List.nil_append] at hM
   refine wv rfl (r_fld Tryz.underlying95 rfl rfl sz23 rfl) ?_
   replace hM := hM.p2
   refine w_exu (x_stB #[(.int .i64 (r303.1 % 4)), (.int .i64 0), s329.v] sz23 rfl rfl rfl rfl rfl rfl hM ?_); intro w333 hM
   refine wl_sq ?_
   refine wc_region ?_
   refine wmv rfl rfl ?_
   refine wv rfl (r_ldBS Tryz.underlying95 sz95 rfl (us := [(.int .i64 (r303.1 % 4)), (.int .i64 0), s329.v]) rfl hM (.head _) rfl) ?_
   replace hM := hM.p1.p3
   obtain ⟨hg340, hx⟩ := xg_some hx
   refine w_push (f := fDPart) (⟨r303.1 % 4, 0, r326.1⟩ : DPart) rfl rfl Tryz.underlying48 sz95 rfl rfl rfl rfl (fun _ => rfl) hM (fun _ => zP (pV _ rfl) (zP (pV _ rfl) (zO zN))) rfl hg340 rfl ?_; intro u338 s339 w337 hM
   refine was rfl rfl ?_
   refine wl_nil ?_
   refine bk_n ?_
   refine sq_n ?_
   refine wc_region ?_
   refine wmv rfl rfl ?_
   obtain ⟨hg344, hx⟩ := xg_some hx
   refine wv rfl (r_add rfl rfl hg344) ?_
   refine was rfl rfl ?_
   refine wl_nil ?_
   obtain rfl := Option.some.inj hx
   replace hM := hM.p2
   replace hM := hM.t2
   have hM := hM.fewer (rsC (.head _) rsN)
   replace hM : St ⟨w, X, S⟩ [oBox b_r_ #[s330.v, (.int .i64 r326.2.at_), (.bool r326.2.bad)] 87, oC (cSl 3 fDPart (o268 ++ [(⟨r303.1 % 4, 0, r326.1⟩ : DPart)])) s339.v] [rV s330.v (cSl 1 fY r326.2.b)] _ := hM
   exact lp_end (m280, o268 ++ [(⟨r303.1 % 4, 0, r326.1⟩ : DPart)], i269 + 1, r326.2.b, r326.2.at_, r326.2.bad, s339, s330) (Nat.lt_succ_self _) ⟨rfl, rfl, rfl, rfl, trivial⟩ ⟨hM, hx282⟩
  ·
   replace hx := xif_f hc321 hx
   refine wc_region ?_
   refine wmv rfl rfl ?_
   obtain ⟨hg348, hx⟩ := xg_some hx
   refine wv rfl (r_quo rfl rfl hg348) ?_
   refine wv rfl (r_fld Tryz.underlying95 rfl rfl sz3 rfl) ?_
   refine w_exu (x_stB #[(.int .i64 (r303.1 % 4)), (.int .i64 (r303.1 / 4)), (.slice none 0 0)] sz3 rfl rfl rfl rfl rfl rfl hM ?_); intro w350 hM
   refine wl_sq ?_
   refine wc_region ?_
   refine wmv rfl rfl ?_
   refine wv rfl (r_ldBS Tryz.underlying95 sz95 rfl (us := [(.int .i64 (r303.1 % 4)), (.int .i64 (r303.1 / 4)), (.slice none 0 0)]) rfl hM (.head _) rfl) ?_
   replace hM := hM.p2
   obtain ⟨hg357, hx⟩ := xg_some hx
   refine w_push (f := fDPart) (⟨r303.1 % 4, r303.1 / 4, []⟩ : DPart) rfl rfl Tryz.underlying48 sz95 rfl rfl rfl rfl (fun _ => rfl) hM (fun _ => zP (pV _ rfl) (zP (pV _ rfl) (zP (pN _ _) zN))) rfl hg357 rfl ?_; intro u355 s356 w354 hM
   refine was rfl rfl ?_
   refine wl_nil ?_
   refine bk_n ?_
   refine sq_n ?_
   refine wc_region ?_
   refine wmv rfl rfl ?_
   obtain ⟨hg361, hx⟩ := xg_some hx
   refine wv rfl (r_add rfl rfl hg361) ?_
   refine was rfl rfl ?_
   refine wl_nil ?_
   obtain rfl := Option.some.inj hx
   replace hM := hM.p2
   replace hM := hM.t2
   have hM := hM.fewer (rsC (.head _) rsN)
   replace hM : St ⟨w, X, S⟩ [oBox b_r_ #[s306.v, (.int .i64 r303.2.at_), (.bool r303.2.bad)] 87, oC (cSl 3 fDPart (o268 ++ [(⟨r303.1 % 4, r303.1 / 4, []⟩ : DPart)])) s356.v] [rV s306.v (cSl 1 fY r303.2.b)] _ := hM
   exact lp_end (m280, o268 ++ [(⟨r303.1 % 4, r303.1 / 4, []⟩ : DPart)], i269 + 1, r303.2.b, r303.2.at_, r303.2.bad, s356, s306) (Nat.lt_succ_self _) ⟨rfl, rfl, rfl, rfl, trivial⟩ ⟨hM, hx282⟩
 ·
  replace hx := xif_f hc301 hx
  refine wc_exit ?_
  refine sq_exit ?_
  refine lp1_exit ?_
  obtain rfl := Option.some.inj hx
  obtain rfl := Option.some.inj hx282
  replace hx := hx266
  try dsimp only [Sum.elim_inl, Sum.elim_inr] at hx
  refine bk_here ?_
  refine sq_n ?_
  refine wc_sr ?_
  refine wmv rfl rfl ?_
  refine was rfl rfl ?_
  refine wl_sq ?_
  refine wc_ret ?_
  obtain rfl := Option.some.inj hx
  refine fin_ret [s274.v] ⟨rfl, trivial⟩ ?_
  replace hM := hM.p1
  replace hM := hM.t2
  have hM := hM.fewer (rsC (.head _) rsN)
  exact ⟨(s274, s275), rfl, hM.gives⟩

noncomputable def x_bytes_Equal (a : List UInt8) (b : List UInt8) : Option Bool :=
  some (decide ((⟨a.toArray⟩ : ByteArray) = (⟨b.toArray⟩ : ByteArray)))
theorem ct_bytes_Equal (w : World) (X S : Bs) (a : List UInt8) (s_a : Sv) (b : List UInt8) (s_b : Sv) (hS : ∀ b, S b → b < w.heap.size ∧ ¬ X b) (a_a_0 : (cSl 1 fY a).rd S w s_a.v) (a_b_0 : (cSl 1 fY b).rd S w s_b.v) (oL : Sep [] X w) {r : Bool} (hx : x_bytes_Equal a b = some r) :
  Ret Tryz.prog 48 [s_a.v, s_b.v] w (fun u w' => ∃ _ : Unit, u = (.bool r) ∧ Gives X S w [] [] w') := by
 unfold x_bytes_Equal at hx
 refine enter Tryz.func48 rfl Tryz.ntmps48 (by kernel_rfl) rfl ?_
 have hM := St.enter oL hS
 have hM := hM.addE (r := rV s_a.v (cSl 1 fY a)) a_a_0
 have hM := hM.addE (r := rV s_b.v (cSl 1 fY b)) a_b_0
 refine wc_sr ?_
 refine was rfl rfl ?_
 refine wl_sq ?_
 refine wc_sr ?_
 refine wmv rfl rfl ?_
 refine wv rfl (r_b2s Tryz.underlying22 Tryz.underlying9 Tryz.underlying5 rfl (hM.seeR (.tail _ (.head _)))) ?_
 refine wmv rfl rfl ?_
 refine wv rfl (r_b2s Tryz.underlying22 Tryz.underlying9 Tryz.underlying5 rfl (hM.seeR (.head _))) ?_
 refine wv rfl (r_eqls rfl rfl) ?_
 refine was rfl rfl ?_
 refine wl_sq ?_
 refine wc_ret ?_
 obtain rfl := Option.some.inj hx
 refine fin_ret [(.bool (decide ((⟨a.toArray⟩ : ByteArray) = (⟨b.toArray⟩ : ByteArray))))] ⟨rfl, trivial⟩ ?_
 replace hM := hM.t0
 have hM := hM.fewer rsN
 exact ⟨(), rfl, hM.gives⟩

noncomputable def x_impl_BytesDoc_b0 (r42 : Int × DReader) (_b : List UInt8) (i107 : Int) (l108 : List UInt8) (n109 : Int) (b110 : Bool) (l111 : List DEntry) : Option (Lr (Int × List UInt8 × Int × Bool × List DEntry) (List UInt8 × Int × Bool × List DEntry)) :=
  Option.bind (bif decide (i107 < r42.1) then (some (!b110)) else (some false)) fun c176 => bif c176 then (Option.bind (x_impl_reader_num (⟨l108, n109, b110⟩ : DReader)) fun r189 => Option.bind (x_impl_reader_num r189.2) fun r194 => Option.bind (x_impl_reader_op r194.2) fun r206 => xg (l111.length < 1099511627776) <| xg (inI (i107 + 1)) <| some (Lr.go (i107 + 1, r206.2.b, r206.2.at_, r206.2.bad, l111 ++ [(⟨r189.1, r194.1, r206.1⟩ : DEntry)]))) else (some (Lr.out (l108, n109, b110, l111)))
noncomputable def x_impl_BytesDoc_f0 (r42 : Int × DReader) (b : List UInt8) (s229 : Int × List UInt8 × Int × Bool × List DEntry) : Option (Lr (Int × List UInt8 × Int × Bool × List DEntry) (List UInt8 × Int × Bool × List DEntry)) := x_impl_BytesDoc_b0 r42 b s229.1 s229.2.1 s229.2.2.1 s229.2.2.2.1 s229.2.2.2.2
noncomputable def x_impl_BytesDoc_b1 (r235 : Int × DReader) (_b : List UInt8) (i298 : Int) (l299 : List UInt8) (n300 : Int) (b301 : Bool) (l302 : List DSeen) : Option (Lr (Int × List UInt8 × Int × Bool × List DSeen) (List UInt8 × Int × Bool × List DSeen)) :=
  Option.bind (bif decide (i298 < r235.1) then (some (!b301)) else (some false)) fun c365 => bif c365 then (Option.bind (x_impl_reader_num (⟨l299, n300, b301⟩ : DReader)) fun r378 => Option.bind (x_impl_reader_num r378.2) fun r383 => Option.bind (x_impl_reader_num r383.2) fun r395 => xg (l302.length < 1099511627776) <| xg (inI (i298 + 1)) <| some (Lr.go (i298 + 1, r395.2.b, r395.2.at_, r395.2.bad, l302 ++ [(⟨r378.1, r383.1, r395.1⟩ : DSeen)]))) else (some (Lr.out (l299, n300, b301, l302)))
noncomputable def x_impl_BytesDoc_f1 (r235 : Int × DReader) (b : List UInt8) (s416 : Int × List UInt8 × Int × Bool × List DSeen) : Option (Lr (Int × List UInt8 × Int × Bool × List DSeen) (List UInt8 × Int × Bool × List DSeen)) := x_impl_BytesDoc_b1 r235 b s416.1 s416.2.1 s416.2.2.1 s416.2.2.2.1 s416.2.2.2.2
noncomputable def x_impl_BytesDoc (name : ByteArray) (b : List UInt8) : Option (DDoc × Bool) :=
  Option.bind (x_impl_reader_num (⟨b, 0, false⟩ : DReader)) fun r15 => Option.bind (x_impl_reader_num r15.2) fun r28 => Option.bind (x_impl_reader_nums r28.2 r28.1) fun r32 => Option.bind (x_impl_reader_num r32.2) fun r42 => Option.bind (iter (x_impl_BytesDoc_f0 r42 b) (0, r42.2.b, r42.2.at_, r42.2.bad, [])) fun (y230 : List UInt8 × Int × Bool × List DEntry) => Option.bind (x_impl_reader_num (⟨y230.1, y230.2.1, y230.2.2.1⟩ : DReader)) fun r235 => Option.bind (iter (x_impl_BytesDoc_f1 r235 b) (0, r235.2.b, r235.2.at_, r235.2.bad, [])) fun (y417 : List UInt8 × Int × Bool × List DSeen) => Option.bind (x_impl_DocBytes (⟨name, r15.1, r32.1, y230.2.2.2, y417.2.2.2⟩ : DDoc)) fun r422 => Option.bind (bif y417.2.2.1 then (some true) else (some (!r422.2))) fun c437 => Option.bind (bif c437 then (some true) else (Option.bind (x_bytes_Equal r422.1 b) fun r455 => some (!r455))) fun c444 => bif c444 then (some ((⟨ByteArray.empty, 0, [], [], []⟩ : DDoc), false)) else (some ((⟨name, r15.1, r32.1, y230.2.2.2, y417.2.2.2⟩ : DDoc), true))
theorem ct_impl_BytesDoc (w : World) (X S : Bs) (name : ByteArray) (b : List UInt8) (s_b : Sv) (hS : ∀ b, S b → b < w.heap.size ∧ ¬ X b) (a_b_0 : (cSl 1 fY b).rd S w s_b.v) (oL : Sep [] X w) {r : DDoc × Bool} (hx : x_impl_BytesDoc name b = some r) :
  Ret Tryz.prog 18 [(.string name), s_b.v] w (fun u w' => ∃ y : Sv × Sv × Sv, u = .tuple #[.agg #[(.string r.1.name), (.int .i64 r.1.from_), y.1.v, y.2.1.v, y.2.2.v], (.bool r.2)] ∧ Gives X S w [oC (cSl 1 fI r.1.text) y.1.v, oC (cSl 3 fDEntry r.1.list) y.2.1.v, oC (cSl 3 fDSeen r.1.seen) y.2.2.v] [] w') := by
 unfold x_impl_BytesDoc at hx
 refine enter Tryz.func18 rfl Tryz.ntmps18 (by kernel_rfl) rfl ?_
 have hM := St.enter oL hS
 have hM := hM.addE (r := rV s_b.v (cSl 1 fY b)) a_b_0
 refine wc_sr ?_
 refine w_ex rfl (x_alloc sz27 hM ?_); intro b469 w468 hR470 hM
 dsimp only [Value.cells] at hM
 refine was rfl rfl ?_
 refine wl_sq ?_
 refine wc_sr ?_
 refine wmv rfl rfl ?_
 refine wv rfl (r_build (cells := #[s_b.v, (.int .i64 0), (.bool false)]) rfl (by kernel_rfl)) ?_
 refine w_ex rfl (x_box rfl hM ?_); intro b476 w475 hR477 hM
 dsimp only [Value.cells] at hM
 refine was rfl rfl ?_
 refine wl_sq ?_
 refine wc_sr ?_
 refine wmv rfl rfl ?_
 refine wmv rfl rfl ?_
 obtain ⟨r482, h483, hx⟩ := bind_some' hx
 refine w_call rfl rfl (hM.callR (l := [oBox b476 #[s_b.v, (.int .i64 0), (.bool false)] 87]) fun X S oL hS hR => ct_impl_reader_num _ X S b476 (⟨b, 0, false⟩ : DReader) s_b hS (hR _ (.head _)) oL h483) ?_
 rintro _ w484 ⟨s485, rfl, hM⟩
 dsimp only [List.cons_append, List.nil_append] at hM
 refine wv rfl (r_build (cells := #[(.string name), (.int .i64 r482.1), (.slice none 0 0), (.slice none 0 0), (.slice none 0 0)]) rfl (by kernel_rfl)) ?_
 refine w_ex rfl (x_alloc sz27 hM ?_); intro b488 w487 hR489 hM
 dsimp only [Value.cells] at hM
 refine w_exu (x_stB #[(.string name), (.int .i64 r482.1), (.slice none 0 0), (.slice none 0 0), (.slice none 0 0)] sz27 rfl rfl rfl rfl rfl rfl hM ?_); intro w491 hM
 refine wl_sq ?_
 refine wc_sr ?_
 refine wmv rfl rfl ?_
 refine wmv rfl rfl ?_
 replace hM := hM.p1
 obtain ⟨r495, h496, hx⟩ := bind_some' hx
 refine w_call rfl rfl (hM.callR (l := [oBox b476 #[s485.v, (.int .i64 r482.2.at_), (.bool r482.2.bad)] 87]) fun X S oL hS hR => ct_impl_reader_num _ X S b476 r482.2 s485 hS (hR _ (.head _)) oL h496) ?_
 rintro _ w497 ⟨s498, rfl, hM⟩
 dsimp only [List.cons_append, List.nil_append] at hM
 obtain ⟨r499, h500, hx⟩ := bind_some' hx
 refine w_call rfl rfl (hM.callR (l := [oBox b476 #[s498.v, (.int .i64 r495.2.at_), (.bool r495.2.bad)] 87]) fun X S oL hS hR => ct_impl_reader_nums _ X S b476 r495.2 s498 r495.1 hS (hR _ (.head _)) oL h500) ?_
 rintro _ w501 ⟨⟨s502, s503⟩, rfl, hM⟩
 dsimp only [List.cons_append, List.nil_append] at hM
 refine wv rfl (r_fld Tryz.underlying27 rfl rfl sz23 rfl) ?_
 replace hM := hM.p2
 refine w_exu (x_stB #[(.string name), (.int .i64 r482.1), s502.v, (.slice none 0 0), (.slice none 0 0)] sz23 rfl rfl rfl rfl rfl rfl hM ?_); intro w506 hM
 refine wl_sq ?_
 refine wc_sr ?_
 refine wmv rfl rfl ?_
 replace hM := hM.p2
 obtain ⟨r509, h510, hx⟩ := bind_some' hx
 refine w_call rfl rfl (hM.callR (l := [oBox b476 #[s503.v, (.int .i64 r499.2.at_), (.bool r499.2.bad)] 87]) fun X S oL hS hR => ct_impl_reader_num _ X S b476 r499.2 s503 hS (hR _ (.head _)) oL h510) ?_
 rintro _ w511 ⟨s512, rfl, hM⟩
 dsimp only [List.cons_append, List.nil_append] at hM
 refine was rfl rfl ?_
 refine wl_sq ?_
 refine wc_seq ?_
 refine wc_sr ?_
 refine was rfl rfl ?_
 refine wl_sq ?_
 refine wc_block ?_
 obtain ⟨y515, hx, hx516⟩ := bind_some' hx
 have hM := hM.nil0 (T := DEntry) 3 fDEntry
 replace hM := hM.p3.p3.p3.p4
 have hM := hM.fewer (rsC (.head _) (rsC (.tail _ (.tail _ (.tail _ (.tail _ (.head _))))) rsN))
 replace hM : St ⟨w, X, S⟩ [oBox b469 #[(.string ByteArray.empty), (.int .i64 0), (.slice none 0 0), (.slice none 0 0), (.slice none 0 0)] 27, oBox b476 #[s512.v, (.int .i64 r509.2.at_), (.bool r509.2.bad)] 87, oBox b488 #[(.string name), (.int .i64 r482.1), s502.v, nS.v, (.slice none 0 0)] 27, oC (cSl 1 fI r499.1) s502.v, oC (cSl 3 fDEntry ([] : List DEntry)) nS.v] [rV s512.v (cSl 1 fY r509.2.b), rV s_b.v (cSl 1 fY b)] _ := hM
 obtain ⟨m528, hx⟩ := iter_run hx
 refine wc_loop (un fun (m526 : Nat) => un fun (i518 : Int) => un fun (l519 : List UInt8) => un fun (n520 : Int) => un fun (b521 : Bool) => un fun (l522 : List DEntry) => un fun (s523 : Sv) => fun (s525 : Sv) => [(1, s_b.v), (4, (.pointer (some ⟨b469, 0, none⟩))), (6, (.pointer (some ⟨b476, 0, none⟩))), (7, (.pointer (some ⟨b488, 0, none⟩))), (8, (.int .i64 r509.1)), (9, (.int .i64 i518))]) (un fun (m526 : Nat) => un fun (i518 : Int) => un fun (l519 : List UInt8) => un fun (n520 : Int) => un fun (b521 : Bool) => un fun (l522 : List DEntry) => un fun (s523 : Sv) => fun (s525 : Sv) w' => St ⟨w, X, S⟩ [oBox b469 #[(.string ByteArray.empty), (.int .i64 0), (.slice none 0 0), (.slice none 0 0), (.slice none 0 0)] 27, oBox b476 #[s523.v, (.int .i64 n520), (.bool b521)] 87, oBox b488 #[(.string name), (.int .i64 r482.1), s502.v, s525.v, (.slice none 0 0)] 27, oC (cSl 1 fI r499.1) s502.v, oC (cSl 3 fDEntry l522) s525.v] [rV s523.v (cSl 1 fY l519), rV s_b.v (cSl 1 fY b)] w' ∧ iterN _ m526 (i518, l519, n520, b521, l522) = some y515) (fun p => p.1) (m528, 0, r509.2.b, r509.2.at_, r509.2.bad, [], s512, nS) ⟨rfl, rfl, rfl, rfl, rfl, rfl, trivial⟩ ⟨hM, hx⟩ ?_
 rintro ⟨m526, i518, l519, n520, b521, l522, s523, s525⟩ w529 ⟨hM, hx⟩
 obtain ⟨m530, z531, rfl, hx, hx532⟩ := iterN_step hx
 unfold x_impl_BytesDoc_f0 x_impl_BytesDoc_b0 at hx
 try dsimp only at hx
 refine wc_seq ?_
 refine wc_sr ?_
 refine wmv rfl rfl ?_
 refine wmv rfl rfl ?_
 refine wv rfl (r_lss rfl rfl) ?_
 refine wmv rfl rfl ?_
 obtain ⟨c537, hx, hx544⟩ := bind_some' hx
 refine wl_mid 6 (fun _ : Unit => [(38, (.bool c537)), (1, s_b.v), (4, (.pointer (some ⟨b469, 0, none⟩))), (6, (.pointer (some ⟨b476, 0, none⟩))), (7, (.pointer (some ⟨b488, 0, none⟩))), (8, (.int .i64 r509.1)), (9, (.int .i64 i518))]) (fun _ w' => St ⟨w, X, S⟩ [oBox b469 #[(.string ByteArray.empty), (.int .i64 0), (.slice none 0 0), (.slice none 0 0), (.slice none 0 0)] 27, oBox b476 #[s523.v, (.int .i64 n520), (.bool b521)] 87, oBox b488 #[(.string name), (.int .i64 r482.1), s502.v, s525.v, (.slice none 0 0)] 27, oC (cSl 1 fI r499.1) s502.v, oC (cSl 3 fDEntry l522) s525.v] [rV s523.v (cSl 1 fY l519), rV s_b.v (cSl 1 fY b)] w') ?_ ?_
 ·
  rcases Bool.eq_false_or_eq_true (decide (i518 < r509.1)) with hg538 | hg538
  ·
   replace hx := xif_t hg538 hx
   refine gv rfl hg538 rfl (r_move rfl) ?_
   refine gv rfl hg538 rfl (r_nilck rfl) ?_
   refine gv rfl hg538 rfl (r_fld Tryz.underlying87 rfl rfl sz4 rfl) ?_
   refine gv rfl hg538 rfl (r_ldB Tryz.underlying4 rfl rfl hM (.tail _ (.head _)) rfl) ?_
   refine gv rfl hg538 rfl (r_not rfl) ?_
   refine wv rfl (p_t rfl hg538 rfl) ?_
   obtain rfl := Option.some.inj hx
   exact mid_nil () ⟨rfl, rfl, rfl, rfl, rfl, rfl, rfl, trivial⟩ hM
  ·
   replace hx := xif_f hg538 hx
   refine gs rfl (isB_no hg538) rfl ?_
   refine gs rfl (isB_no hg538) rfl ?_
   refine gs rfl (isB_no hg538) rfl ?_
   refine gs rfl (isB_no hg538) rfl ?_
   refine gs rfl (isB_no hg538) rfl ?_
   refine wv rfl (p_f rfl hg538 rfl) ?_
   obtain rfl := Option.some.inj hx
   exact mid_nil () ⟨rfl, rfl, rfl, rfl, rfl, rfl, rfl, trivial⟩ hM
 rintro _ w550 hM
 replace hx := hx544
 refine wl_sq ?_
 refine wc_cond rfl (fun hc551 => ?_) (fun hc551 => ?_)
 ·
  replace hx := xif_t hc551 hx
  refine wc_skip ?_
  refine sq_n ?_
  refine wc_seq ?_
  refine wc_block ?_
  refine wc_sr ?_
  refine wmv rfl rfl ?_
  replace hM := hM.p1
  obtain ⟨r553, h554, hx⟩ := bind_some' hx
  refine w_call rfl rfl (hM.callR (l := [oBox b476 #[s523.v, (.int .i64 n520), (.bool b521)] 87]) fun X S oL hS hR => ct_impl_reader_num _ X S b476 (⟨l519, n520, b521⟩ : DReader) s523 hS (hR _ (.head _)) oL h554) ?_
  rintro _ w555 ⟨s556, rfl, hM⟩
  dsimp only [List.cons_append, List.nil_append] at hM
  refine wmv rfl rfl ?_
  obtain ⟨r558, h559, hx⟩ := bind_some' hx
  refine w_call rfl rfl (hM.callR (l := [oBox b476 #[s556.v, (.int .i64 r553.2.at_), (.bool r553.2.bad)] 87]) fun X S oL hS hR => ct_impl_reader_num _ X S b476 r553.2 s556 hS (hR _ (.head _)) oL h559) ?_
  rintro _ w560 ⟨s561, rfl, hM⟩
  dsimp only [List.cons_append, List.nil_append] at hM
  refine wv rfl (r_build (cells := #[(.int .i64 r553.1), (.int .i64 r558.1), (.slice none 0 0)]) rfl (by kernel_rfl)) ?_
  refine w_ex rfl (x_alloc sz70 hM ?_); intro b564 w563 hR565 hM
  dsimp only [Value.cells] at hM
  refine w_exu (x_stB #[(.int .i64 r553.1), (.int .i64 r558.1), (.slice none 0 0)] sz70 rfl rfl rfl rfl rfl rfl hM ?_); intro w567 hM
  refine wl_sq ?_
  refine wc_sr ?_
  refine wmv rfl rfl ?_
  replace hM := hM.p1
  obtain ⟨r570, h571, hx⟩ := bind_some' hx
  refine w_call rfl rfl (hM.callR (l := [oBox b476 #[s561.v, (.int .i64 r558.2.at_), (.bool r558.2.bad)] 87]) fun X S oL hS hR => ct_impl_reader_op _ X S b476 r558.2 s561 hS (hR _ (.head _)) oL h571) ?_
  rintro _ w572 ⟨⟨s573, s574⟩, rfl, hM⟩
  dsimp only [List.cons_append, List.nil_append] at hM
  refine wv rfl (r_fld Tryz.underlying70 rfl rfl sz48 rfl) ?_
  replace hM := hM.p2
  refine w_exu (x_stB #[(.int .i64 r553.1), (.int .i64 r558.1), s573.v] sz48 rfl rfl rfl rfl rfl rfl hM ?_); intro w577 hM
  refine wl_sq ?_
  refine wc_region ?_
  refine wv rfl (r_fld Tryz.underlying27 rfl rfl sz24 rfl) ?_
  refine wv rfl (r_ldB Tryz.underlying24 rfl rfl hM (.tail _ (.tail _ (.tail _ (.tail _ (.head _))))) rfl) ?_
  refine wv rfl (r_ldBS Tryz.underlying70 sz70 rfl (us := [(.int .i64 r553.1), (.int .i64 r558.1), s573.v]) rfl hM (.head _) rfl) ?_
  replace hM := hM.p1.p6
  obtain ⟨hg585, hx⟩ := xg_some hx
  refine w_push (f := fDEntry) (⟨r553.1, r558.1, r570.1⟩ : DEntry) rfl rfl Tryz.underlying24 sz70 rfl rfl rfl rfl (fun _ => rfl) hM (fun _ => zP (pV _ rfl) (zP (pV _ rfl) (zO zN))) rfl hg585 rfl ?_; intro u583 s584 w582 hM
  refine wv rfl (r_fld Tryz.underlying27 rfl rfl sz24 rfl) ?_
  replace hM := hM.p4
  refine w_exu (x_stB #[(.string name), (.int .i64 r482.1), s502.v, s584.v, (.slice none 0 0)] sz24 rfl rfl rfl rfl rfl rfl hM ?_); intro w587 hM
  refine wl_nil ?_
  refine bk_n ?_
  refine sq_n ?_
  refine wc_region ?_
  refine wmv rfl rfl ?_
  obtain ⟨hg591, hx⟩ := xg_some hx
  refine wv rfl (r_add rfl rfl hg591) ?_
  refine was rfl rfl ?_
  refine wl_nil ?_
  obtain rfl := Option.some.inj hx
  replace hM := hM.p1.p5.p2.p4.p5
  replace hM := hM.t5
  have hM := hM.fewer (rsC (.head _) (rsC (.tail _ (.tail _ (.tail _ (.tail _ (.head _))))) rsN))
  replace hM : St ⟨w, X, S⟩ [oBox b469 #[(.string ByteArray.empty), (.int .i64 0), (.slice none 0 0), (.slice none 0 0), (.slice none 0 0)] 27, oBox b476 #[s574.v, (.int .i64 r570.2.at_), (.bool r570.2.bad)] 87, oBox b488 #[(.string name), (.int .i64 r482.1), s502.v, s584.v, (.slice none 0 0)] 27, oC (cSl 1 fI r499.1) s502.v, oC (cSl 3 fDEntry (l522 ++ [(⟨r553.1, r558.1, r570.1⟩ : DEntry)])) s584.v] [rV s574.v (cSl 1 fY r570.2.b), rV s_b.v (cSl 1 fY b)] _ := hM
  exact lp_end (m530, i518 + 1, r570.2.b, r570.2.at_, r570.2.bad, l522 ++ [(⟨r553.1, r558.1, r570.1⟩ : DEntry)], s574, s584) (Nat.lt_succ_self _) ⟨rfl, rfl, rfl, rfl, rfl, rfl, trivial⟩ ⟨hM, hx532⟩
 ·
  replace hx := xif_f hc551 hx
  refine wc_exit ?_
  refine sq_exit ?_
  refine lp1_exit ?_
  obtain rfl := Option.some.inj hx
  obtain rfl := Option.some.inj hx532
  replace hx := hx516
  try dsimp only [Sum.elim_inl, Sum.elim_inr] at hx
  refine bk_here ?_
  refine sq_n ?_
  refine wc_sr ?_
  refine wmv rfl rfl ?_
  replace hM := hM.p1
  obtain ⟨r594, h595, hx⟩ := bind_some' hx
  refine w_call rfl rfl (hM.callR (l := [oBox b476 #[s523.v, (.int .i64 n520), (.bool b521)] 87]) fun X S oL hS hR => ct_impl_reader_num _ X S b476 (⟨l519, n520, b521⟩ : DReader) s523 hS (hR _ (.head _)) oL h595) ?_
  rintro _ w596 ⟨s597, rfl, hM⟩
  dsimp only [List.cons_append, List.nil_append] at hM
  refine was rfl rfl ?_
  refine wl_sq ?_
  refine wc_seq ?_
  refine wc_sr ?_
  refine was rfl rfl ?_
  refine wl_sq ?_
  refine wc_block ?_
  obtain ⟨y600, hx, hx601⟩ := bind_some' hx
  have hM := hM.nil0 (T := DSeen) 3 fDSeen
  replace hM := hM.p5.p5.p5.p4.p5
  have hM := hM.fewer (rsC (.head _) (rsC (.tail _ (.tail _ (.head _))) rsN))
  replace hM : St ⟨w, X, S⟩ [oBox b469 #[(.string ByteArray.empty), (.int .i64 0), (.slice none 0 0), (.slice none 0 0), (.slice none 0 0)] 27, oBox b476 #[s597.v, (.int .i64 r594.2.at_), (.bool r594.2.bad)] 87, oBox b488 #[(.string name), (.int .i64 r482.1), s502.v, s525.v, nS.v] 27, oC (cSl 1 fI r499.1) s502.v, oC (cSl 3 fDEntry l522) s525.v, oC (cSl 3 fDSeen ([] : List DSeen)) nS.v] [rV s597.v (cSl 1 fY r594.2.b), rV s_b.v (cSl 1 fY b)] _ := hM
  obtain ⟨m613, hx⟩ := iter_run hx
  refine wc_loop (un fun (m611 : Nat) => un fun (i603 : Int) => un fun (l604 : List UInt8) => un fun (n605 : Int) => un fun (b606 : Bool) => un fun (l607 : List DSeen) => un fun (s608 : Sv) => fun (s610 : Sv) => [(1, s_b.v), (4, (.pointer (some ⟨b469, 0, none⟩))), (6, (.pointer (some ⟨b476, 0, none⟩))), (7, (.pointer (some ⟨b488, 0, none⟩))), (8, (.int .i64 r594.1)), (11, (.int .i64 i603))]) (un fun (m611 : Nat) => un fun (i603 : Int) => un fun (l604 : List UInt8) => un fun (n605 : Int) => un fun (b606 : Bool) => un fun (l607 : List DSeen) => un fun (s608 : Sv) => fun (s610 : Sv) w' => St ⟨w, X, S⟩ [oBox b469 #[(.string ByteArray.empty), (.int .i64 0), (.slice none 0 0), (.slice none 0 0), (.slice none 0 0)] 27, oBox b476 #[s608.v, (.int .i64 n605), (.bool b606)] 87, oBox b488 #[(.string name), (.int .i64 r482.1), s502.v, s525.v, s610.v] 27, oC (cSl 1 fI r499.1) s502.v, oC (cSl 3 fDEntry l522) s525.v, oC (cSl 3 fDSeen l607) s610.v] [rV s608.v (cSl 1 fY l604), rV s_b.v (cSl 1 fY b)] w' ∧ iterN _ m611 (i603, l604, n605, b606, l607) = some y600) (fun p => p.1) (m613, 0, r594.2.b, r594.2.at_, r594.2.bad, [], s597, nS) ⟨rfl, rfl, rfl, rfl, rfl, rfl, trivial⟩ ⟨hM, hx⟩ ?_
  rintro ⟨m611, i603, l604, n605, b606, l607, s608, s610⟩ w614 ⟨hM, hx⟩
  obtain ⟨m615, z616, rfl, hx, hx617⟩ := iterN_step hx
  unfold x_impl_BytesDoc_f1 x_impl_BytesDoc_b1 at hx
  try dsimp only at hx
  refine wc_seq ?_
  refine wc_sr ?_
  refine wmv rfl rfl ?_
  refine wmv rfl rfl ?_
  refine wv rfl (r_lss rfl rfl) ?_
  refine wmv rfl rfl ?_
  obtain ⟨c622, hx, hx629⟩ := bind_some' hx
  refine wl_mid 6 (fun _ : Unit => [(66, (.bool c622)), (1, s_b.v), (4, (.pointer (some ⟨b469, 0, none⟩))), (6, (.pointer (some ⟨b476, 0, none⟩))), (7, (.pointer (some ⟨b488, 0, none⟩))), (8, (.int .i64 r594.1)), (11, (.int .i64 i603))]) (fun _ w' => St ⟨w, X, S⟩ [oBox b469 #[(.string ByteArray.empty), (.int .i64 0), (.slice none 0 0), (.slice none 0 0), (.slice none 0 0)] 27, oBox b476 #[s608.v, (.int .i64 n605), (.bool b606)] 87, oBox b488 #[(.string name), (.int .i64 r482.1), s502.v, s525.v, s610.v] 27, oC (cSl 1 fI r499.1) s502.v, oC (cSl 3 fDEntry l522) s525.v, oC (cSl 3 fDSeen l607) s610.v] [rV s608.v (cSl 1 fY l604), rV s_b.v (cSl 1 fY b)] w') ?_ ?_
  ·
   rcases Bool.eq_false_or_eq_true (decide (i603 < r594.1)) with hg623 | hg623
   ·
    replace hx := xif_t hg623 hx
    refine gv rfl hg623 rfl (r_move rfl) ?_
    refine gv rfl hg623 rfl (r_nilck rfl) ?_
    refine gv rfl hg623 rfl (r_fld Tryz.underlying87 rfl rfl sz4 rfl) ?_
    refine gv rfl hg623 rfl (r_ldB Tryz.underlying4 rfl rfl hM (.tail _ (.head _)) rfl) ?_
    refine gv rfl hg623 rfl (r_not rfl) ?_
    refine wv rfl (p_t rfl hg623 rfl) ?_
    obtain rfl := Option.some.inj hx
    exact mid_nil () ⟨rfl, rfl, rfl, rfl, rfl, rfl, rfl, trivial⟩ hM
   ·
    replace hx := xif_f hg623 hx
    refine gs rfl (isB_no hg623) rfl ?_
    refine gs rfl (isB_no hg623) rfl ?_
    refine gs rfl (isB_no hg623) rfl ?_
    refine gs rfl (isB_no hg623) rfl ?_
    refine gs rfl (isB_no hg623) rfl ?_
    refine wv rfl (p_f rfl hg623 rfl) ?_
    obtain rfl := Option.some.inj hx
    exact mid_nil () ⟨rfl, rfl, rfl, rfl, rfl, rfl, rfl, trivial⟩ hM
  rintro _ w635 hM
  replace hx := hx629
  refine wl_sq ?_
  refine wc_cond rfl (fun hc636 => ?_) (fun hc636 => ?_)
  ·
   replace hx := xif_t hc636 hx
   refine wc_skip ?_
   refine sq_n ?_
   refine wc_seq ?_
   refine wc_block ?_
   refine wc_sr ?_
   refine wmv rfl rfl ?_
   replace hM := hM.p1
   obtain ⟨r638, h639, hx⟩ := bind_some' hx
   refine w_call rfl rfl (hM.callR (l := [oBox b476 #[s608.v, (.int .i64 n605), (.bool b606)] 87]) fun X S oL hS hR => ct_impl_reader_num _ X S b476 (⟨l604, n605, b606⟩ : DReader) s608 hS (hR _ (.head _)) oL h639) ?_
   rintro _ w640 ⟨s641, rfl, hM⟩
   dsimp only [List.cons_append, List.nil_append] at hM
   refine wmv rfl rfl ?_
   obtain ⟨r643, h644, hx⟩ := bind_some' hx
   refine w_call rfl rfl (hM.callR (l := [oBox b476 #[s641.v, (.int .i64 r638.2.at_), (.bool r638.2.bad)] 87]) fun X S oL hS hR => ct_impl_reader_num _ X S b476 r638.2 s641 hS (hR _ (.head _)) oL h644) ?_
   rintro _ w645 ⟨s646, rfl, hM⟩
   dsimp only [List.cons_append, List.nil_append] at hM
   refine wv rfl (r_build (cells := #[(.int .i64 r638.1), (.int .i64 r643.1), (.int .i64 0)]) rfl (by kernel_rfl)) ?_
   refine w_ex rfl (x_alloc sz83 hM ?_); intro b649 w648 hR650 hM
   dsimp only [Value.cells] at hM
   refine w_exu (x_stB #[(.int .i64 r638.1), (.int .i64 r643.1), (.int .i64 0)] sz83 rfl rfl rfl rfl rfl rfl hM ?_); intro w652 hM
   refine wl_sq ?_
   refine wc_sr ?_
   refine wmv rfl rfl ?_
   replace hM := hM.p1
   obtain ⟨r655, h656, hx⟩ := bind_some' hx
   refine w_call rfl rfl (hM.callR (l := [oBox b476 #[s646.v, (.int .i64 r643.2.at_), (.bool r643.2.bad)] 87]) fun X S oL hS hR => ct_impl_reader_num _ X S b476 r643.2 s646 hS (hR _ (.head _)) oL h656) ?_
   rintro _ w657 ⟨s658, rfl, hM⟩
   dsimp only [List.cons_append, List.nil_append] at hM
   refine wv rfl (r_fld Tryz.underlying83 rfl rfl sz3 rfl) ?_
   replace hM := hM.p1
   refine w_exu (x_stB #[(.int .i64 r638.1), (.int .i64 r643.1), (.int .i64 r655.1)] sz3 rfl rfl rfl rfl rfl rfl hM ?_); intro w660 hM
   refine wl_sq ?_
   refine wc_region ?_
   refine wv rfl (r_fld Tryz.underlying27 rfl rfl sz25 rfl) ?_
   refine wv rfl (r_ldB Tryz.underlying25 rfl rfl hM (.tail _ (.tail _ (.tail _ (.head _)))) rfl) ?_
   refine wv rfl (r_ldBS Tryz.underlying83 sz83 rfl (us := [(.int .i64 r638.1), (.int .i64 r643.1), (.int .i64 r655.1)]) rfl hM (.head _) rfl) ?_
   replace hM := hM.p6
   obtain ⟨hg668, hx⟩ := xg_some hx
   refine w_push (f := fDSeen) (⟨r638.1, r643.1, r655.1⟩ : DSeen) rfl rfl Tryz.underlying25 sz83 rfl rfl rfl rfl (fun _ => rfl) hM (fun _ => zP (pV _ rfl) (zP (pV _ rfl) (zP (pV _ rfl) zN))) rfl hg668 rfl ?_; intro u666 s667 w665 hM
   refine wv rfl (r_fld Tryz.underlying27 rfl rfl sz25 rfl) ?_
   replace hM := hM.p4
   refine w_exu (x_stB #[(.string name), (.int .i64 r482.1), s502.v, s525.v, s667.v] sz25 rfl rfl rfl rfl rfl rfl hM ?_); intro w670 hM
   refine wl_nil ?_
   refine bk_n ?_
   refine sq_n ?_
   refine wc_region ?_
   refine wmv rfl rfl ?_
   obtain ⟨hg674, hx⟩ := xg_some hx
   refine wv rfl (r_add rfl rfl hg674) ?_
   refine was rfl rfl ?_
   refine wl_nil ?_
   obtain rfl := Option.some.inj hx
   replace hM := hM.p1.p6.p6.p3.p5.p6
   replace hM := hM.t6
   have hM := hM.fewer (rsC (.head _) (rsC (.tail _ (.tail _ (.tail _ (.tail _ (.head _))))) rsN))
   replace hM : St ⟨w, X, S⟩ [oBox b469 #[(.string ByteArray.empty), (.int .i64 0), (.slice none 0 0), (.slice none 0 0), (.slice none 0 0)] 27, oBox b476 #[s658.v, (.int .i64 r655.2.at_), (.bool r655.2.bad)] 87, oBox b488 #[(.string name), (.int .i64 r482.1), s502.v, s525.v, s667.v] 27, oC (cSl 1 fI r499.1) s502.v, oC (cSl 3 fDEntry l522) s525.v, oC (cSl 3 fDSeen (l607 ++ [(⟨r638.1, r643.1, r655.1⟩ : DSeen)])) s667.v] [rV s658.v (cSl 1 fY r655.2.b), rV s_b.v (cSl 1 fY b)] _ := hM
   exact lp_end (m615, i603 + 1, r655.2.b, r655.2.at_, r655.2.bad, l607 ++ [(⟨r638.1, r643.1, r655.1⟩ : DSeen)], s658, s667) (Nat.lt_succ_self _) ⟨rfl, rfl, rfl, rfl, rfl, rfl, trivial⟩ ⟨hM, hx617⟩
  ·
   replace hx := xif_f hc636 hx
   refine wc_exit ?_
   refine sq_exit ?_
   refine lp1_exit ?_
   obtain rfl := Option.some.inj hx
   obtain rfl := Option.some.inj hx617
   replace hx := hx601
   try dsimp only [Sum.elim_inl, Sum.elim_inr] at hx
   refine bk_here ?_
   refine sq_n ?_
   refine wc_sr ?_
   refine wv rfl (r_ldBS Tryz.underlying27 sz27 rfl (us := [(.string name), (.int .i64 r482.1), s502.v, s525.v, s610.v]) rfl hM (.tail _ (.tail _ (.head _))) rfl) ?_
   obtain ⟨r677, h678, hx⟩ := bind_some' hx
   refine w_call rfl rfl (hM.callO (l := []) fun X S oL hS hR hO => ct_impl_DocBytes _ X S (⟨name, r482.1, r499.1, l522, l607⟩ : DDoc) s502 s525 s610 hS (seeA hO (.tail _ (.tail _ (.tail _ (.head _))))) (seeA hO (.tail _ (.tail _ (.tail _ (.tail _ (.head _)))))) (seeA hO (.tail _ (.tail _ (.tail _ (.tail _ (.tail _ (.head _))))))) oL h678) ?_
   rintro _ w679 ⟨s680, rfl, hM⟩
   dsimp only [List.cons_append, List.nil_append] at hM
   refine wmv rfl rfl ?_
   refine wv rfl (r_extract rfl rfl) ?_
   refine wv rfl (r_extract rfl rfl) ?_
   refine was rfl rfl ?_
   refine was rfl rfl ?_
   refine wl_sq ?_
   refine wc_seq ?_
   refine wc_sr ?_
   refine wmv rfl rfl ?_
   refine wv rfl (r_nilck rfl) ?_
   refine wv rfl (r_fld Tryz.underlying87 rfl rfl sz4 rfl) ?_
   refine wv rfl (r_ldB Tryz.underlying4 rfl rfl hM (.tail _ (.tail _ (.head _))) rfl) ?_
   refine wmv rfl rfl ?_
   obtain ⟨c692, hx, hx696⟩ := bind_some' hx
   refine wl_mid 3 (fun _ : Unit => [(95, (.bool c692)), (1, s_b.v), (4, (.pointer (some ⟨b469, 0, none⟩))), (7, (.pointer (some ⟨b488, 0, none⟩))), (13, s680.v)]) (fun _ w' => St ⟨w, X, S⟩ [oC (cSl 1 fY r677.1) s680.v, oBox b469 #[(.string ByteArray.empty), (.int .i64 0), (.slice none 0 0), (.slice none 0 0), (.slice none 0 0)] 27, oBox b476 #[s608.v, (.int .i64 n605), (.bool b606)] 87, oBox b488 #[(.string name), (.int .i64 r482.1), s502.v, s525.v, s610.v] 27, oC (cSl 1 fI r499.1) s502.v, oC (cSl 3 fDEntry l522) s525.v, oC (cSl 3 fDSeen l607) s610.v] [rV s608.v (cSl 1 fY l604), rV s_b.v (cSl 1 fY b)] w') ?_ ?_
   ·
    rcases Bool.eq_false_or_eq_true b606 with hg693 | hg693
    ·
     replace hx := xif_t hg693 hx
     refine gs rfl (isB_no hg693) rfl ?_
     refine gs rfl (isB_no hg693) rfl ?_
     refine wv rfl (p_t rfl hg693 rfl) ?_
     obtain rfl := Option.some.inj hx
     exact mid_nil () ⟨rfl, rfl, rfl, rfl, rfl, trivial⟩ hM
    ·
     replace hx := xif_f hg693 hx
     refine gv rfl hg693 rfl (r_move rfl) ?_
     refine gv rfl hg693 rfl (r_not rfl) ?_
     refine wv rfl (p_f rfl hg693 rfl) ?_
     obtain rfl := Option.some.inj hx
     exact mid_nil () ⟨rfl, rfl, rfl, rfl, rfl, trivial⟩ hM
   rintro _ w699 hM
   replace hx := hx696
   refine wmv rfl rfl ?_
   obtain ⟨c701, hx, hx710⟩ := bind_some' hx
   refine wl_mid 5 (fun _ : Unit => [(101, (.bool c701)), (4, (.pointer (some ⟨b469, 0, none⟩))), (7, (.pointer (some ⟨b488, 0, none⟩)))]) (fun _ w' => St ⟨w, X, S⟩ [oC (cSl 1 fY r677.1) s680.v, oBox b469 #[(.string ByteArray.empty), (.int .i64 0), (.slice none 0 0), (.slice none 0 0), (.slice none 0 0)] 27, oBox b476 #[s608.v, (.int .i64 n605), (.bool b606)] 87, oBox b488 #[(.string name), (.int .i64 r482.1), s502.v, s525.v, s610.v] 27, oC (cSl 1 fI r499.1) s502.v, oC (cSl 3 fDEntry l522) s525.v, oC (cSl 3 fDSeen l607) s610.v] [rV s608.v (cSl 1 fY l604), rV s_b.v (cSl 1 fY b)] w') ?_ ?_
   ·
    rcases Bool.eq_false_or_eq_true c692 with hg702 | hg702
    ·
     replace hx := xif_t hg702 hx
     refine gs rfl (isB_no hg702) rfl ?_
     refine gs rfl (isB_no hg702) rfl ?_
     refine gs rfl (isB_no hg702) rfl ?_
     refine gs rfl (isB_no hg702) rfl ?_
     refine wv rfl (p_t rfl hg702 rfl) ?_
     obtain rfl := Option.some.inj hx
     exact mid_nil () ⟨rfl, rfl, rfl, trivial⟩ hM
    ·
     replace hx := xif_f hg702 hx
     refine gv rfl hg702 rfl (r_move rfl) ?_
     refine gv rfl hg702 rfl (r_move rfl) ?_
     obtain ⟨r713, h714, hx⟩ := bind_some' hx
     refine gc rfl hg702 rfl rfl (hM.callV fun X S oL hS hR hO => ct_bytes_Equal _ X S r677.1 s680 b s_b hS (seeA hO (.head _)) (hR _ (.tail _ (.head _))) oL h714) ?_
     rintro _ w715 ⟨rfl, hR716⟩
     have hM := hM.call hR716
     refine gv rfl hg702 rfl (r_not rfl) ?_
     refine wv rfl (p_f rfl hg702 rfl) ?_
     obtain rfl := Option.some.inj hx
     exact mid_nil () ⟨rfl, rfl, rfl, trivial⟩ hM
   rintro _ w718 hM
   replace hx := hx710
   refine wl_sq ?_
   refine wc_cond rfl (fun hc719 => ?_) (fun hc719 => ?_)
   ·
    replace hx := xif_t hc719 hx
    refine wc_sr ?_
    refine wv rfl (r_build (cells := #[(.string ByteArray.empty), (.int .i64 0), (.slice none 0 0), (.slice none 0 0), (.slice none 0 0)]) rfl (by kernel_rfl)) ?_
    replace hM := hM.p1
    refine w_exu (x_stB #[(.string ByteArray.empty), (.int .i64 0), (.slice none 0 0), (.slice none 0 0), (.slice none 0 0)] sz27 rfl rfl rfl rfl rfl rfl hM ?_); intro w721 hM
    refine was rfl rfl ?_
    refine wl_sq ?_
    refine wc_ret ?_
    refine sq_ret ?_
    obtain rfl := Option.some.inj hx
    have hM := hM.nil0 (T := Int) 1 fI
    have hM := hM.nil0 (T := DEntry) 3 fDEntry
    have hM := hM.nil0 (T := DSeen) 3 fDSeen
    refine fin_ret [(.agg #[(.string ByteArray.empty), (.int .i64 0), nS.v, nS.v, nS.v]), (.bool false)] ⟨rv_box Tryz.underlying27 sz27 rfl rfl hM (.tail _ (.tail _ (.tail _ (.head _)))), rfl, trivial⟩ ?_
    replace hM := hM.p1.p2
    replace hM := hM.t3
    have hM := hM.fewer rsN
    exact ⟨(nS, nS, nS), rfl, hM.gives⟩
   ·
    replace hx := xif_f hc719 hx
    refine wc_skip ?_
    refine sq_n ?_
    refine wc_sr ?_
    refine wv rfl (r_ldBS Tryz.underlying27 sz27 rfl (us := [(.string name), (.int .i64 r482.1), s502.v, s525.v, s610.v]) rfl hM (.tail _ (.tail _ (.tail _ (.head _)))) rfl) ?_
    replace hM := hM.p1
    refine w_exu (x_stB #[(.string name), (.int .i64 r482.1), s502.v, s525.v, s610.v] sz27 rfl rfl rfl rfl rfl rfl hM ?_); intro w728 hM
    refine was rfl rfl ?_
    refine wl_sq ?_
    refine wc_ret ?_
    obtain rfl := Option.some.inj hx
    refine fin_ret [(.agg #[(.string name), (.int .i64 r482.1), s502.v, s525.v, s610.v]), (.bool true)] ⟨rv_box Tryz.underlying27 sz27 rfl rfl hM (.head _), rfl, trivial⟩ ?_
    replace hM := hM.p6.p6.p6
    replace hM := hM.t3
    have hM := hM.fewer rsN
    exact ⟨(s502, s525, s610), rfl, hM.gives⟩

noncomputable def x_impl_GetOp (b : List UInt8) (at_ : Int) : Option (List DPart × Int × Bool) :=
  Option.bind (x_impl_reader_op (⟨b, at_, false⟩ : DReader)) fun r13 => Option.bind (bif r13.2.bad then (some true) else (Option.bind (x_impl_IsNorm r13.1) fun r34 => some (!r34))) fun c25 => bif c25 then (some ([], 0, false)) else (some (r13.1, r13.2.at_, true))
theorem ct_impl_GetOp (w : World) (X S : Bs) (b : List UInt8) (s_b : Sv) (at_ : Int) (hS : ∀ b, S b → b < w.heap.size ∧ ¬ X b) (a_b_0 : (cSl 1 fY b).rd S w s_b.v) (oL : Sep [] X w) {r : List DPart × Int × Bool} (hx : x_impl_GetOp b at_ = some r) :
  Ret Tryz.prog 21 [s_b.v, (.int .i64 at_)] w (fun u w' => ∃ y : Sv, u = .tuple #[y.v, (.int .i64 r.2.1), (.bool r.2.2)] ∧ Gives X S w [oC (cSl 3 fDPart r.1) y.v] [] w') := by
 unfold x_impl_GetOp at hx
 refine enter Tryz.func21 rfl Tryz.ntmps21 (by kernel_rfl) rfl ?_
 have hM := St.enter oL hS
 have hM := hM.addE (r := rV s_b.v (cSl 1 fY b)) a_b_0
 refine wc_sr ?_
 refine was rfl rfl ?_
 refine was rfl rfl ?_
 refine was rfl rfl ?_
 refine wl_sq ?_
 refine wc_sr ?_
 refine wmv rfl rfl ?_
 refine wmv rfl rfl ?_
 refine wv rfl (r_build (cells := #[s_b.v, (.int .i64 at_), (.bool false)]) rfl (by kernel_rfl)) ?_
 refine w_ex rfl (x_box rfl hM ?_); intro b59 w58 hR60 hM
 dsimp only [Value.cells] at hM
 refine was rfl rfl ?_
 refine wl_sq ?_
 refine wc_sr ?_
 refine wmv rfl rfl ?_
 obtain ⟨r64, h65, hx⟩ := bind_some' hx
 refine w_call rfl rfl (hM.callR (l := [oBox b59 #[s_b.v, (.int .i64 at_), (.bool false)] 87]) fun X S oL hS hR => ct_impl_reader_op _ X S b59 (⟨b, at_, false⟩ : DReader) s_b hS (hR _ (.head _)) oL h65) ?_
 rintro _ w66 ⟨⟨s67, s68⟩, rfl, hM⟩
 dsimp only [List.cons_append, List.nil_append] at hM
 refine was rfl rfl ?_
 refine wl_sq ?_
 refine wc_seq ?_
 refine wc_sr ?_
 refine wmv rfl rfl ?_
 refine wv rfl (r_nilck rfl) ?_
 refine wv rfl (r_fld Tryz.underlying87 rfl rfl sz4 rfl) ?_
 refine wv rfl (r_ldB Tryz.underlying4 rfl rfl hM (.tail _ (.head _)) rfl) ?_
 refine wmv rfl rfl ?_
 obtain ⟨c76, hx, hx84⟩ := bind_some' hx
 refine wl_mid 4 (fun _ : Unit => [(23, (.bool c76)), (7, (.pointer (some ⟨b59, 0, none⟩))), (8, s67.v)]) (fun _ w' => St ⟨w, X, S⟩ [oC (cSl 3 fDPart r64.1) s67.v, oBox b59 #[s68.v, (.int .i64 r64.2.at_), (.bool r64.2.bad)] 87] [rV s68.v (cSl 1 fY r64.2.b), rV s_b.v (cSl 1 fY b)] w') ?_ ?_
 ·
  rcases Bool.eq_false_or_eq_true r64.2.bad with hg77 | hg77
  ·
   replace hx := xif_t hg77 hx
   refine gs rfl (isB_no hg77) rfl ?_
   refine gs rfl (isB_no hg77) rfl ?_
   refine gs rfl (isB_no hg77) rfl ?_
   refine wv rfl (p_t rfl hg77 rfl) ?_
   obtain rfl := Option.some.inj hx
   exact mid_nil () ⟨rfl, rfl, rfl, trivial⟩ hM
  ·
   replace hx := xif_f hg77 hx
   refine gv rfl hg77 rfl (r_move rfl) ?_
   obtain ⟨r86, h87, hx⟩ := bind_some' hx
   refine gc rfl hg77 rfl rfl (hM.callV fun X S oL hS hR hO => ct_impl_IsNorm _ X S r64.1 s67 hS (seeA hO (.head _)) oL h87) ?_
   rintro _ w88 ⟨rfl, hR89⟩
   have hM := hM.call hR89
   refine gv rfl hg77 rfl (r_not rfl) ?_
   refine wv rfl (p_f rfl hg77 rfl) ?_
   obtain rfl := Option.some.inj hx
   exact mid_nil () ⟨rfl, rfl, rfl, trivial⟩ hM
 rintro _ w91 hM
 replace hx := hx84
 refine wl_sq ?_
 refine wc_cond rfl (fun hc92 => ?_) (fun hc92 => ?_)
 ·
  replace hx := xif_t hc92 hx
  refine wc_sr ?_
  refine was rfl rfl ?_
  refine was rfl rfl ?_
  refine was rfl rfl ?_
  refine wl_sq ?_
  refine wc_ret ?_
  refine sq_ret ?_
  obtain rfl := Option.some.inj hx
  have hM := hM.nil0 (T := DPart) 3 fDPart
  refine fin_ret [nS.v, (.int .i64 0), (.bool false)] ⟨rfl, rfl, rfl, trivial⟩ ?_
  replace hM := hM.t1
  have hM := hM.fewer rsN
  exact ⟨nS, rfl, hM.gives⟩
 ·
  replace hx := xif_f hc92 hx
  refine wc_skip ?_
  refine sq_n ?_
  refine wc_seq ?_
  refine wc_draw [(0, 0), (1, 0), (2, 0), (3, 0), (4, 0), (5, 0), (6, 0), (7, 0)] Tryz_mixed (by kernel_rfl) rfl (by kernel_rfl) rfl ?_
  refine omv rfl rfl ?_
  refine omv rfl rfl ?_
  refine ov rfl (fun w' h' => r_nilck rfl) ?_
  refine ov rfl (fun w' h' => r_fld Tryz.underlying87 rfl rfl sz3 rfl) ?_
  refine ov rfl (fun w' h' => r_ldB Tryz.underlying3 rfl rfl (hM.call h') (.tail _ (.head _)) rfl) ?_
  refine ov rfl (fun w' h' => r_assign rfl) ?_
  refine ov rfl (fun w' h' => r_assign rfl) ?_
  refine ov rfl (fun w' h' => r_assign rfl) ?_
  refine o_nilM hM fun w105 hM => ?_
  refine sq_n ?_
  refine wc_ret ?_
  obtain rfl := Option.some.inj hx
  refine fin_ret [s67.v, (.int .i64 r64.2.at_), (.bool true)] ⟨rfl, rfl, rfl, trivial⟩ ?_
  replace hM := hM.t1
  have hM := hM.fewer rsN
  exact ⟨s67, rfl, hM.gives⟩

noncomputable def x_slices_EqualFunc_impl_Entry_impl_Entry_impl_Entry_impl_Entry_b0 (s2_ : List DEntry) (_s1_ : List DEntry) (k11 : Nat) (x90 : DEntry) : Option (Lr Unit (Sum Unit Unit)) :=
  xg (0 ≤ (k11 : Int) ∧ (k11 : Int) < (s2_.length : Int)) <| Option.bind (x_impl_EntrySame x90 (el s2_ k11)) fun r82 => bif !r82 then (some (Lr.out (Sum.inr (())))) else (some (Lr.go ()))
noncomputable def x_slices_EqualFunc_impl_Entry_impl_Entry_impl_Entry_impl_Entry_f0 (s2_ : List DEntry) (s1_ : List DEntry) (k11 : Nat) (_s91 : Unit) : Option (Lr Unit (Sum Unit Unit)) := x_slices_EqualFunc_impl_Entry_impl_Entry_impl_Entry_impl_Entry_b0 s2_ s1_ k11 (el s1_ k11)
noncomputable def x_slices_EqualFunc_impl_Entry_impl_Entry_impl_Entry_impl_Entry (s1_ : List DEntry) (s2_ : List DEntry) : Option Bool :=
  bif !decide ((s1_.length : Int) = (s2_.length : Int)) then (some false) else (Option.bind (eachN (x_slices_EqualFunc_impl_Entry_impl_Entry_impl_Entry_impl_Entry_f0 s2_ s1_) (fun (_s91 : Unit) => (Sum.inl () : Sum Unit Unit)) s1_.length 0 ()) fun (y92 : Sum Unit Unit) => Sum.elim (fun _y93 => some true) (fun _y94 => some false) y92)
theorem ct_slices_EqualFunc_impl_Entry_impl_Entry_impl_Entry_impl_Entry (w : World) (X S : Bs) (s1_ : List DEntry) (s_s1_ : Sv) (s2_ : List DEntry) (s_s2_ : Sv) (hS : ∀ b, S b → b < w.heap.size ∧ ¬ X b) (a_s1__0 : (cSl 3 fDEntry s1_).rd S w s_s1_.v) (a_s2__0 : (cSl 3 fDEntry s2_).rd S w s_s2_.v) (oL : Sep [] X w) {r : Bool} (hx : x_slices_EqualFunc_impl_Entry_impl_Entry_impl_Entry_impl_Entry s1_ s2_ = some r) :
  Ret Tryz.prog 38 [s_s1_.v, s_s2_.v, (.func (.func 39) #[] #[])] w (fun u w' => ∃ _ : Unit, u = (.bool r) ∧ Gives X S w [] [] w') := by
 unfold x_slices_EqualFunc_impl_Entry_impl_Entry_impl_Entry_impl_Entry at hx
 refine enter Tryz.func38 rfl Tryz.ntmps38 (by kernel_rfl) rfl ?_
 have hM := St.enter oL hS
 have hM := hM.addE (r := rV s_s1_.v (cSl 3 fDEntry s1_)) a_s1__0
 have hM := hM.addE (r := rV s_s2_.v (cSl 3 fDEntry s2_)) a_s2__0
 refine wc_sr ?_
 refine was rfl rfl ?_
 refine wl_sq ?_
 refine wc_seq ?_
 refine wc_sr ?_
 refine wmv rfl rfl ?_
 refine wv rfl (r_lenC Tryz.underlying24 rfl (hM.seeR (.tail _ (.head _)))) ?_
 refine wmv rfl rfl ?_
 refine wv rfl (r_lenC Tryz.underlying24 rfl (hM.seeR (.head _))) ?_
 refine wv rfl (r_neq rfl rfl) ?_
 refine wl_sq ?_
 refine wc_cond rfl (fun hc102 => ?_) (fun hc102 => ?_)
 ·
  replace hx := xif_t hc102 hx
  refine wc_sr ?_
  refine was rfl rfl ?_
  refine wl_sq ?_
  refine wc_ret ?_
  refine sq_ret ?_
  obtain rfl := Option.some.inj hx
  refine fin_ret [(.bool false)] ⟨rfl, trivial⟩ ?_
  replace hM := hM.t0
  have hM := hM.fewer rsN
  exact ⟨(), rfl, hM.gives⟩
 ·
  replace hx := xif_f hc102 hx
  refine wc_skip ?_
  refine sq_n ?_
  refine wc_seq ?_
  refine wc_sr ?_
  refine wmv rfl rfl ?_
  refine wv rfl (r_lenC Tryz.underlying24 rfl (hM.seeR (.tail _ (.head _)))) ?_
  refine wmv rfl rfl ?_
  refine wl_sq ?_
  refine wc_block ?_
  obtain ⟨y107, hx, hx108⟩ := bind_some' hx
  have hl112 := Cs.le (hM.seeR (.tail _ (.head _)))
  refine wc_loop (un fun (m109 : Nat) => fun (k110 : Nat) => [(1, s_s2_.v), (2, (.func (.func 39) #[] #[])), (15, s_s1_.v), (16, (.int .i64 (s1_.length : Int))), (17, (.int .i64 (k110 : Int)))]) (un fun (m109 : Nat) => fun (k110 : Nat) w' => St ⟨w, X, S⟩ [] [rV s_s2_.v (cSl 3 fDEntry s2_), rV s_s1_.v (cSl 3 fDEntry s1_)] w' ∧ eachN _ _ m109 k110 () = some y107 ∧ k110 + m109 = s1_.length) (fun p => p.1) (s1_.length, 0) ⟨rfl, rfl, rfl, rfl, rfl, trivial⟩ ⟨hM, hx, Nat.zero_add _⟩ ?_
  rintro ⟨m109, k110⟩ w113 ⟨hM, hx, hk111⟩
  refine wc_sr ?_
  refine wv rfl (r_lss rfl rfl) ?_
  refine wl_sq ?_
  refine wc_seq ?_
  refine wc_cond rfl (fun hc115 => ?_) (fun hc115 => ?_)
  ·
   replace hc115 := of_decide_eq_true hc115
   obtain ⟨m116, z117, rfl, hk111, hx, hx118⟩ := eachN_step hx hk111 hc115
   unfold x_slices_EqualFunc_impl_Entry_impl_Entry_impl_Entry_impl_Entry_f0 x_slices_EqualFunc_impl_Entry_impl_Entry_impl_Entry_impl_Entry_b0 at hx
   try dsimp only at hx
   refine wc_skip ?_
   refine sq_n ?_
   refine wc_seq ?_
   refine wc_block ?_
   refine wc_sr ?_
   refine wmv rfl rfl ?_
   have hi121 : k110 < s1_.length := by omega
   refine wv rfl (r_ixC Tryz.underlying24 sz70 rfl rfl (hM.seeR (.tail _ (.head _))) ⟨by omega, hc115⟩) ?_
   obtain ⟨s123, hM, hc124⟩ := hM.leaf (i := k110) (j := 2) (.tail _ (.head _)) (fun _ => rfl) hi121 rfl
   refine wv rfl (r_ldC (o := k110 * 3) Tryz.underlying70 sz70 rfl (us := [(.int .i64 ((el s1_ k110).client)), (.int .i64 ((el s1_ k110).seq)), s123.v]) rfl (hM.seeR (.tail _ (.tail _ (.head _)))) hi121 ⟨(Cs.get (i := k110) (j := 0) (hM.seeR (.tail _ (.tail _ (.head _)))) (fun _ => rfl) hi121 rfl), (Cs.get (i := k110) (j := 1) (hM.seeR (.tail _ (.tail _ (.head _)))) (fun _ => rfl) hi121 rfl), (hc124 _ (Rel.refl _)), trivial⟩) ?_
   refine w_ex rfl (x_alloc sz70 hM ?_); intro b126 w125 hR127 hM
   dsimp only [Value.cells] at hM
   refine was rfl rfl ?_
   refine w_exu (x_stB #[(.int .i64 ((el s1_ k110).client)), (.int .i64 ((el s1_ k110).seq)), s123.v] sz70 rfl rfl rfl rfl rfl rfl hM ?_); intro w130 hM
   refine wl_sq ?_
   refine wc_sr ?_
   refine wmv rfl rfl ?_
   refine wmv rfl rfl ?_
   obtain ⟨hg136, hx⟩ := xg_some hx
   have hi135 : k110 < s2_.length := by omega
   refine wv rfl (r_ixC Tryz.underlying24 sz70 rfl rfl (hM.seeR (.tail _ (.head _))) hg136) ?_
   obtain ⟨s138, hM, hc139⟩ := hM.leaf (i := k110) (j := 2) (.tail _ (.head _)) (fun _ => rfl) hi135 rfl
   refine wv rfl (r_ldC (o := k110 * 3) Tryz.underlying70 sz70 rfl (us := [(.int .i64 ((el s2_ k110).client)), (.int .i64 ((el s2_ k110).seq)), s138.v]) rfl (hM.seeR (.tail _ (.tail _ (.head _)))) hi135 ⟨(Cs.get (i := k110) (j := 0) (hM.seeR (.tail _ (.tail _ (.head _)))) (fun _ => rfl) hi135 rfl), (Cs.get (i := k110) (j := 1) (hM.seeR (.tail _ (.tail _ (.head _)))) (fun _ => rfl) hi135 rfl), (hc139 _ (Rel.refl _)), trivial⟩) ?_
   refine w_ex rfl (x_alloc sz70 hM ?_); intro b141 w140 hR142 hM
   dsimp only [Value.cells] at hM
   refine w_exu (x_stB #[(.int .i64 ((el s2_ k110).client)), (.int .i64 ((el s2_ k110).seq)), s138.v] sz70 rfl rfl rfl rfl rfl rfl hM ?_); intro w144 hM
   refine wl_sq ?_
   refine wc_sr ?_
   refine wmv rfl rfl ?_
   refine wv rfl (r_ldBS Tryz.underlying70 sz70 rfl (us := [(.int .i64 ((el s1_ k110).client)), (.int .i64 ((el s1_ k110).seq)), s123.v]) rfl hM (.tail _ (.head _)) rfl) ?_
   refine wv rfl (r_ldBS Tryz.underlying70 sz70 rfl (us := [(.int .i64 ((el s2_ k110).client)), (.int .i64 ((el s2_ k110).seq)), s138.v]) rfl hM (.head _) rfl) ?_
   obtain ⟨r149, h150, hx⟩ := bind_some' hx
   refine w_callv (cap := []) rfl rfl rfl (hM.callV fun X S oL hS hR hO => ct_impl_EntrySame _ X S (el s1_ k110) s123 (el s2_ k110) s138 hS (hR _ (.tail _ (.head _))) (hR _ (.head _)) oL h150) ?_
   rintro _ w151 ⟨rfl, hR152⟩
   have hM := hM.call hR152
   refine wv rfl (r_not rfl) ?_
   refine wl_sq ?_
   refine wc_cond rfl (fun hc154 => ?_) (fun hc154 => ?_)
   ·
    replace hx := xif_t hc154 hx
    refine wc_sr ?_
    refine was rfl rfl ?_
    refine wl_sq ?_
    refine wc_ret ?_
    refine bk_ret ?_
    refine sq_ret ?_
    refine lp1_ret ?_
    obtain rfl := Option.some.inj hx
    obtain rfl := Option.some.inj hx118
    replace hx := hx108
    try dsimp only [Sum.elim_inl, Sum.elim_inr] at hx
    refine bk_ret ?_
    refine sq_ret ?_
    obtain rfl := Option.some.inj hx
    refine fin_ret [(.bool false)] ⟨rfl, trivial⟩ ?_
    replace hM := hM.t0
    have hM := hM.fewer rsN
    exact ⟨(), rfl, hM.gives⟩
   ·
    replace hx := xif_f hc154 hx
    refine wc_skip ?_
    refine bk_n ?_
    refine sq_n ?_
    refine wc_region ?_
    refine wv rfl (r_add rfl rfl ⟨by omega, by omega⟩) ?_
    refine wmv rfl rfl ?_
    refine wl_nil ?_
    obtain rfl := Option.some.inj hx
    replace hM := hM.t0
    have hM := hM.fewer (rsC (.tail _ (.tail _ (.head _))) (rsC (.tail _ (.tail _ (.tail _ (.head _)))) rsN))
    replace hM : St ⟨w, X, S⟩ [] [rV s_s2_.v (cSl 3 fDEntry s2_), rV s_s1_.v (cSl 3 fDEntry s1_)] _ := hM
    exact lp_end (m116, k110 + 1) (Nat.lt_succ_self _) ⟨rfl, rfl, rfl, rfl, rfl, trivial⟩ ⟨hM, hx118, hk111⟩
  ·
   replace hc115 := of_decide_eq_false hc115
   obtain rfl := eachN_end hx hk111 hc115
   refine wc_exit ?_
   refine sq_exit ?_
   refine lp1_exit ?_
   replace hx := hx108
   try dsimp only [Sum.elim_inl, Sum.elim_inr] at hx
   refine bk_here ?_
   refine sq_n ?_
   refine wc_sr ?_
   refine was rfl rfl ?_
   refine wl_sq ?_
   refine wc_ret ?_
   obtain rfl := Option.some.inj hx
   refine fin_ret [(.bool true)] ⟨rfl, trivial⟩ ?_
   replace hM := hM.t0
   have hM := hM.fewer rsN
   exact ⟨(), rfl, hM.gives⟩

noncomputable def x_slices_Equal_impl_Seen_impl_Seen_b0 (s2_ : List DSeen) (_s1_ : List DSeen) (k11 : Nat) (x52 : DSeen) : Option (Lr Unit (Sum Unit Unit)) :=
  xg (0 ≤ (k11 : Int) ∧ (k11 : Int) < (s2_.length : Int)) <| bif !((decide ((x52.client) = ((el s2_ k11).client)) && decide ((x52.seq) = ((el s2_ k11).seq))) && decide ((x52.rev) = ((el s2_ k11).rev))) then (some (Lr.out (Sum.inr (())))) else (some (Lr.go ()))
noncomputable def x_slices_Equal_impl_Seen_impl_Seen_f0 (s2_ : List DSeen) (s1_ : List DSeen) (k11 : Nat) (_s53 : Unit) : Option (Lr Unit (Sum Unit Unit)) := x_slices_Equal_impl_Seen_impl_Seen_b0 s2_ s1_ k11 (el s1_ k11)
noncomputable def x_slices_Equal_impl_Seen_impl_Seen (s1_ : List DSeen) (s2_ : List DSeen) : Option Bool :=
  bif !decide ((s1_.length : Int) = (s2_.length : Int)) then (some false) else (Option.bind (eachN (x_slices_Equal_impl_Seen_impl_Seen_f0 s2_ s1_) (fun (_s53 : Unit) => (Sum.inl () : Sum Unit Unit)) s1_.length 0 ()) fun (y54 : Sum Unit Unit) => Sum.elim (fun _y55 => some true) (fun _y56 => some false) y54)
theorem ct_slices_Equal_impl_Seen_impl_Seen (w : World) (X S : Bs) (s1_ : List DSeen) (s_s1_ : Sv) (s2_ : List DSeen) (s_s2_ : Sv) (hS : ∀ b, S b → b < w.heap.size ∧ ¬ X b) (a_s1__0 : (cSl 3 fDSeen s1_).rd S w s_s1_.v) (a_s2__0 : (cSl 3 fDSeen s2_).rd S w s_s2_.v) (oL : Sep [] X w) {r : Bool} (hx : x_slices_Equal_impl_Seen_impl_Seen s1_ s2_ = some r) :
  Ret Tryz.prog 53 [s_s1_.v, s_s2_.v] w (fun u w' => ∃ _ : Unit, u = (.bool r) ∧ Gives X S w [] [] w') := by
 unfold x_slices_Equal_impl_Seen_impl_Seen at hx
 refine enter Tryz.func53 rfl Tryz.ntmps53 (by kernel_rfl) rfl ?_
 have hM := St.enter oL hS
 have hM := hM.addE (r := rV s_s1_.v (cSl 3 fDSeen s1_)) a_s1__0
 have hM := hM.addE (r := rV s_s2_.v (cSl 3 fDSeen s2_)) a_s2__0
 refine wc_sr ?_
 refine was rfl rfl ?_
 refine wl_sq ?_
 refine wc_seq ?_
 refine wc_sr ?_
 refine wmv rfl rfl ?_
 refine wv rfl (r_lenC Tryz.underlying25 rfl (hM.seeR (.tail _ (.head _)))) ?_
 refine wmv rfl rfl ?_
 refine wv rfl (r_lenC Tryz.underlying25 rfl (hM.seeR (.head _))) ?_
 refine wv rfl (r_neq rfl rfl) ?_
 refine wl_sq ?_
 refine wc_cond rfl (fun hc64 => ?_) (fun hc64 => ?_)
 ·
  replace hx := xif_t hc64 hx
  refine wc_sr ?_
  refine was rfl rfl ?_
  refine wl_sq ?_
  refine wc_ret ?_
  refine sq_ret ?_
  obtain rfl := Option.some.inj hx
  refine fin_ret [(.bool false)] ⟨rfl, trivial⟩ ?_
  replace hM := hM.t0
  have hM := hM.fewer rsN
  exact ⟨(), rfl, hM.gives⟩
 ·
  replace hx := xif_f hc64 hx
  refine wc_skip ?_
  refine sq_n ?_
  refine wc_seq ?_
  refine wc_sr ?_
  refine wmv rfl rfl ?_
  refine wv rfl (r_lenC Tryz.underlying25 rfl (hM.seeR (.tail _ (.head _)))) ?_
  refine wmv rfl rfl ?_
  refine wl_sq ?_
  refine wc_block ?_
  obtain ⟨y69, hx, hx70⟩ := bind_some' hx
  have hM := hM.fewer (rsC (.tail _ (.head _)) (rsC (.head _) rsN))
  replace hM : St ⟨w, X, S⟩ [] [rV s_s1_.v (cSl 3 fDSeen s1_), rV s_s2_.v (cSl 3 fDSeen s2_)] _ := hM
  have hl74 := Cs.le (hM.seeR (.head _))
  refine wc_loop (un fun (m71 : Nat) => fun (k72 : Nat) => [(0, s_s1_.v), (1, s_s2_.v), (12, (.int .i64 (s1_.length : Int))), (13, (.int .i64 (k72 : Int)))]) (un fun (m71 : Nat) => fun (k72 : Nat) w' => St ⟨w, X, S⟩ [] [rV s_s1_.v (cSl 3 fDSeen s1_), rV s_s2_.v (cSl 3 fDSeen s2_)] w' ∧ eachN _ _ m71 k72 () = some y69 ∧ k72 + m71 = s1_.length) (fun p => p.1) (s1_.length, 0) ⟨rfl, rfl, rfl, rfl, trivial⟩ ⟨hM, hx, Nat.zero_add _⟩ ?_
  rintro ⟨m71, k72⟩ w75 ⟨hM, hx, hk73⟩
  refine wc_sr ?_
  refine wv rfl (r_lss rfl rfl) ?_
  refine wl_sq ?_
  refine wc_seq ?_
  refine wc_cond rfl (fun hc77 => ?_) (fun hc77 => ?_)
  ·
   replace hc77 := of_decide_eq_true hc77
   obtain ⟨m78, z79, rfl, hk73, hx, hx80⟩ := eachN_step hx hk73 hc77
   unfold x_slices_Equal_impl_Seen_impl_Seen_f0 x_slices_Equal_impl_Seen_impl_Seen_b0 at hx
   try dsimp only at hx
   refine wc_skip ?_
   refine sq_n ?_
   refine wc_seq ?_
   refine wc_block ?_
   refine wc_sr ?_
   refine wmv rfl rfl ?_
   refine was rfl rfl ?_
   refine wl_sq ?_
   refine wc_seq ?_
   refine wc_draw [(0, 0), (1, 0), (2, 0), (3, 0), (4, 0), (5, 0), (6, 0), (7, 0), (8, 0)] Tryz_mixed (by kernel_rfl) rfl (by kernel_rfl) rfl ?_
   refine omv rfl rfl ?_
   refine omv rfl rfl ?_
   have hi86 : k72 < s1_.length := by omega
   refine ov rfl (fun w' h' => r_ixC Tryz.underlying25 sz83 rfl rfl ((hM.call h').seeR (.head _)) ⟨by omega, hc77⟩) ?_
   refine ov rfl (fun w' h' => r_ldC (o := k72 * 3) Tryz.underlying83 sz83 rfl (us := [(.int .i64 ((el s1_ k72).client)), (.int .i64 ((el s1_ k72).seq)), (.int .i64 ((el s1_ k72).rev))]) rfl ((hM.call h').seeR (.head _)) hi86 ⟨(Cs.get (i := k72) (j := 0) ((hM.call h').seeR (.head _)) (fun _ => rfl) hi86 rfl), (Cs.get (i := k72) (j := 1) ((hM.call h').seeR (.head _)) (fun _ => rfl) hi86 rfl), (Cs.get (i := k72) (j := 2) ((hM.call h').seeR (.head _)) (fun _ => rfl) hi86 rfl), trivial⟩) ?_
   refine omv rfl rfl ?_
   refine omv rfl rfl ?_
   obtain ⟨hg92, hx⟩ := xg_some hx
   have hi91 : k72 < s2_.length := by omega
   refine ov rfl (fun w' h' => r_ixC Tryz.underlying25 sz83 rfl rfl ((hM.call h').seeR (.tail _ (.head _))) hg92) ?_
   refine ov rfl (fun w' h' => r_ldC (o := k72 * 3) Tryz.underlying83 sz83 rfl (us := [(.int .i64 ((el s2_ k72).client)), (.int .i64 ((el s2_ k72).seq)), (.int .i64 ((el s2_ k72).rev))]) rfl ((hM.call h').seeR (.tail _ (.head _))) hi91 ⟨(Cs.get (i := k72) (j := 0) ((hM.call h').seeR (.tail _ (.head _))) (fun _ => rfl) hi91 rfl), (Cs.get (i := k72) (j := 1) ((hM.call h').seeR (.tail _ (.head _))) (fun _ => rfl) hi91 rfl), (Cs.get (i := k72) (j := 2) ((hM.call h').seeR (.tail _ (.head _))) (fun _ => rfl) hi91 rfl), trivial⟩) ?_
   refine ov rfl (fun w' h' => r_neq3 (by kernel_rfl) (by kernel_rfl) (by kernel_rfl) (e := 3) (by kernel_rfl) Tryz.underlying3 rfl rfl) ?_
   refine o_nilM hM fun w95 hM => ?_
   refine sq_n ?_
   refine wc_cond rfl (fun hc97 => ?_) (fun hc97 => ?_)
   ·
    replace hx := xif_t hc97 hx
    refine wc_sr ?_
    refine was rfl rfl ?_
    refine wl_sq ?_
    refine wc_ret ?_
    refine bk_ret ?_
    refine sq_ret ?_
    refine lp1_ret ?_
    obtain rfl := Option.some.inj hx
    obtain rfl := Option.some.inj hx80
    replace hx := hx70
    try dsimp only [Sum.elim_inl, Sum.elim_inr] at hx
    refine bk_ret ?_
    refine sq_ret ?_
    obtain rfl := Option.some.inj hx
    refine fin_ret [(.bool false)] ⟨rfl, trivial⟩ ?_
    replace hM := hM.t0
    have hM := hM.fewer rsN
    exact ⟨(), rfl, hM.gives⟩
   ·
    replace hx := xif_f hc97 hx
    refine wc_skip ?_
    refine bk_n ?_
    refine sq_n ?_
    refine wc_region ?_
    refine wv rfl (r_add rfl rfl ⟨by omega, by omega⟩) ?_
    refine wmv rfl rfl ?_
    refine wl_nil ?_
    obtain rfl := Option.some.inj hx
    exact lp_end (m78, k72 + 1) (Nat.lt_succ_self _) ⟨rfl, rfl, rfl, rfl, trivial⟩ ⟨hM, hx80, hk73⟩
  ·
   replace hc77 := of_decide_eq_false hc77
   obtain rfl := eachN_end hx hk73 hc77
   refine wc_exit ?_
   refine sq_exit ?_
   refine lp1_exit ?_
   replace hx := hx70
   try dsimp only [Sum.elim_inl, Sum.elim_inr] at hx
   refine bk_here ?_
   refine sq_n ?_
   refine wc_sr ?_
   refine was rfl rfl ?_
   refine wl_sq ?_
   refine wc_ret ?_
   obtain rfl := Option.some.inj hx
   refine fin_ret [(.bool true)] ⟨rfl, trivial⟩ ?_
   replace hM := hM.t0
   have hM := hM.fewer rsN
   exact ⟨(), rfl, hM.gives⟩

noncomputable def x_impl_DocSame (a : DDoc) (b : DDoc) : Option Bool :=
  Option.bind (bif decide (a.name = b.name) then (some (decide (a.from_ = b.from_))) else (some false)) fun c16 => Option.bind (bif c16 then (Option.bind (x_slices_Equal_int_int a.text b.text) fun r43 => some r43) else (some false)) fun c29 => Option.bind (bif c29 then (Option.bind (x_slices_EqualFunc_impl_Entry_impl_Entry_impl_Entry_impl_Entry a.list b.list) fun r62 => some r62) else (some false)) fun c48 => Option.bind (bif c48 then (Option.bind (x_slices_Equal_impl_Seen_impl_Seen a.seen b.seen) fun r81 => some r81) else (some false)) fun c67 => some c67
theorem ct_impl_DocSame (w : World) (X S : Bs) (a : DDoc) (s_a_2 : Sv) (s_a_3 : Sv) (s_a_4 : Sv) (b : DDoc) (s_b_2 : Sv) (s_b_3 : Sv) (s_b_4 : Sv) (hS : ∀ b, S b → b < w.heap.size ∧ ¬ X b) (a_a_2 : (cSl 1 fI a.text).rd S w s_a_2.v) (a_a_3 : (cSl 3 fDEntry a.list).rd S w s_a_3.v) (a_a_4 : (cSl 3 fDSeen a.seen).rd S w s_a_4.v) (a_b_2 : (cSl 1 fI b.text).rd S w s_b_2.v) (a_b_3 : (cSl 3 fDEntry b.list).rd S w s_b_3.v) (a_b_4 : (cSl 3 fDSeen b.seen).rd S w s_b_4.v) (oL : Sep [] X w) {r : Bool} (hx : x_impl_DocSame a b = some r) :
  Ret Tryz.prog 24 [(.agg #[(.string a.name), (.int .i64 a.from_), s_a_2.v, s_a_3.v, s_a_4.v]), (.agg #[(.string b.name), (.int .i64 b.from_), s_b_2.v, s_b_3.v, s_b_4.v])] w (fun u w' => ∃ _ : Unit, u = (.bool r) ∧ Gives X S w [] [] w') := by
 unfold x_impl_DocSame at hx
 refine enter Tryz.func24 rfl Tryz.ntmps24 (by kernel_rfl) rfl ?_
 have hM := St.enter oL hS
 have hM := hM.addE (r := rV s_a_2.v (cSl 1 fI a.text)) a_a_2
 have hM := hM.addE (r := rV s_a_3.v (cSl 3 fDEntry a.list)) a_a_3
 have hM := hM.addE (r := rV s_a_4.v (cSl 3 fDSeen a.seen)) a_a_4
 have hM := hM.addE (r := rV s_b_2.v (cSl 1 fI b.text)) a_b_2
 have hM := hM.addE (r := rV s_b_3.v (cSl 3 fDEntry b.list)) a_b_3
 have hM := hM.addE (r := rV s_b_4.v (cSl 3 fDSeen b.seen)) a_b_4
 refine wc_sr ?_
 refine w_ex rfl (x_box rfl hM ?_); intro b87 w86 hR88 hM
 dsimp only [Value.cells] at hM
 refine w_ex rfl (x_box rfl hM ?_); intro b91 w90 hR92 hM
 dsimp only [Value.cells] at hM
 refine was rfl rfl ?_
 refine wl_sq ?_
 refine wc_sr ?_
 refine wv rfl (r_fld Tryz.underlying27 rfl rfl sz9 rfl) ?_
 refine wv rfl (r_ldB Tryz.underlying9 rfl rfl hM (.tail _ (.head _)) rfl) ?_
 refine wv rfl (r_fld Tryz.underlying27 rfl rfl sz9 rfl) ?_
 refine wv rfl (r_ldB Tryz.underlying9 rfl rfl hM (.head _) rfl) ?_
 refine wv rfl (r_eqls rfl rfl) ?_
 refine wmv rfl rfl ?_
 obtain ⟨c101, hx, hx108⟩ := bind_some' hx
 refine wl_mid 6 (fun _ : Unit => [(16, (.bool c101)), (2, (.pointer (some ⟨b87, 0, none⟩))), (3, (.pointer (some ⟨b91, 0, none⟩)))]) (fun _ w' => St ⟨w, X, S⟩ [oBox b91 #[(.string b.name), (.int .i64 b.from_), s_b_2.v, s_b_3.v, s_b_4.v] 27, oBox b87 #[(.string a.name), (.int .i64 a.from_), s_a_2.v, s_a_3.v, s_a_4.v] 27] [rV s_b_4.v (cSl 3 fDSeen b.seen), rV s_b_3.v (cSl 3 fDEntry b.list), rV s_b_2.v (cSl 1 fI b.text), rV s_a_4.v (cSl 3 fDSeen a.seen), rV s_a_3.v (cSl 3 fDEntry a.list), rV s_a_2.v (cSl 1 fI a.text)] w') ?_ ?_
 ·
  rcases Bool.eq_false_or_eq_true (decide (a.name = b.name)) with hg102 | hg102
  ·
   replace hx := xif_t hg102 hx
   refine gv rfl hg102 rfl (r_fld Tryz.underlying27 rfl rfl sz3 rfl) ?_
   refine gv rfl hg102 rfl (r_ldB Tryz.underlying3 rfl rfl hM (.tail _ (.head _)) rfl) ?_
   refine gv rfl hg102 rfl (r_fld Tryz.underlying27 rfl rfl sz3 rfl) ?_
   refine gv rfl hg102 rfl (r_ldB Tryz.underlying3 rfl rfl hM (.head _) rfl) ?_
   refine gv rfl hg102 rfl (r_eql rfl rfl) ?_
   refine wv rfl (p_t rfl hg102 rfl) ?_
   obtain rfl := Option.some.inj hx
   exact mid_nil () ⟨rfl, rfl, rfl, trivial⟩ hM
  ·
   replace hx := xif_f hg102 hx
   refine gs rfl (isB_no hg102) rfl ?_
   refine gs rfl (isB_no hg102) rfl ?_
   refine gs rfl (isB_no hg102) rfl ?_
   refine gs rfl (isB_no hg102) rfl ?_
   refine gs rfl (isB_no hg102) rfl ?_
   refine wv rfl (p_f rfl hg102 rfl) ?_
   obtain rfl := Option.some.inj hx
   exact mid_nil () ⟨rfl, rfl, rfl, trivial⟩ hM
 rintro _ w114 hM
 replace hx := hx108
 refine wmv rfl rfl ?_
 obtain ⟨c116, hx, hx126⟩ := bind_some' hx
 refine wl_mid 6 (fun _ : Unit => [(23, (.bool c116)), (2, (.pointer (some ⟨b87, 0, none⟩))), (3, (.pointer (some ⟨b91, 0, none⟩)))]) (fun _ w' => St ⟨w, X, S⟩ [oBox b91 #[(.string b.name), (.int .i64 b.from_), s_b_2.v, s_b_3.v, s_b_4.v] 27, oBox b87 #[(.string a.name), (.int .i64 a.from_), s_a_2.v, s_a_3.v, s_a_4.v] 27] [rV s_b_4.v (cSl 3 fDSeen b.seen), rV s_b_3.v (cSl 3 fDEntry b.list), rV s_b_2.v (cSl 1 fI b.text), rV s_a_4.v (cSl 3 fDSeen a.seen), rV s_a_3.v (cSl 3 fDEntry a.list), rV s_a_2.v (cSl 1 fI a.text)] w') ?_ ?_
 ·
  rcases Bool.eq_false_or_eq_true c101 with hg117 | hg117
  ·
   replace hx := xif_t hg117 hx
   refine gv rfl hg117 rfl (r_fld Tryz.underlying27 rfl rfl sz23 rfl) ?_
   refine gv rfl hg117 rfl (r_ldB Tryz.underlying23 rfl rfl hM (.tail _ (.head _)) rfl) ?_
   refine gv rfl hg117 rfl (r_fld Tryz.underlying27 rfl rfl sz23 rfl) ?_
   refine gv rfl hg117 rfl (r_ldB Tryz.underlying23 rfl rfl hM (.head _) rfl) ?_
   obtain ⟨r131, h132, hx⟩ := bind_some' hx
   refine gc rfl hg117 rfl rfl (hM.callV fun X S oL hS hR hO => ct_slices_Equal_int_int _ X S a.text s_a_2 b.text s_b_2 hS (hR _ (.tail _ (.tail _ (.tail _ (.tail _ (.tail _ (.head _))))))) (hR _ (.tail _ (.tail _ (.head _)))) oL h132) ?_
   rintro _ w133 ⟨rfl, hR134⟩
   have hM := hM.call hR134
   refine wv rfl (p_t rfl hg117 rfl) ?_
   obtain rfl := Option.some.inj hx
   exact mid_nil () ⟨rfl, rfl, rfl, trivial⟩ hM
  ·
   replace hx := xif_f hg117 hx
   refine gs rfl (isB_no hg117) rfl ?_
   refine gs rfl (isB_no hg117) rfl ?_
   refine gs rfl (isB_no hg117) rfl ?_
   refine gs rfl (isB_no hg117) rfl ?_
   refine gs rfl (isB_no hg117) rfl ?_
   refine wv rfl (p_f rfl hg117 rfl) ?_
   obtain rfl := Option.some.inj hx
   exact mid_nil () ⟨rfl, rfl, rfl, trivial⟩ hM
 rintro _ w135 hM
 replace hx := hx126
 refine wmv rfl rfl ?_
 obtain ⟨c137, hx, hx147⟩ := bind_some' hx
 refine wl_mid 6 (fun _ : Unit => [(30, (.bool c137)), (2, (.pointer (some ⟨b87, 0, none⟩))), (3, (.pointer (some ⟨b91, 0, none⟩)))]) (fun _ w' => St ⟨w, X, S⟩ [oBox b91 #[(.string b.name), (.int .i64 b.from_), s_b_2.v, s_b_3.v, s_b_4.v] 27, oBox b87 #[(.string a.name), (.int .i64 a.from_), s_a_2.v, s_a_3.v, s_a_4.v] 27] [rV s_b_4.v (cSl 3 fDSeen b.seen), rV s_b_3.v (cSl 3 fDEntry b.list), rV s_b_2.v (cSl 1 fI b.text), rV s_a_4.v (cSl 3 fDSeen a.seen), rV s_a_3.v (cSl 3 fDEntry a.list), rV s_a_2.v (cSl 1 fI a.text)] w') ?_ ?_
 ·
  rcases Bool.eq_false_or_eq_true c116 with hg138 | hg138
  ·
   replace hx := xif_t hg138 hx
   refine gv rfl hg138 rfl (r_fld Tryz.underlying27 rfl rfl sz24 rfl) ?_
   refine gv rfl hg138 rfl (r_ldB Tryz.underlying24 rfl rfl hM (.tail _ (.head _)) rfl) ?_
   refine gv rfl hg138 rfl (r_fld Tryz.underlying27 rfl rfl sz24 rfl) ?_
   refine gv rfl hg138 rfl (r_ldB Tryz.underlying24 rfl rfl hM (.head _) rfl) ?_
   obtain ⟨r152, h153, hx⟩ := bind_some' hx
   refine gc rfl hg138 rfl rfl (hM.callV fun X S oL hS hR hO => ct_slices_EqualFunc_impl_Entry_impl_Entry_impl_Entry_impl_Entry _ X S a.list s_a_3 b.list s_b_3 hS (hR _ (.tail _ (.tail _ (.tail _ (.tail _ (.head _)))))) (hR _ (.tail _ (.head _))) oL h153) ?_
   rintro _ w154 ⟨rfl, hR155⟩
   have hM := hM.call hR155
   refine wv rfl (p_t rfl hg138 rfl) ?_
   obtain rfl := Option.some.inj hx
   exact mid_nil () ⟨rfl, rfl, rfl, trivial⟩ hM
  ·
   replace hx := xif_f hg138 hx
   refine gs rfl (isB_no hg138) rfl ?_
   refine gs rfl (isB_no hg138) rfl ?_
   refine gs rfl (isB_no hg138) rfl ?_
   refine gs rfl (isB_no hg138) rfl ?_
   refine gs rfl (isB_no hg138) rfl ?_
   refine wv rfl (p_f rfl hg138 rfl) ?_
   obtain rfl := Option.some.inj hx
   exact mid_nil () ⟨rfl, rfl, rfl, trivial⟩ hM
 rintro _ w156 hM
 replace hx := hx147
 refine wmv rfl rfl ?_
 obtain ⟨c158, hx, hx168⟩ := bind_some' hx
 refine wl_mid 6 (fun _ : Unit => [(37, (.bool c158))]) (fun _ w' => St ⟨w, X, S⟩ [oBox b91 #[(.string b.name), (.int .i64 b.from_), s_b_2.v, s_b_3.v, s_b_4.v] 27, oBox b87 #[(.string a.name), (.int .i64 a.from_), s_a_2.v, s_a_3.v, s_a_4.v] 27] [rV s_b_4.v (cSl 3 fDSeen b.seen), rV s_b_3.v (cSl 3 fDEntry b.list), rV s_b_2.v (cSl 1 fI b.text), rV s_a_4.v (cSl 3 fDSeen a.seen), rV s_a_3.v (cSl 3 fDEntry a.list), rV s_a_2.v (cSl 1 fI a.text)] w') ?_ ?_
 ·
  rcases Bool.eq_false_or_eq_true c137 with hg159 | hg159
  ·
   replace hx := xif_t hg159 hx
   refine gv rfl hg159 rfl (r_fld Tryz.underlying27 rfl rfl sz25 rfl) ?_
   refine gv rfl hg159 rfl (r_ldB Tryz.underlying25 rfl rfl hM (.tail _ (.head _)) rfl) ?_
   refine gv rfl hg159 rfl (r_fld Tryz.underlying27 rfl rfl sz25 rfl) ?_
   refine gv rfl hg159 rfl (r_ldB Tryz.underlying25 rfl rfl hM (.head _) rfl) ?_
   obtain ⟨r173, h174, hx⟩ := bind_some' hx
   refine gc rfl hg159 rfl rfl (hM.callV fun X S oL hS hR hO => ct_slices_Equal_impl_Seen_impl_Seen _ X S a.seen s_a_4 b.seen s_b_4 hS (hR _ (.tail _ (.tail _ (.tail _ (.head _))))) (hR _ (.head _)) oL h174) ?_
   rintro _ w175 ⟨rfl, hR176⟩
   have hM := hM.call hR176
   refine wv rfl (p_t rfl hg159 rfl) ?_
   obtain rfl := Option.some.inj hx
   exact mid_nil () ⟨rfl, trivial⟩ hM
  ·
   replace hx := xif_f hg159 hx
   refine gs rfl (isB_no hg159) rfl ?_
   refine gs rfl (isB_no hg159) rfl ?_
   refine gs rfl (isB_no hg159) rfl ?_
   refine gs rfl (isB_no hg159) rfl ?_
   refine gs rfl (isB_no hg159) rfl ?_
   refine wv rfl (p_f rfl hg159 rfl) ?_
   obtain rfl := Option.some.inj hx
   exact mid_nil () ⟨rfl, trivial⟩ hM
 rintro _ w177 hM
 replace hx := hx168
 refine was rfl rfl ?_
 refine wl_sq ?_
 refine wc_ret ?_
 obtain rfl := Option.some.inj hx
 refine fin_ret [(.bool c158)] ⟨rfl, trivial⟩ ?_
 replace hM := hM.t0
 have hM := hM.fewer rsN
 exact ⟨(), rfl, hM.gives⟩

end Go.Proofs.YtlgmikaemfbmaaaGreat
