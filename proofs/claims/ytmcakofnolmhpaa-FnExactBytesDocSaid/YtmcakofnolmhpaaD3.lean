/- Walks of functions of this program (printed by a program of ours, by the rules of the layer). No condition. -/
import Derived.Test.YtmcakofnolmhpaaD2
import Derived.Test.YtmcakofnolmhpaaNs
import Derived.Test.YtmcakofnolmhpaaNt
namespace Go.Proofs.Ytmcakofnolmhpaa
open Go.RowKit

noncomputable def x_impl_GetNum_b0 (at_ : Int) (b : List UInt8) (n19 : Int) (i20 : Int) : Option (Lr (Int × Int) (Sum Unit (Int × Int × Bool))) :=
  Option.bind (bif decide (i20 < 5) then (xg (inI (at_ + i20)) <| some (decide ((at_ + i20) < (b.length : Int)))) else (some false)) fun c101 => bif c101 then (xg (inI (at_ + i20)) <| xg (0 ≤ (at_ + i20) ∧ (at_ + i20) < (b.length : Int)) <| xg (0 ≤ ((el b ((at_ + i20).toNat)).toNat : Int) ∧ 0 < (128 : Int)) <| xg (inI (7 * i20)) <| xg (0 ≤ (7 * i20)) <| xg (inI (n19 + (bShl (((el b ((at_ + i20).toNat)).toNat : Int) % 128) (7 * i20)))) <| bif decide (((el b ((at_ + i20).toNat)).toNat : Int) < 128) then (Option.bind (bif decide (((el b ((at_ + i20).toNat)).toNat : Int) = 0) then (some (decide ((0 : Int) < i20))) else (some false)) fun c145 => Option.bind (bif c145 then (some true) else (some (decide ((1114111000 : Int) < (n19 + (bShl (((el b ((at_ + i20).toNat)).toNat : Int) % 128) (7 * i20))))))) fun c152 => bif c152 then (some (Lr.out (Sum.inr ((0, 0, false))))) else (xg (inI (at_ + i20)) <| xg (inI ((at_ + i20) + 1)) <| some (Lr.out (Sum.inr ((n19 + (bShl (((el b ((at_ + i20).toNat)).toNat : Int) % 128) (7 * i20)), (at_ + i20) + 1, true)))))) else (xg (inI (i20 + 1)) <| some (Lr.go (n19 + (bShl (((el b ((at_ + i20).toNat)).toNat : Int) % 128) (7 * i20)), i20 + 1)))) else (some (Lr.out (Sum.inl ())))
noncomputable def x_impl_GetNum_f0 (at_ : Int) (b : List UInt8) (s175 : Int × Int) : Option (Lr (Int × Int) (Sum Unit (Int × Int × Bool))) := x_impl_GetNum_b0 at_ b s175.1 s175.2
noncomputable def x_impl_GetNum (b : List UInt8) (at_ : Int) : Option (Int × Int × Bool) :=
  xg (inI ((b.length : Int) - 1)) <| Option.bind (x_impl_within at_ 0 ((b.length : Int) - 1)) fun r9 => bif !r9 then (some (0, 0, false)) else (Option.bind (iter (x_impl_GetNum_f0 at_ b) (0, 0)) fun (y176 : Sum Unit (Int × Int × Bool)) => Sum.elim (fun _y177 => some (0, 0, false)) (fun y178 => some (y178.1, y178.2.1, y178.2.2)) y176)
theorem ct_impl_GetNum (w : World) (X S : Bs) (b : List UInt8) (s_b : Sv) (at_ : Int) (hS : ∀ b, S b → b < w.heap.size ∧ ¬ X b) (a_b_0 : (cSl 1 fY b).rd S w s_b.v) (oL : Sep [] X w) {r : Int × Int × Bool} (hx : x_impl_GetNum b at_ = some r) :
    Ret Try.prog 35 [s_b.v, (.int .i64 at_)] w (fun u w' => ∃ _ : Unit, u = .tuple #[(.int .i64 r.1), (.int .i64 r.2.1), (.bool r.2.2)] ∧ Gives X S w [] [] w') := by
  unfold x_impl_GetNum at hx
  refine enter Try.func35 rfl Try.ntmps35 (by kernel_rfl) rfl ?_
  have hM := St.enter oL hS
  have hM := hM.addE (r := rV s_b.v (cSl 1 fY b)) a_b_0
  refine wc_seq ?_
  refine wc_region ?_
  refine wv rfl (r_assign rfl) ?_
  refine wv rfl (r_assign rfl) ?_
  refine wv rfl (r_assign rfl) ?_
  refine wl_nil ?_
  refine sq_n ?_
  refine wc_seq ?_
  refine wc_seq ?_
  refine wc_region ?_
  refine wv rfl (r_move rfl) ?_
  refine wv rfl (r_move rfl) ?_
  refine wv rfl (r_lenC Try.underlying22 rfl (hM.seeR (.head _))) ?_
  obtain ⟨hg189, hx⟩ := xg_some hx
  refine wv rfl (r_sub rfl rfl hg189) ?_
  obtain ⟨r190, h191, hx⟩ := bind_some' hx
  refine w_call rfl rfl (hM.callV fun X S oL hS hR hO => ct_impl_within _ X S at_ (0 : Int) ((b.length : Int) - 1) hS  oL h191) ?_
  rintro _ w192 ⟨rfl, hR193⟩
  have hM := hM.call hR193
  refine wv rfl (r_not rfl) ?_
  refine wl_nil ?_
  refine sq_n ?_
  refine wc_cond rfl (fun hc195 => ?_) (fun hc195 => ?_)
  · replace hx := xif_t hc195 hx
    refine wc_seq ?_
    refine wc_region ?_
    refine wv rfl (r_assign rfl) ?_
    refine wv rfl (r_assign rfl) ?_
    refine wv rfl (r_assign rfl) ?_
    refine wl_nil ?_
    refine sq_n ?_
    refine wc_ret ?_
    refine sq_ret ?_
    obtain rfl := Option.some.inj hx
    refine fin_ret [(.int .i64 0), (.int .i64 0), (.bool false)] ⟨rfl, rfl, rfl, trivial⟩ ?_
    replace hM := hM.t0
    have hM := hM.fewer rsN
    exact ⟨(), rfl, hM.gives⟩
  · replace hx := xif_f hc195 hx
    refine wc_skip ?_
    refine sq_n ?_
    refine wc_seq ?_
    refine wc_region ?_
    refine wv rfl (r_assign rfl) ?_
    refine wl_nil ?_
    refine sq_n ?_
    refine wc_seq ?_
    refine wc_seq ?_
    refine wc_region ?_
    refine wv rfl (r_assign rfl) ?_
    refine wl_nil ?_
    refine sq_n ?_
    refine wc_block ?_
    obtain ⟨y201, hx, hx202⟩ := bind_some' hx
    obtain ⟨m207, hx⟩ := iter_run hx
    refine wc_loop (un fun (m205 : Nat) => un fun (n203 : Int) => fun (i204 : Int) => [(0, s_b.v), (1, (.int .i64 at_)), (7, (.int .i64 n203)), (8, (.int .i64 i204))]) (un fun (m205 : Nat) => un fun (n203 : Int) => fun (i204 : Int) w' => St ⟨w, X, S⟩ [] [rV s_b.v (cSl 1 fY b)] w' ∧ iterN _ m205 (n203, i204) = some y201) (fun p => p.1) (m207, 0, 0) ⟨rfl, rfl, rfl, rfl, trivial⟩ ⟨hM, hx⟩ ?_
    rintro ⟨m205, n203, i204⟩ w208 ⟨hM, hx⟩
    obtain ⟨m209, z210, rfl, hx, hx211⟩ := iterN_step hx
    unfold x_impl_GetNum_f0 x_impl_GetNum_b0 at hx
    try dsimp only at hx
    refine wc_seq ?_
    refine wc_seq ?_
    refine wc_region ?_
    refine wv rfl (r_move rfl) ?_
    refine wv rfl (r_lss rfl rfl) ?_
    refine wv rfl (r_move rfl) ?_
    obtain ⟨c215, hx, hx224⟩ := bind_some' hx
    refine wl_mid 7 (fun _ : Unit => [(25, (.bool c215)), (0, s_b.v), (1, (.int .i64 at_)), (7, (.int .i64 n203)), (8, (.int .i64 i204))]) (fun _ w' => St ⟨w, X, S⟩ [] [rV s_b.v (cSl 1 fY b)] w') ?_ ?_
    · rcases Bool.eq_false_or_eq_true (decide (i204 < 5)) with hg216 | hg216
      · replace hx := xif_t hg216 hx
        refine gv rfl hg216 rfl (r_move rfl) ?_
        refine gv rfl hg216 rfl (r_move rfl) ?_
        obtain ⟨hg228, hx⟩ := xg_some hx
        refine gv rfl hg216 rfl (r_add rfl rfl hg228) ?_
        refine gv rfl hg216 rfl (r_move rfl) ?_
        refine gv rfl hg216 rfl (r_lenC Try.underlying22 rfl (hM.seeR (.head _))) ?_
        refine gv rfl hg216 rfl (r_lss rfl rfl) ?_
        refine wv rfl (p_t rfl hg216 rfl) ?_
        obtain rfl := Option.some.inj hx
        exact mid_nil () ⟨rfl, rfl, rfl, rfl, rfl, trivial⟩ hM
      · replace hx := xif_f hg216 hx
        refine gs rfl (isB_no hg216) rfl ?_
        refine gs rfl (isB_no hg216) rfl ?_
        refine gs rfl (isB_no hg216) rfl ?_
        refine gs rfl (isB_no hg216) rfl ?_
        refine gs rfl (isB_no hg216) rfl ?_
        refine gs rfl (isB_no hg216) rfl ?_
        refine wv rfl (p_f rfl hg216 rfl) ?_
        obtain rfl := Option.some.inj hx
        exact mid_nil () ⟨rfl, rfl, rfl, rfl, rfl, trivial⟩ hM
    rintro _ w232 hM
    replace hx := hx224
    refine wl_nil ?_
    refine sq_n ?_
    refine wc_cond rfl (fun hc233 => ?_) (fun hc233 => ?_)
    · replace hx := xif_t hc233 hx
      refine wc_skip ?_
      refine sq_n ?_
      refine wc_seq ?_
      refine wc_block ?_
      refine wc_seq ?_
      refine wc_region ?_
      refine wv rfl (r_move rfl) ?_
      refine wv rfl (r_move rfl) ?_
      refine wv rfl (r_move rfl) ?_
      obtain ⟨hg238, hx⟩ := xg_some hx
      refine wv rfl (r_add rfl rfl hg238) ?_
      obtain ⟨hg241, hx⟩ := xg_some hx
      have hi240 : ((at_ + i204).toNat) < b.length := by omega
      refine wv rfl (r_ixC Try.underlying22 sz5 rfl rfl (hM.seeR (.head _)) hg241) ?_
      refine wv rfl (r_ld Try.underlying5 rfl rfl (Cs.get (i := ((at_ + i204).toNat)) (j := 0) (hM.seeR (.head _)) (fun _ => rfl) hi240 rfl)) ?_
      refine wv rfl (r_cvt Try.underlying5 Try.underlying3 rfl (u8_cvt _)) ?_
      refine wv rfl (r_assign rfl) ?_
      refine wl_nil ?_
      refine sq_n ?_
      refine wc_seq ?_
      refine wc_region ?_
      refine wv rfl (r_move rfl) ?_
      refine wv rfl (r_move rfl) ?_
      obtain ⟨hg248, hx⟩ := xg_some hx
      refine wv rfl (r_rem rfl rfl hg248) ?_
      refine wv rfl (r_move rfl) ?_
      obtain ⟨hg251, hx⟩ := xg_some hx
      refine wv rfl (r_mul rfl rfl hg251) ?_
      obtain ⟨hg253, hx⟩ := xg_some hx
      refine wv rfl (r_shl rfl rfl hg253) ?_
      obtain ⟨hg255, hx⟩ := xg_some hx
      refine wv rfl (r_add rfl rfl hg255) ?_
      refine wv rfl (r_assign rfl) ?_
      refine wl_nil ?_
      refine sq_n ?_
      refine wc_seq ?_
      refine wc_region ?_
      refine wv rfl (r_move rfl) ?_
      refine wv rfl (r_lss rfl rfl) ?_
      refine wl_nil ?_
      refine sq_n ?_
      refine wc_cond rfl (fun hc259 => ?_) (fun hc259 => ?_)
      · replace hx := xif_t hc259 hx
        refine wc_seq ?_
        refine wc_seq ?_
        refine wc_region ?_
        refine wv rfl (r_move rfl) ?_
        refine wv rfl (r_eql rfl rfl) ?_
        refine wv rfl (r_move rfl) ?_
        obtain ⟨c263, hx, hx267⟩ := bind_some' hx
        refine wl_mid 3 (fun _ : Unit => [(49, (.bool c263)), (1, (.int .i64 at_)), (7, (.int .i64 (n203 + (bShl (((el b ((at_ + i204).toNat)).toNat : Int) % 128) (7 * i204))))), (8, (.int .i64 i204))]) (fun _ w' => St ⟨w, X, S⟩ [] [rV s_b.v (cSl 1 fY b)] w') ?_ ?_
        · rcases Bool.eq_false_or_eq_true (decide (((el b ((at_ + i204).toNat)).toNat : Int) = 0)) with hg264 | hg264
          · replace hx := xif_t hg264 hx
            refine gv rfl hg264 rfl (r_move rfl) ?_
            refine gv rfl hg264 rfl (r_gtr rfl rfl) ?_
            refine wv rfl (p_t rfl hg264 rfl) ?_
            obtain rfl := Option.some.inj hx
            exact mid_nil () ⟨rfl, rfl, rfl, rfl, trivial⟩ hM
          · replace hx := xif_f hg264 hx
            refine gs rfl (isB_no hg264) rfl ?_
            refine gs rfl (isB_no hg264) rfl ?_
            refine wv rfl (p_f rfl hg264 rfl) ?_
            obtain rfl := Option.some.inj hx
            exact mid_nil () ⟨rfl, rfl, rfl, rfl, trivial⟩ hM
        rintro _ w270 hM
        replace hx := hx267
        refine wv rfl (r_move rfl) ?_
        obtain ⟨c272, hx, hx276⟩ := bind_some' hx
        refine wl_mid 3 (fun _ : Unit => [(53, (.bool c272)), (1, (.int .i64 at_)), (7, (.int .i64 (n203 + (bShl (((el b ((at_ + i204).toNat)).toNat : Int) % 128) (7 * i204))))), (8, (.int .i64 i204))]) (fun _ w' => St ⟨w, X, S⟩ [] [rV s_b.v (cSl 1 fY b)] w') ?_ ?_
        · rcases Bool.eq_false_or_eq_true c263 with hg273 | hg273
          · replace hx := xif_t hg273 hx
            refine gs rfl (isB_no hg273) rfl ?_
            refine gs rfl (isB_no hg273) rfl ?_
            refine wv rfl (p_t rfl hg273 rfl) ?_
            obtain rfl := Option.some.inj hx
            exact mid_nil () ⟨rfl, rfl, rfl, rfl, trivial⟩ hM
          · replace hx := xif_f hg273 hx
            refine gv rfl hg273 rfl (r_move rfl) ?_
            refine gv rfl hg273 rfl (r_gtr rfl rfl) ?_
            refine wv rfl (p_f rfl hg273 rfl) ?_
            obtain rfl := Option.some.inj hx
            exact mid_nil () ⟨rfl, rfl, rfl, rfl, trivial⟩ hM
        rintro _ w279 hM
        replace hx := hx276
        refine wl_nil ?_
        refine sq_n ?_
        refine wc_cond rfl (fun hc280 => ?_) (fun hc280 => ?_)
        · replace hx := xif_t hc280 hx
          refine wc_seq ?_
          refine wc_region ?_
          refine wv rfl (r_assign rfl) ?_
          refine wv rfl (r_assign rfl) ?_
          refine wv rfl (r_assign rfl) ?_
          refine wl_nil ?_
          refine sq_n ?_
          refine wc_ret ?_
          refine sq_ret ?_
          refine bk_ret ?_
          refine sq_ret ?_
          refine lp1_ret ?_
          obtain rfl := Option.some.inj hx
          obtain rfl := Option.some.inj hx211
          replace hx := hx202
          try dsimp only [Sum.elim_inl, Sum.elim_inr] at hx
          refine bk_ret ?_
          refine sq_ret ?_
          obtain rfl := Option.some.inj hx
          refine fin_ret [(.int .i64 0), (.int .i64 0), (.bool false)] ⟨rfl, rfl, rfl, trivial⟩ ?_
          replace hM := hM.t0
          have hM := hM.fewer rsN
          exact ⟨(), rfl, hM.gives⟩
        · replace hx := xif_f hc280 hx
          refine wc_skip ?_
          refine sq_n ?_
          refine wc_seq ?_
          refine wc_region ?_
          refine wv rfl (r_move rfl) ?_
          refine wv rfl (r_move rfl) ?_
          refine wv rfl (r_move rfl) ?_
          obtain ⟨hg288, hx⟩ := xg_some hx
          refine wv rfl (r_add rfl rfl hg288) ?_
          obtain ⟨hg290, hx⟩ := xg_some hx
          refine wv rfl (r_add rfl rfl hg290) ?_
          refine wv rfl (r_assign rfl) ?_
          refine wv rfl (r_assign rfl) ?_
          refine wv rfl (r_assign rfl) ?_
          refine wl_nil ?_
          refine sq_n ?_
          refine wc_ret ?_
          refine bk_ret ?_
          refine sq_ret ?_
          refine lp1_ret ?_
          obtain rfl := Option.some.inj hx
          obtain rfl := Option.some.inj hx211
          replace hx := hx202
          try dsimp only [Sum.elim_inl, Sum.elim_inr] at hx
          refine bk_ret ?_
          refine sq_ret ?_
          obtain rfl := Option.some.inj hx
          refine fin_ret [(.int .i64 (n203 + (bShl (((el b ((at_ + i204).toNat)).toNat : Int) % 128) (7 * i204)))), (.int .i64 ((at_ + i204) + 1)), (.bool true)] ⟨rfl, rfl, rfl, trivial⟩ ?_
          replace hM := hM.t0
          have hM := hM.fewer rsN
          exact ⟨(), rfl, hM.gives⟩
      · replace hx := xif_f hc259 hx
        refine wc_skip ?_
        refine bk_n ?_
        refine sq_n ?_
        refine wc_region ?_
        refine wv rfl (r_move rfl) ?_
        obtain ⟨hg296, hx⟩ := xg_some hx
        refine wv rfl (r_add rfl rfl hg296) ?_
        refine wv rfl (r_assign rfl) ?_
        refine wl_nil ?_
        obtain rfl := Option.some.inj hx
        exact lp_end (m209, n203 + (bShl (((el b ((at_ + i204).toNat)).toNat : Int) % 128) (7 * i204)), i204 + 1) (Nat.lt_succ_self _) ⟨rfl, rfl, rfl, rfl, trivial⟩ ⟨hM, hx211⟩
    · replace hx := xif_f hc233 hx
      refine wc_exit ?_
      refine sq_exit ?_
      refine lp1_exit ?_
      obtain rfl := Option.some.inj hx
      obtain rfl := Option.some.inj hx211
      replace hx := hx202
      try dsimp only [Sum.elim_inl, Sum.elim_inr] at hx
      refine bk_here ?_
      refine sq_n ?_
      refine wc_seq ?_
      refine wc_region ?_
      refine wv rfl (r_assign rfl) ?_
      refine wv rfl (r_assign rfl) ?_
      refine wv rfl (r_assign rfl) ?_
      refine wl_nil ?_
      refine sq_n ?_
      refine wc_ret ?_
      obtain rfl := Option.some.inj hx
      refine fin_ret [(.int .i64 0), (.int .i64 0), (.bool false)] ⟨rfl, rfl, rfl, trivial⟩ ?_
      replace hM := hM.t0
      have hM := hM.fewer rsN
      exact ⟨(), rfl, hM.gives⟩

noncomputable def x_impl_reader_num (r_ : DReader) : Option (Int × DReader) :=
  Option.bind (x_impl_GetNum r_.b r_.at_) fun r11 => Option.bind (bif !r11.2.2 then (some true) else (some r_.bad)) fun c29 => bif c29 then (some (0, (⟨r_.b, r_.at_, true⟩ : DReader))) else (some (r11.1, (⟨r_.b, r11.2.1, r_.bad⟩ : DReader)))
theorem ct_impl_reader_num (w : World) (X S : Bs) (b_r_ : Nat) (r_ : DReader) (s_r__0 : Sv) (hS : ∀ b, S b → b < w.heap.size ∧ ¬ X b) (a_r__0 : (cSl 1 fY r_.b).rd S w s_r__0.v) (oL : Sep [oBox b_r_ #[s_r__0.v, (.int .i64 r_.at_), (.bool r_.bad)] 52] X w) {r : Int × DReader} (hx : x_impl_reader_num r_ = some r) :
    Ret Try.prog 17 [(.pointer (some ⟨b_r_, 0, none⟩))] w (fun u w' => ∃ y : Sv, u = (.int .i64 r.1) ∧ Gives X S w [oBox b_r_ #[y.v, (.int .i64 r.2.at_), (.bool r.2.bad)] 52] [rV y.v (cSl 1 fY r.2.b)] w') := by
  unfold x_impl_reader_num at hx
  refine enter Try.func17 rfl Try.ntmps17 (by kernel_rfl) rfl ?_
  have hM := St.enter oL hS
  have hM := hM.addE (r := rV s_r__0.v (cSl 1 fY r_.b)) a_r__0
  refine wc_seq ?_
  refine wc_region ?_
  refine wv rfl (r_assign rfl) ?_
  refine wl_nil ?_
  refine sq_n ?_
  refine wc_seq ?_
  refine wc_draw [(0, 0), (1, 0), (2, 0), (3, 0), (4, 0), (5, 0), (6, 0), (7, 0), (8, 2), (9, 0), (10, 0), (11, 0), (12, 0), (13, 0), (14, 0), (15, 0)] Try_mixed (by kernel_rfl) rfl (by kernel_rfl) rfl ?_
  refine ov rfl (fun w' h' => r_move rfl) ?_
  refine ov rfl (fun w' h' => r_nilck rfl) ?_
  refine ov rfl (fun w' h' => r_fld Try.underlying52 rfl rfl sz22 rfl) ?_
  refine ov rfl (fun w' h' => r_ldB Try.underlying22 rfl rfl (hM.call h') (.head _) rfl) ?_
  refine ov rfl (fun w' h' => r_move rfl) ?_
  refine ov rfl (fun w' h' => r_nilck rfl) ?_
  refine ov rfl (fun w' h' => r_fld Try.underlying52 rfl rfl sz3 rfl) ?_
  refine ov rfl (fun w' h' => r_ldB Try.underlying3 rfl rfl (hM.call h') (.head _) rfl) ?_
  obtain ⟨r62, h63, hx⟩ := bind_some' hx
  refine o_call rfl rfl (fun w' h' => (hM.call h').callV fun X S oL hS hR hO => ct_impl_GetNum _ X S r_.b s_r__0 r_.at_ hS (hR _ (.head _)) oL h63) ?_
  rintro w65 h66 _ w64 ⟨rfl, hR67⟩
  have hM := (hM.call h66).call hR67
  refine ov rfl (fun w' h' => r_move rfl) ?_
  refine ov rfl (fun w' h' => r_extract rfl rfl) ?_
  refine ov rfl (fun w' h' => r_extract rfl rfl) ?_
  refine ov rfl (fun w' h' => r_extract rfl rfl) ?_
  refine ov rfl (fun w' h' => r_assign rfl) ?_
  refine ov rfl (fun w' h' => r_assign rfl) ?_
  refine ov rfl (fun w' h' => r_assign rfl) ?_
  refine o_nil fun w75 hw76 => ?_
  have hM := hM.call hw76
  refine sq_n ?_
  refine wc_seq ?_
  refine wc_seq ?_
  refine wc_region ?_
  refine wv rfl (r_move rfl) ?_
  refine wv rfl (r_not rfl) ?_
  refine wv rfl (r_move rfl) ?_
  obtain ⟨c80, hx, hx86⟩ := bind_some' hx
  refine wl_mid 5 (fun _ : Unit => [(26, (.bool c80)), (0, (.pointer (some ⟨b_r_, 0, none⟩))), (3, (.int .i64 r62.1)), (4, (.int .i64 r62.2.1))]) (fun _ w' => St ⟨w, X, S⟩ [oBox b_r_ #[s_r__0.v, (.int .i64 r_.at_), (.bool r_.bad)] 52] [rV s_r__0.v (cSl 1 fY r_.b)] w') ?_ ?_
  · rcases Bool.eq_false_or_eq_true (!r62.2.2) with hg81 | hg81
    · replace hx := xif_t hg81 hx
      refine gs rfl (isB_no hg81) rfl ?_
      refine gs rfl (isB_no hg81) rfl ?_
      refine gs rfl (isB_no hg81) rfl ?_
      refine gs rfl (isB_no hg81) rfl ?_
      refine wv rfl (p_t rfl hg81 rfl) ?_
      obtain rfl := Option.some.inj hx
      exact mid_nil () ⟨rfl, rfl, rfl, rfl, trivial⟩ hM
    · replace hx := xif_f hg81 hx
      refine gv rfl hg81 rfl (r_move rfl) ?_
      refine gv rfl hg81 rfl (r_nilck rfl) ?_
      refine gv rfl hg81 rfl (r_fld Try.underlying52 rfl rfl sz4 rfl) ?_
      refine gv rfl hg81 rfl (r_ldB Try.underlying4 rfl rfl hM (.head _) rfl) ?_
      refine wv rfl (p_f rfl hg81 rfl) ?_
      obtain rfl := Option.some.inj hx
      exact mid_nil () ⟨rfl, rfl, rfl, rfl, trivial⟩ hM
  rintro _ w91 hM
  replace hx := hx86
  refine wl_nil ?_
  refine sq_n ?_
  refine wc_cond rfl (fun hc92 => ?_) (fun hc92 => ?_)
  · replace hx := xif_t hc92 hx
    refine wc_seq ?_
    refine wc_region ?_
    refine wv rfl (r_move rfl) ?_
    refine wv rfl (r_nilck rfl) ?_
    refine wv rfl (r_fld Try.underlying52 rfl rfl sz4 rfl) ?_
    refine w_exu (x_stB #[s_r__0.v, (.int .i64 r_.at_), (.bool true)] sz4 rfl rfl rfl rfl rfl rfl hM ?_); intro w96 hM
    refine wl_nil ?_
    refine sq_n ?_
    refine wc_seq ?_
    refine wc_region ?_
    refine wv rfl (r_assign rfl) ?_
    refine wl_nil ?_
    refine sq_n ?_
    refine wc_ret ?_
    refine sq_ret ?_
    obtain rfl := Option.some.inj hx
    refine fin_ret [(.int .i64 0)] ⟨rfl, trivial⟩ ?_
    replace hM := hM.t1
    have hM := hM.fewer (rsC (.head _) rsN)
    exact ⟨s_r__0, rfl, hM.gives⟩
  · replace hx := xif_f hc92 hx
    refine wc_skip ?_
    refine sq_n ?_
    refine wc_seq ?_
    refine wc_region ?_
    refine wv rfl (r_move rfl) ?_
    refine wv rfl (r_move rfl) ?_
    refine wv rfl (r_nilck rfl) ?_
    refine wv rfl (r_fld Try.underlying52 rfl rfl sz3 rfl) ?_
    refine w_exu (x_stB #[s_r__0.v, (.int .i64 r62.2.1), (.bool r_.bad)] sz3 rfl rfl rfl rfl rfl rfl hM ?_); intro w103 hM
    refine wl_nil ?_
    refine sq_n ?_
    refine wc_seq ?_
    refine wc_region ?_
    refine wv rfl (r_move rfl) ?_
    refine wv rfl (r_assign rfl) ?_
    refine wl_nil ?_
    refine sq_n ?_
    refine wc_ret ?_
    obtain rfl := Option.some.inj hx
    refine fin_ret [(.int .i64 r62.1)] ⟨rfl, trivial⟩ ?_
    replace hM := hM.t1
    have hM := hM.fewer (rsC (.head _) rsN)
    exact ⟨s_r__0, rfl, hM.gives⟩

noncomputable def x_impl_reader_nums_b0 (count : Int) (out38 : List Int) (i39 : Int) (l40 : List UInt8) (n41 : Int) (b42 : Bool) : Option (Lr (List Int × Int × List UInt8 × Int × Bool) (List Int × List UInt8 × Int × Bool)) :=
  Option.bind (bif decide (i39 < count) then (some (!b42)) else (some false)) fun c81 => bif c81 then (Option.bind (x_impl_reader_num (⟨l40, n41, b42⟩ : DReader)) fun r95 => xg (out38.length < 1099511627776) <| xg (inI (i39 + 1)) <| some (Lr.go (out38 ++ [r95.1], i39 + 1, r95.2.b, r95.2.at_, r95.2.bad))) else (some (Lr.out (out38, l40, n41, b42)))
noncomputable def x_impl_reader_nums_f0 (count : Int) (s108 : List Int × Int × List UInt8 × Int × Bool) : Option (Lr (List Int × Int × List UInt8 × Int × Bool) (List Int × List UInt8 × Int × Bool)) := x_impl_reader_nums_b0 count s108.1 s108.2.1 s108.2.2.1 s108.2.2.2.1 s108.2.2.2.2
noncomputable def x_impl_reader_nums (r_ : DReader) (count : Int) : Option (List Int × DReader) :=
  Option.bind (iter (x_impl_reader_nums_f0 count) ([], 0, r_.b, r_.at_, r_.bad)) fun (y109 : List Int × List UInt8 × Int × Bool) => some (y109.1, (⟨y109.2.1, y109.2.2.1, y109.2.2.2⟩ : DReader))
theorem ct_impl_reader_nums (w : World) (X S : Bs) (b_r_ : Nat) (r_ : DReader) (s_r__0 : Sv) (count : Int) (hS : ∀ b, S b → b < w.heap.size ∧ ¬ X b) (a_r__0 : (cSl 1 fY r_.b).rd S w s_r__0.v) (oL : Sep [oBox b_r_ #[s_r__0.v, (.int .i64 r_.at_), (.bool r_.bad)] 52] X w) {r : List Int × DReader} (hx : x_impl_reader_nums r_ count = some r) :
    Ret Try.prog 18 [(.pointer (some ⟨b_r_, 0, none⟩)), (.int .i64 count)] w (fun u w' => ∃ y : Sv × Sv, u = y.1.v ∧ Gives X S w [oC (cSl 1 fI r.1) y.1.v, oBox b_r_ #[y.2.v, (.int .i64 r.2.at_), (.bool r.2.bad)] 52] [rV y.2.v (cSl 1 fY r.2.b)] w') := by
  unfold x_impl_reader_nums at hx
  refine enter Try.func18 rfl Try.ntmps18 (by kernel_rfl) rfl ?_
  have hM := St.enter oL hS
  have hM := hM.addE (r := rV s_r__0.v (cSl 1 fY r_.b)) a_r__0
  refine wc_seq ?_
  refine wc_region ?_
  refine wv rfl (r_assign rfl) ?_
  refine wl_nil ?_
  refine sq_n ?_
  refine wc_seq ?_
  refine wc_region ?_
  refine wv rfl (r_assign rfl) ?_
  refine wl_nil ?_
  refine sq_n ?_
  refine wc_seq ?_
  refine wc_seq ?_
  refine wc_region ?_
  refine wv rfl (r_assign rfl) ?_
  refine wl_nil ?_
  refine sq_n ?_
  refine wc_block ?_
  obtain ⟨y118, hx, hx119⟩ := bind_some' hx
  have hM := hM.nil0 (T := Int) 1 fI
  replace hM := hM.p1
  obtain ⟨m131, hx⟩ := iter_run hx
  refine wc_loop (un fun (m129 : Nat) => un fun (out121 : List Int) => un fun (i122 : Int) => un fun (l123 : List UInt8) => un fun (n124 : Int) => un fun (b125 : Bool) => un fun (s127 : Sv) => fun (s128 : Sv) => [(0, (.pointer (some ⟨b_r_, 0, none⟩))), (1, (.int .i64 count)), (5, s127.v), (6, (.int .i64 i122))]) (un fun (m129 : Nat) => un fun (out121 : List Int) => un fun (i122 : Int) => un fun (l123 : List UInt8) => un fun (n124 : Int) => un fun (b125 : Bool) => un fun (s127 : Sv) => fun (s128 : Sv) w' => St ⟨w, X, S⟩ [oBox b_r_ #[s128.v, (.int .i64 n124), (.bool b125)] 52, oC (cSl 1 fI out121) s127.v] [rV s128.v (cSl 1 fY l123)] w' ∧ iterN _ m129 (out121, i122, l123, n124, b125) = some y118) (fun p => p.1) (m131, [], 0, r_.b, r_.at_, r_.bad, nS, s_r__0) ⟨rfl, rfl, rfl, rfl, trivial⟩ ⟨hM, hx⟩ ?_
  rintro ⟨m129, out121, i122, l123, n124, b125, s127, s128⟩ w132 ⟨hM, hx⟩
  obtain ⟨m133, z134, rfl, hx, hx135⟩ := iterN_step hx
  unfold x_impl_reader_nums_f0 x_impl_reader_nums_b0 at hx
  try dsimp only at hx
  refine wc_seq ?_
  refine wc_seq ?_
  refine wc_region ?_
  refine wv rfl (r_move rfl) ?_
  refine wv rfl (r_move rfl) ?_
  refine wv rfl (r_lss rfl rfl) ?_
  refine wv rfl (r_move rfl) ?_
  obtain ⟨c140, hx, hx147⟩ := bind_some' hx
  refine wl_mid 6 (fun _ : Unit => [(16, (.bool c140)), (0, (.pointer (some ⟨b_r_, 0, none⟩))), (1, (.int .i64 count)), (5, s127.v), (6, (.int .i64 i122))]) (fun _ w' => St ⟨w, X, S⟩ [oBox b_r_ #[s128.v, (.int .i64 n124), (.bool b125)] 52, oC (cSl 1 fI out121) s127.v] [rV s128.v (cSl 1 fY l123)] w') ?_ ?_
  · rcases Bool.eq_false_or_eq_true (decide (i122 < count)) with hg141 | hg141
    · replace hx := xif_t hg141 hx
      refine gv rfl hg141 rfl (r_move rfl) ?_
      refine gv rfl hg141 rfl (r_nilck rfl) ?_
      refine gv rfl hg141 rfl (r_fld Try.underlying52 rfl rfl sz4 rfl) ?_
      refine gv rfl hg141 rfl (r_ldB Try.underlying4 rfl rfl hM (.head _) rfl) ?_
      refine gv rfl hg141 rfl (r_not rfl) ?_
      refine wv rfl (p_t rfl hg141 rfl) ?_
      obtain rfl := Option.some.inj hx
      exact mid_nil () ⟨rfl, rfl, rfl, rfl, rfl, trivial⟩ hM
    · replace hx := xif_f hg141 hx
      refine gs rfl (isB_no hg141) rfl ?_
      refine gs rfl (isB_no hg141) rfl ?_
      refine gs rfl (isB_no hg141) rfl ?_
      refine gs rfl (isB_no hg141) rfl ?_
      refine gs rfl (isB_no hg141) rfl ?_
      refine wv rfl (p_f rfl hg141 rfl) ?_
      obtain rfl := Option.some.inj hx
      exact mid_nil () ⟨rfl, rfl, rfl, rfl, rfl, trivial⟩ hM
  rintro _ w153 hM
  replace hx := hx147
  refine wl_nil ?_
  refine sq_n ?_
  refine wc_cond rfl (fun hc154 => ?_) (fun hc154 => ?_)
  · replace hx := xif_t hc154 hx
    refine wc_skip ?_
    refine sq_n ?_
    refine wc_seq ?_
    refine wc_block ?_
    refine wc_region ?_
    refine wv rfl (r_move rfl) ?_
    refine wv rfl (r_move rfl) ?_
    obtain ⟨r157, h158, hx⟩ := bind_some' hx
    refine w_call rfl rfl (hM.callR (l := [oBox b_r_ #[s128.v, (.int .i64 n124), (.bool b125)] 52]) fun X S oL hS hR => ct_impl_reader_num _ X S b_r_ (⟨l123, n124, b125⟩ : DReader) s128 hS (hR _ (.head _)) oL h158) ?_
    rintro _ w159 ⟨s160, rfl, hM⟩
    replace hM : St ⟨w, X, S⟩ [oBox b_r_ #[s160.v, (.int .i64 r157.2.at_), (.bool r157.2.bad)] 52, oC (cSl 1 fI out121) s127.v] [rV s160.v (cSl 1 fY r157.2.b), rV s128.v (cSl 1 fY l123)] _ := hM
    replace hM := hM.p1
    obtain ⟨hg164, hx⟩ := xg_some hx
    refine w_push (f := fI) r157.1 rfl rfl Try.underlying23 sz3 rfl rfl rfl rfl (fun _ => rfl) hM (fun _ => zP (pV _ rfl) zN) rfl hg164 rfl ?_; intro u162 s163 w161 hM
    refine wv rfl (r_assign rfl) ?_
    refine wl_nil ?_
    refine bk_n ?_
    refine sq_n ?_
    refine wc_region ?_
    refine wv rfl (r_move rfl) ?_
    obtain ⟨hg168, hx⟩ := xg_some hx
    refine wv rfl (r_add rfl rfl hg168) ?_
    refine wv rfl (r_assign rfl) ?_
    refine wl_nil ?_
    obtain rfl := Option.some.inj hx
    replace hM := hM.p1
    have hM := hM.fewer (rsC (.head _) rsN)
    replace hM : St ⟨w, X, S⟩ [oBox b_r_ #[s160.v, (.int .i64 r157.2.at_), (.bool r157.2.bad)] 52, oC (cSl 1 fI (out121 ++ [r157.1])) s163.v] [rV s160.v (cSl 1 fY r157.2.b)] _ := hM
    exact lp_end (m133, out121 ++ [r157.1], i122 + 1, r157.2.b, r157.2.at_, r157.2.bad, s163, s160) (Nat.lt_succ_self _) ⟨rfl, rfl, rfl, rfl, trivial⟩ ⟨hM, hx135⟩
  · replace hx := xif_f hc154 hx
    refine wc_exit ?_
    refine sq_exit ?_
    refine lp1_exit ?_
    obtain rfl := Option.some.inj hx
    obtain rfl := Option.some.inj hx135
    replace hx := hx119
    try dsimp only [Sum.elim_inl, Sum.elim_inr] at hx
    refine bk_here ?_
    refine sq_n ?_
    refine wc_seq ?_
    refine wc_region ?_
    refine wv rfl (r_move rfl) ?_
    refine wv rfl (r_assign rfl) ?_
    refine wl_nil ?_
    refine sq_n ?_
    refine wc_ret ?_
    obtain rfl := Option.some.inj hx
    refine fin_ret [s127.v] ⟨rfl, trivial⟩ ?_
    replace hM := hM.p1
    replace hM := hM.t2
    have hM := hM.fewer (rsC (.head _) rsN)
    exact ⟨(s127, s128), rfl, hM.gives⟩

noncomputable def x_impl_reader_op_b0 (r5 : Int × DReader) (o89 : List DPart) (i90 : Int) (l91 : List UInt8) (n92 : Int) (b93 : Bool) : Option (Lr (List DPart × Int × List UInt8 × Int × Bool) (List DPart × List UInt8 × Int × Bool)) :=
  Option.bind (bif decide (i90 < r5.1) then (some (!b93)) else (some false)) fun c177 => bif c177 then (Option.bind (x_impl_reader_num (⟨l91, n92, b93⟩ : DReader)) fun r190 => xg (0 ≤ r190.1 ∧ 0 < (4 : Int)) <| bif decide ((r190.1 % 4) = 2) then (xg (0 ≤ r190.1 ∧ r190.1 ≤ 9223372036854775807 ∧ 0 < (4 : Int)) <| Option.bind (x_impl_reader_nums r190.2 (r190.1 / 4)) fun r212 => xg (o89.length < 1099511627776) <| xg (inI (i90 + 1)) <| some (Lr.go (o89 ++ [(⟨r190.1 % 4, 0, r212.1⟩ : DPart)], i90 + 1, r212.2.b, r212.2.at_, r212.2.bad))) else (xg (0 ≤ r190.1 ∧ r190.1 ≤ 9223372036854775807 ∧ 0 < (4 : Int)) <| xg (o89.length < 1099511627776) <| xg (inI (i90 + 1)) <| some (Lr.go (o89 ++ [(⟨r190.1 % 4, r190.1 / 4, []⟩ : DPart)], i90 + 1, r190.2.b, r190.2.at_, r190.2.bad)))) else (some (Lr.out (o89, l91, n92, b93)))
noncomputable def x_impl_reader_op_f0 (r5 : Int × DReader) (s249 : List DPart × Int × List UInt8 × Int × Bool) : Option (Lr (List DPart × Int × List UInt8 × Int × Bool) (List DPart × List UInt8 × Int × Bool)) := x_impl_reader_op_b0 r5 s249.1 s249.2.1 s249.2.2.1 s249.2.2.2.1 s249.2.2.2.2
noncomputable def x_impl_reader_op (r_ : DReader) : Option (List DPart × DReader) :=
  Option.bind (x_impl_reader_num r_) fun r5 => Option.bind (iter (x_impl_reader_op_f0 r5) ([], 0, r5.2.b, r5.2.at_, r5.2.bad)) fun (y250 : List DPart × List UInt8 × Int × Bool) => some (y250.1, (⟨y250.2.1, y250.2.2.1, y250.2.2.2⟩ : DReader))
theorem ct_impl_reader_op (w : World) (X S : Bs) (b_r_ : Nat) (r_ : DReader) (s_r__0 : Sv) (hS : ∀ b, S b → b < w.heap.size ∧ ¬ X b) (a_r__0 : (cSl 1 fY r_.b).rd S w s_r__0.v) (oL : Sep [oBox b_r_ #[s_r__0.v, (.int .i64 r_.at_), (.bool r_.bad)] 52] X w) {r : List DPart × DReader} (hx : x_impl_reader_op r_ = some r) :
    Ret Try.prog 19 [(.pointer (some ⟨b_r_, 0, none⟩))] w (fun u w' => ∃ y : Sv × Sv, u = y.1.v ∧ Gives X S w [oC (cSl 3 fDPart r.1) y.1.v, oBox b_r_ #[y.2.v, (.int .i64 r.2.at_), (.bool r.2.bad)] 52] [rV y.2.v (cSl 1 fY r.2.b)] w') := by
  unfold x_impl_reader_op at hx
  refine enter Try.func19 rfl Try.ntmps19 (by kernel_rfl) rfl ?_
  have hM := St.enter oL hS
  have hM := hM.addE (r := rV s_r__0.v (cSl 1 fY r_.b)) a_r__0
  refine wc_seq ?_
  refine wc_region ?_
  refine wv rfl (r_assign rfl) ?_
  refine wl_nil ?_
  refine sq_n ?_
  refine wc_seq ?_
  refine wc_region ?_
  refine wv rfl (r_assign rfl) ?_
  refine wl_nil ?_
  refine sq_n ?_
  refine wc_seq ?_
  refine wc_region ?_
  refine wv rfl (r_move rfl) ?_
  obtain ⟨r259, h260, hx⟩ := bind_some' hx
  refine w_call rfl rfl (hM.callR (l := [oBox b_r_ #[s_r__0.v, (.int .i64 r_.at_), (.bool r_.bad)] 52]) fun X S oL hS hR => ct_impl_reader_num _ X S b_r_ r_ s_r__0 hS (hR _ (.head _)) oL h260) ?_
  rintro _ w261 ⟨s262, rfl, hM⟩
  replace hM : St ⟨w, X, S⟩ [oBox b_r_ #[s262.v, (.int .i64 r259.2.at_), (.bool r259.2.bad)] 52] [rV s262.v (cSl 1 fY r259.2.b), rV s_r__0.v (cSl 1 fY r_.b)] _ := hM
  refine wv rfl (r_assign rfl) ?_
  refine wl_nil ?_
  refine sq_n ?_
  refine wc_seq ?_
  refine wc_seq ?_
  refine wc_region ?_
  refine wv rfl (r_assign rfl) ?_
  refine wl_nil ?_
  refine sq_n ?_
  refine wc_block ?_
  obtain ⟨y265, hx, hx266⟩ := bind_some' hx
  have hM := hM.nil0 (T := DPart) 3 fDPart
  replace hM := hM.p1
  have hM := hM.fewer (rsC (.head _) rsN)
  replace hM : St ⟨w, X, S⟩ [oBox b_r_ #[s262.v, (.int .i64 r259.2.at_), (.bool r259.2.bad)] 52, oC (cSl 3 fDPart ([] : List DPart)) nS.v] [rV s262.v (cSl 1 fY r259.2.b)] _ := hM
  obtain ⟨m278, hx⟩ := iter_run hx
  refine wc_loop (un fun (m276 : Nat) => un fun (o268 : List DPart) => un fun (i269 : Int) => un fun (l270 : List UInt8) => un fun (n271 : Int) => un fun (b272 : Bool) => un fun (s274 : Sv) => fun (s275 : Sv) => [(0, (.pointer (some ⟨b_r_, 0, none⟩))), (3, s274.v), (4, (.int .i64 r259.1)), (5, (.int .i64 i269))]) (un fun (m276 : Nat) => un fun (o268 : List DPart) => un fun (i269 : Int) => un fun (l270 : List UInt8) => un fun (n271 : Int) => un fun (b272 : Bool) => un fun (s274 : Sv) => fun (s275 : Sv) w' => St ⟨w, X, S⟩ [oBox b_r_ #[s275.v, (.int .i64 n271), (.bool b272)] 52, oC (cSl 3 fDPart o268) s274.v] [rV s275.v (cSl 1 fY l270)] w' ∧ iterN _ m276 (o268, i269, l270, n271, b272) = some y265) (fun p => p.1) (m278, [], 0, r259.2.b, r259.2.at_, r259.2.bad, nS, s262) ⟨rfl, rfl, rfl, rfl, trivial⟩ ⟨hM, hx⟩ ?_
  rintro ⟨m276, o268, i269, l270, n271, b272, s274, s275⟩ w279 ⟨hM, hx⟩
  obtain ⟨m280, z281, rfl, hx, hx282⟩ := iterN_step hx
  unfold x_impl_reader_op_f0 x_impl_reader_op_b0 at hx
  try dsimp only at hx
  refine wc_seq ?_
  refine wc_seq ?_
  refine wc_region ?_
  refine wv rfl (r_move rfl) ?_
  refine wv rfl (r_move rfl) ?_
  refine wv rfl (r_lss rfl rfl) ?_
  refine wv rfl (r_move rfl) ?_
  obtain ⟨c287, hx, hx294⟩ := bind_some' hx
  refine wl_mid 6 (fun _ : Unit => [(19, (.bool c287)), (0, (.pointer (some ⟨b_r_, 0, none⟩))), (3, s274.v), (4, (.int .i64 r259.1)), (5, (.int .i64 i269))]) (fun _ w' => St ⟨w, X, S⟩ [oBox b_r_ #[s275.v, (.int .i64 n271), (.bool b272)] 52, oC (cSl 3 fDPart o268) s274.v] [rV s275.v (cSl 1 fY l270)] w') ?_ ?_
  · rcases Bool.eq_false_or_eq_true (decide (i269 < r259.1)) with hg288 | hg288
    · replace hx := xif_t hg288 hx
      refine gv rfl hg288 rfl (r_move rfl) ?_
      refine gv rfl hg288 rfl (r_nilck rfl) ?_
      refine gv rfl hg288 rfl (r_fld Try.underlying52 rfl rfl sz4 rfl) ?_
      refine gv rfl hg288 rfl (r_ldB Try.underlying4 rfl rfl hM (.head _) rfl) ?_
      refine gv rfl hg288 rfl (r_not rfl) ?_
      refine wv rfl (p_t rfl hg288 rfl) ?_
      obtain rfl := Option.some.inj hx
      exact mid_nil () ⟨rfl, rfl, rfl, rfl, rfl, trivial⟩ hM
    · replace hx := xif_f hg288 hx
      refine gs rfl (isB_no hg288) rfl ?_
      refine gs rfl (isB_no hg288) rfl ?_
      refine gs rfl (isB_no hg288) rfl ?_
      refine gs rfl (isB_no hg288) rfl ?_
      refine gs rfl (isB_no hg288) rfl ?_
      refine wv rfl (p_f rfl hg288 rfl) ?_
      obtain rfl := Option.some.inj hx
      exact mid_nil () ⟨rfl, rfl, rfl, rfl, rfl, trivial⟩ hM
  rintro _ w300 hM
  replace hx := hx294
  refine wl_nil ?_
  refine sq_n ?_
  refine wc_cond rfl (fun hc301 => ?_) (fun hc301 => ?_)
  · replace hx := xif_t hc301 hx
    refine wc_skip ?_
    refine sq_n ?_
    refine wc_seq ?_
    refine wc_block ?_
    refine wc_seq ?_
    refine wc_region ?_
    refine wv rfl (r_move rfl) ?_
    obtain ⟨r303, h304, hx⟩ := bind_some' hx
    refine w_call rfl rfl (hM.callR (l := [oBox b_r_ #[s275.v, (.int .i64 n271), (.bool b272)] 52]) fun X S oL hS hR => ct_impl_reader_num _ X S b_r_ (⟨l270, n271, b272⟩ : DReader) s275 hS (hR _ (.head _)) oL h304) ?_
    rintro _ w305 ⟨s306, rfl, hM⟩
    replace hM : St ⟨w, X, S⟩ [oBox b_r_ #[s306.v, (.int .i64 r303.2.at_), (.bool r303.2.bad)] 52, oC (cSl 3 fDPart o268) s274.v] [rV s306.v (cSl 1 fY r303.2.b), rV s275.v (cSl 1 fY l270)] _ := hM
    refine wv rfl (r_assign rfl) ?_
    refine wl_nil ?_
    refine sq_n ?_
    refine wc_seq ?_
    refine wc_region ?_
    refine wv rfl (r_move rfl) ?_
    obtain ⟨hg310, hx⟩ := xg_some hx
    refine wv rfl (r_rem rfl rfl hg310) ?_
    refine wv rfl (r_build (cells := #[(.int .i64 (r303.1 % 4)), (.int .i64 0), (.slice none 0 0)]) rfl (by kernel_rfl)) ?_
    refine w_ex rfl (x_alloc sz65 hM ?_); intro b313 w312 hR314 hM
    replace hM : St ⟨w, X, S⟩ [oBox b313 #[(.int .i64 0), (.int .i64 0), (.slice none 0 0)] 65, oBox b_r_ #[s306.v, (.int .i64 r303.2.at_), (.bool r303.2.bad)] 52, oC (cSl 3 fDPart o268) s274.v] [rV s306.v (cSl 1 fY r303.2.b), rV s275.v (cSl 1 fY l270)] _ := hM
    refine w_exu (x_stB #[(.int .i64 (r303.1 % 4)), (.int .i64 0), (.slice none 0 0)] sz65 rfl rfl rfl rfl rfl rfl hM ?_); intro w316 hM
    refine wl_nil ?_
    refine sq_n ?_
    refine wc_seq ?_
    refine wc_seq ?_
    refine wc_region ?_
    refine wv rfl (r_fld Try.underlying65 rfl rfl sz3 rfl) ?_
    refine wv rfl (r_ldB Try.underlying3 rfl rfl hM (.head _) rfl) ?_
    refine wv rfl (r_eql rfl rfl) ?_
    refine wl_nil ?_
    refine sq_n ?_
    refine wc_cond rfl (fun hc321 => ?_) (fun hc321 => ?_)
    · replace hx := xif_t hc321 hx
      refine wc_region ?_
      refine wv rfl (r_move rfl) ?_
      refine wv rfl (r_move rfl) ?_
      obtain ⟨hg325, hx⟩ := xg_some hx
      refine wv rfl (r_quo rfl rfl hg325) ?_
      replace hM := hM.p1
      obtain ⟨r326, h327, hx⟩ := bind_some' hx
      refine w_call rfl rfl (hM.callR (l := [oBox b_r_ #[s306.v, (.int .i64 r303.2.at_), (.bool r303.2.bad)] 52]) fun X S oL hS hR => ct_impl_reader_nums _ X S b_r_ r303.2 s306 (r303.1 / 4) hS (hR _ (.head _)) oL h327) ?_
      rintro _ w328 ⟨⟨s329, s330⟩, rfl, hM⟩
      replace hM : St ⟨w, X, S⟩ [oC (cSl 1 fI r326.1) s329.v, oBox b_r_ #[s330.v, (.int .i64 r326.2.at_), (.bool r326.2.bad)] 52, oBox b313 #[(.int .i64 (r303.1 % 4)), (.int .i64 0), (.slice none 0 0)] 65, oC (cSl 3 fDPart o268) s274.v] [rV s330.v (cSl 1 fY r326.2.b), rV s306.v (cSl 1 fY r303.2.b), rV s275.v (cSl 1 fY l270)] _ := hM
      refine wv rfl (r_fld Try.underlying65 rfl rfl sz23 rfl) ?_
      replace hM := hM.p2
      refine w_exu (x_stB #[(.int .i64 (r303.1 % 4)), (.int .i64 0), s329.v] sz23 rfl rfl rfl rfl rfl rfl hM ?_); intro w333 hM
      refine wl_nil ?_
      refine sq_n ?_
      refine wc_region ?_
      refine wv rfl (r_move rfl) ?_
      refine wv rfl (r_ldBS Try.underlying65 sz65 rfl (us := [(.int .i64 (r303.1 % 4)), (.int .i64 0), s329.v]) rfl hM (.head _) rfl) ?_
      replace hM := hM.p1.p3
      obtain ⟨hg340, hx⟩ := xg_some hx
      refine w_push (f := fDPart) (⟨r303.1 % 4, 0, r326.1⟩ : DPart) rfl rfl Try.underlying42 sz65 rfl rfl rfl rfl (fun _ => rfl) hM (fun _ => zP (pV _ rfl) (zP (pV _ rfl) (zO zN))) rfl hg340 rfl ?_; intro u338 s339 w337 hM
      refine wv rfl (r_assign rfl) ?_
      refine wl_nil ?_
      refine bk_n ?_
      refine sq_n ?_
      refine wc_region ?_
      refine wv rfl (r_move rfl) ?_
      obtain ⟨hg344, hx⟩ := xg_some hx
      refine wv rfl (r_add rfl rfl hg344) ?_
      refine wv rfl (r_assign rfl) ?_
      refine wl_nil ?_
      obtain rfl := Option.some.inj hx
      replace hM := hM.p2
      replace hM := hM.t2
      have hM := hM.fewer (rsC (.head _) rsN)
      replace hM : St ⟨w, X, S⟩ [oBox b_r_ #[s330.v, (.int .i64 r326.2.at_), (.bool r326.2.bad)] 52, oC (cSl 3 fDPart (o268 ++ [(⟨r303.1 % 4, 0, r326.1⟩ : DPart)])) s339.v] [rV s330.v (cSl 1 fY r326.2.b)] _ := hM
      exact lp_end (m280, o268 ++ [(⟨r303.1 % 4, 0, r326.1⟩ : DPart)], i269 + 1, r326.2.b, r326.2.at_, r326.2.bad, s339, s330) (Nat.lt_succ_self _) ⟨rfl, rfl, rfl, rfl, trivial⟩ ⟨hM, hx282⟩
    · replace hx := xif_f hc321 hx
      refine wc_region ?_
      refine wv rfl (r_move rfl) ?_
      obtain ⟨hg348, hx⟩ := xg_some hx
      refine wv rfl (r_quo rfl rfl hg348) ?_
      refine wv rfl (r_fld Try.underlying65 rfl rfl sz3 rfl) ?_
      refine w_exu (x_stB #[(.int .i64 (r303.1 % 4)), (.int .i64 (r303.1 / 4)), (.slice none 0 0)] sz3 rfl rfl rfl rfl rfl rfl hM ?_); intro w350 hM
      refine wl_nil ?_
      refine sq_n ?_
      refine wc_region ?_
      refine wv rfl (r_move rfl) ?_
      refine wv rfl (r_ldBS Try.underlying65 sz65 rfl (us := [(.int .i64 (r303.1 % 4)), (.int .i64 (r303.1 / 4)), (.slice none 0 0)]) rfl hM (.head _) rfl) ?_
      replace hM := hM.p2
      obtain ⟨hg357, hx⟩ := xg_some hx
      refine w_push (f := fDPart) (⟨r303.1 % 4, r303.1 / 4, []⟩ : DPart) rfl rfl Try.underlying42 sz65 rfl rfl rfl rfl (fun _ => rfl) hM (fun _ => zP (pV _ rfl) (zP (pV _ rfl) (zP (pN _ _) zN))) rfl hg357 rfl ?_; intro u355 s356 w354 hM
      refine wv rfl (r_assign rfl) ?_
      refine wl_nil ?_
      refine bk_n ?_
      refine sq_n ?_
      refine wc_region ?_
      refine wv rfl (r_move rfl) ?_
      obtain ⟨hg361, hx⟩ := xg_some hx
      refine wv rfl (r_add rfl rfl hg361) ?_
      refine wv rfl (r_assign rfl) ?_
      refine wl_nil ?_
      obtain rfl := Option.some.inj hx
      replace hM := hM.p2
      replace hM := hM.t2
      have hM := hM.fewer (rsC (.head _) rsN)
      replace hM : St ⟨w, X, S⟩ [oBox b_r_ #[s306.v, (.int .i64 r303.2.at_), (.bool r303.2.bad)] 52, oC (cSl 3 fDPart (o268 ++ [(⟨r303.1 % 4, r303.1 / 4, []⟩ : DPart)])) s356.v] [rV s306.v (cSl 1 fY r303.2.b)] _ := hM
      exact lp_end (m280, o268 ++ [(⟨r303.1 % 4, r303.1 / 4, []⟩ : DPart)], i269 + 1, r303.2.b, r303.2.at_, r303.2.bad, s356, s306) (Nat.lt_succ_self _) ⟨rfl, rfl, rfl, rfl, trivial⟩ ⟨hM, hx282⟩
  · replace hx := xif_f hc301 hx
    refine wc_exit ?_
    refine sq_exit ?_
    refine lp1_exit ?_
    obtain rfl := Option.some.inj hx
    obtain rfl := Option.some.inj hx282
    replace hx := hx266
    try dsimp only [Sum.elim_inl, Sum.elim_inr] at hx
    refine bk_here ?_
    refine sq_n ?_
    refine wc_seq ?_
    refine wc_region ?_
    refine wv rfl (r_move rfl) ?_
    refine wv rfl (r_assign rfl) ?_
    refine wl_nil ?_
    refine sq_n ?_
    refine wc_ret ?_
    obtain rfl := Option.some.inj hx
    refine fin_ret [s274.v] ⟨rfl, trivial⟩ ?_
    replace hM := hM.p1
    replace hM := hM.t2
    have hM := hM.fewer (rsC (.head _) rsN)
    exact ⟨(s274, s275), rfl, hM.gives⟩

noncomputable def x_bytes_Equal (a : List UInt8) (b : List UInt8) : Option Bool :=
  some (decide ((⟨a.toArray⟩ : ByteArray) = (⟨b.toArray⟩ : ByteArray)))
theorem ct_bytes_Equal (w : World) (X S : Bs) (a : List UInt8) (s_a : Sv) (b : List UInt8) (s_b : Sv) (hS : ∀ b, S b → b < w.heap.size ∧ ¬ X b) (a_a_0 : (cSl 1 fY a).rd S w s_a.v) (a_b_0 : (cSl 1 fY b).rd S w s_b.v) (oL : Sep [] X w) {r : Bool} (hx : x_bytes_Equal a b = some r) :
    Ret Try.prog 21 [s_a.v, s_b.v] w (fun u w' => ∃ _ : Unit, u = (.bool r) ∧ Gives X S w [] [] w') := by
  unfold x_bytes_Equal at hx
  refine enter Try.func21 rfl Try.ntmps21 (by kernel_rfl) rfl ?_
  have hM := St.enter oL hS
  have hM := hM.addE (r := rV s_a.v (cSl 1 fY a)) a_a_0
  have hM := hM.addE (r := rV s_b.v (cSl 1 fY b)) a_b_0
  refine wc_seq ?_
  refine wc_region ?_
  refine wv rfl (r_assign rfl) ?_
  refine wl_nil ?_
  refine sq_n ?_
  refine wc_seq ?_
  refine wc_region ?_
  refine wv rfl (r_move rfl) ?_
  refine wv rfl (r_b2s Try.underlying22 Try.underlying9 Try.underlying5 rfl (hM.seeR (.tail _ (.head _)))) ?_
  refine wv rfl (r_move rfl) ?_
  refine wv rfl (r_b2s Try.underlying22 Try.underlying9 Try.underlying5 rfl (hM.seeR (.head _))) ?_
  refine wv rfl (r_eqls rfl rfl) ?_
  refine wv rfl (r_assign rfl) ?_
  refine wl_nil ?_
  refine sq_n ?_
  refine wc_ret ?_
  obtain rfl := Option.some.inj hx
  refine fin_ret [(.bool (decide ((⟨a.toArray⟩ : ByteArray) = (⟨b.toArray⟩ : ByteArray))))] ⟨rfl, trivial⟩ ?_
  replace hM := hM.t0
  have hM := hM.fewer rsN
  exact ⟨(), rfl, hM.gives⟩

noncomputable def x_impl_BytesDoc_b0 (r42 : Int × DReader) (_b : List UInt8) (i107 : Int) (l108 : List UInt8) (n109 : Int) (b110 : Bool) (l111 : List DEntry) : Option (Lr (Int × List UInt8 × Int × Bool × List DEntry) (List UInt8 × Int × Bool × List DEntry)) :=
  Option.bind (bif decide (i107 < r42.1) then (some (!b110)) else (some false)) fun c176 => bif c176 then (Option.bind (x_impl_reader_num (⟨l108, n109, b110⟩ : DReader)) fun r189 => Option.bind (x_impl_reader_num r189.2) fun r194 => Option.bind (x_impl_reader_op r194.2) fun r206 => xg (l111.length < 1099511627776) <| xg (inI (i107 + 1)) <| some (Lr.go (i107 + 1, r206.2.b, r206.2.at_, r206.2.bad, l111 ++ [(⟨r189.1, r194.1, r206.1⟩ : DEntry)]))) else (some (Lr.out (l108, n109, b110, l111)))
noncomputable def x_impl_BytesDoc_f0 (r42 : Int × DReader) (b : List UInt8) (s229 : Int × List UInt8 × Int × Bool × List DEntry) : Option (Lr (Int × List UInt8 × Int × Bool × List DEntry) (List UInt8 × Int × Bool × List DEntry)) := x_impl_BytesDoc_b0 r42 b s229.1 s229.2.1 s229.2.2.1 s229.2.2.2.1 s229.2.2.2.2
noncomputable def x_impl_BytesDoc_b1 (r235 : Int × DReader) (_b : List UInt8) (i298 : Int) (l299 : List UInt8) (n300 : Int) (b301 : Bool) (l302 : List DSeen) : Option (Lr (Int × List UInt8 × Int × Bool × List DSeen) (List UInt8 × Int × Bool × List DSeen)) :=
  Option.bind (bif decide (i298 < r235.1) then (some (!b301)) else (some false)) fun c365 => bif c365 then (Option.bind (x_impl_reader_num (⟨l299, n300, b301⟩ : DReader)) fun r378 => Option.bind (x_impl_reader_num r378.2) fun r383 => Option.bind (x_impl_reader_num r383.2) fun r395 => xg (l302.length < 1099511627776) <| xg (inI (i298 + 1)) <| some (Lr.go (i298 + 1, r395.2.b, r395.2.at_, r395.2.bad, l302 ++ [(⟨r378.1, r383.1, r395.1⟩ : DSeen)]))) else (some (Lr.out (l299, n300, b301, l302)))
noncomputable def x_impl_BytesDoc_f1 (r235 : Int × DReader) (b : List UInt8) (s416 : Int × List UInt8 × Int × Bool × List DSeen) : Option (Lr (Int × List UInt8 × Int × Bool × List DSeen) (List UInt8 × Int × Bool × List DSeen)) := x_impl_BytesDoc_b1 r235 b s416.1 s416.2.1 s416.2.2.1 s416.2.2.2.1 s416.2.2.2.2
noncomputable def x_impl_BytesDoc (name : ByteArray) (b : List UInt8) : Option (DDoc × Bool) :=
  Option.bind (x_impl_reader_num (⟨b, 0, false⟩ : DReader)) fun r15 => Option.bind (x_impl_reader_num r15.2) fun r28 => Option.bind (x_impl_reader_nums r28.2 r28.1) fun r32 => Option.bind (x_impl_reader_num r32.2) fun r42 => Option.bind (iter (x_impl_BytesDoc_f0 r42 b) (0, r42.2.b, r42.2.at_, r42.2.bad, [])) fun (y230 : List UInt8 × Int × Bool × List DEntry) => Option.bind (x_impl_reader_num (⟨y230.1, y230.2.1, y230.2.2.1⟩ : DReader)) fun r235 => Option.bind (iter (x_impl_BytesDoc_f1 r235 b) (0, r235.2.b, r235.2.at_, r235.2.bad, [])) fun (y417 : List UInt8 × Int × Bool × List DSeen) => Option.bind (x_impl_DocBytes (⟨name, r15.1, r32.1, y230.2.2.2, y417.2.2.2⟩ : DDoc)) fun r422 => Option.bind (bif y417.2.2.1 then (some true) else (some (!r422.2))) fun c437 => Option.bind (bif c437 then (some true) else (Option.bind (x_bytes_Equal r422.1 b) fun r455 => some (!r455))) fun c444 => bif c444 then (some ((⟨ByteArray.empty, 0, [], [], []⟩ : DDoc), false)) else (some ((⟨name, r15.1, r32.1, y230.2.2.2, y417.2.2.2⟩ : DDoc), true))
theorem ct_impl_BytesDoc (w : World) (X S : Bs) (name : ByteArray) (b : List UInt8) (s_b : Sv) (hS : ∀ b, S b → b < w.heap.size ∧ ¬ X b) (a_b_0 : (cSl 1 fY b).rd S w s_b.v) (oL : Sep [] X w) {r : DDoc × Bool} (hx : x_impl_BytesDoc name b = some r) :
    Ret Try.prog 6 [(.string name), s_b.v] w (fun u w' => ∃ y : Sv × Sv × Sv, u = .tuple #[.agg #[(.string r.1.name), (.int .i64 r.1.from_), y.1.v, y.2.1.v, y.2.2.v], (.bool r.2)] ∧ Gives X S w [oC (cSl 1 fI r.1.text) y.1.v, oC (cSl 3 fDEntry r.1.list) y.2.1.v, oC (cSl 3 fDSeen r.1.seen) y.2.2.v] [] w') := by
  unfold x_impl_BytesDoc at hx
  refine enter Try.func6 rfl Try.ntmps6 (by kernel_rfl) rfl ?_
  have hM := St.enter oL hS
  have hM := hM.addE (r := rV s_b.v (cSl 1 fY b)) a_b_0
  refine wc_seq ?_
  refine wc_region ?_
  refine w_ex rfl (x_alloc sz27 hM ?_); intro b469 w468 hR470 hM
  replace hM : St ⟨w, X, S⟩ [oBox b469 #[(.string ByteArray.empty), (.int .i64 0), (.slice none 0 0), (.slice none 0 0), (.slice none 0 0)] 27] [rV s_b.v (cSl 1 fY b)] _ := hM
  refine wv rfl (r_assign rfl) ?_
  refine wl_nil ?_
  refine sq_n ?_
  refine wc_seq ?_
  refine wc_region ?_
  refine wv rfl (r_move rfl) ?_
  refine wv rfl (r_build (cells := #[s_b.v, (.int .i64 0), (.bool false)]) rfl (by kernel_rfl)) ?_
  refine w_ex rfl (x_box rfl hM ?_); intro b476 w475 hR477 hM
  replace hM : St ⟨w, X, S⟩ [oBox b476 #[s_b.v, (.int .i64 0), (.bool false)] 52, oBox b469 #[(.string ByteArray.empty), (.int .i64 0), (.slice none 0 0), (.slice none 0 0), (.slice none 0 0)] 27] [rV s_b.v (cSl 1 fY b)] _ := hM
  refine wv rfl (r_assign rfl) ?_
  refine wl_nil ?_
  refine sq_n ?_
  refine wc_seq ?_
  refine wc_region ?_
  refine wv rfl (r_move rfl) ?_
  refine wv rfl (r_move rfl) ?_
  obtain ⟨r482, h483, hx⟩ := bind_some' hx
  refine w_call rfl rfl (hM.callR (l := [oBox b476 #[s_b.v, (.int .i64 0), (.bool false)] 52]) fun X S oL hS hR => ct_impl_reader_num _ X S b476 (⟨b, 0, false⟩ : DReader) s_b hS (hR _ (.head _)) oL h483) ?_
  rintro _ w484 ⟨s485, rfl, hM⟩
  replace hM : St ⟨w, X, S⟩ [oBox b476 #[s485.v, (.int .i64 r482.2.at_), (.bool r482.2.bad)] 52, oBox b469 #[(.string ByteArray.empty), (.int .i64 0), (.slice none 0 0), (.slice none 0 0), (.slice none 0 0)] 27] [rV s485.v (cSl 1 fY r482.2.b), rV s_b.v (cSl 1 fY b)] _ := hM
  refine wv rfl (r_build (cells := #[(.string name), (.int .i64 r482.1), (.slice none 0 0), (.slice none 0 0), (.slice none 0 0)]) rfl (by kernel_rfl)) ?_
  refine w_ex rfl (x_alloc sz27 hM ?_); intro b488 w487 hR489 hM
  replace hM : St ⟨w, X, S⟩ [oBox b488 #[(.string ByteArray.empty), (.int .i64 0), (.slice none 0 0), (.slice none 0 0), (.slice none 0 0)] 27, oBox b476 #[s485.v, (.int .i64 r482.2.at_), (.bool r482.2.bad)] 52, oBox b469 #[(.string ByteArray.empty), (.int .i64 0), (.slice none 0 0), (.slice none 0 0), (.slice none 0 0)] 27] [rV s485.v (cSl 1 fY r482.2.b), rV s_b.v (cSl 1 fY b)] _ := hM
  refine w_exu (x_stB #[(.string name), (.int .i64 r482.1), (.slice none 0 0), (.slice none 0 0), (.slice none 0 0)] sz27 rfl rfl rfl rfl rfl rfl hM ?_); intro w491 hM
  refine wl_nil ?_
  refine sq_n ?_
  refine wc_seq ?_
  refine wc_region ?_
  refine wv rfl (r_move rfl) ?_
  refine wv rfl (r_move rfl) ?_
  replace hM := hM.p1
  obtain ⟨r495, h496, hx⟩ := bind_some' hx
  refine w_call rfl rfl (hM.callR (l := [oBox b476 #[s485.v, (.int .i64 r482.2.at_), (.bool r482.2.bad)] 52]) fun X S oL hS hR => ct_impl_reader_num _ X S b476 r482.2 s485 hS (hR _ (.head _)) oL h496) ?_
  rintro _ w497 ⟨s498, rfl, hM⟩
  replace hM : St ⟨w, X, S⟩ [oBox b476 #[s498.v, (.int .i64 r495.2.at_), (.bool r495.2.bad)] 52, oBox b488 #[(.string name), (.int .i64 r482.1), (.slice none 0 0), (.slice none 0 0), (.slice none 0 0)] 27, oBox b469 #[(.string ByteArray.empty), (.int .i64 0), (.slice none 0 0), (.slice none 0 0), (.slice none 0 0)] 27] [rV s498.v (cSl 1 fY r495.2.b), rV s485.v (cSl 1 fY r482.2.b), rV s_b.v (cSl 1 fY b)] _ := hM
  obtain ⟨r499, h500, hx⟩ := bind_some' hx
  refine w_call rfl rfl (hM.callR (l := [oBox b476 #[s498.v, (.int .i64 r495.2.at_), (.bool r495.2.bad)] 52]) fun X S oL hS hR => ct_impl_reader_nums _ X S b476 r495.2 s498 r495.1 hS (hR _ (.head _)) oL h500) ?_
  rintro _ w501 ⟨⟨s502, s503⟩, rfl, hM⟩
  replace hM : St ⟨w, X, S⟩ [oC (cSl 1 fI r499.1) s502.v, oBox b476 #[s503.v, (.int .i64 r499.2.at_), (.bool r499.2.bad)] 52, oBox b488 #[(.string name), (.int .i64 r482.1), (.slice none 0 0), (.slice none 0 0), (.slice none 0 0)] 27, oBox b469 #[(.string ByteArray.empty), (.int .i64 0), (.slice none 0 0), (.slice none 0 0), (.slice none 0 0)] 27] [rV s503.v (cSl 1 fY r499.2.b), rV s498.v (cSl 1 fY r495.2.b), rV s485.v (cSl 1 fY r482.2.b), rV s_b.v (cSl 1 fY b)] _ := hM
  refine wv rfl (r_fld Try.underlying27 rfl rfl sz23 rfl) ?_
  replace hM := hM.p2
  refine w_exu (x_stB #[(.string name), (.int .i64 r482.1), s502.v, (.slice none 0 0), (.slice none 0 0)] sz23 rfl rfl rfl rfl rfl rfl hM ?_); intro w506 hM
  refine wl_nil ?_
  refine sq_n ?_
  refine wc_seq ?_
  refine wc_region ?_
  refine wv rfl (r_move rfl) ?_
  replace hM := hM.p2
  obtain ⟨r509, h510, hx⟩ := bind_some' hx
  refine w_call rfl rfl (hM.callR (l := [oBox b476 #[s503.v, (.int .i64 r499.2.at_), (.bool r499.2.bad)] 52]) fun X S oL hS hR => ct_impl_reader_num _ X S b476 r499.2 s503 hS (hR _ (.head _)) oL h510) ?_
  rintro _ w511 ⟨s512, rfl, hM⟩
  replace hM : St ⟨w, X, S⟩ [oBox b476 #[s512.v, (.int .i64 r509.2.at_), (.bool r509.2.bad)] 52, oBox b488 #[(.string name), (.int .i64 r482.1), s502.v, (.slice none 0 0), (.slice none 0 0)] 27, oC (cSl 1 fI r499.1) s502.v, oBox b469 #[(.string ByteArray.empty), (.int .i64 0), (.slice none 0 0), (.slice none 0 0), (.slice none 0 0)] 27] [rV s512.v (cSl 1 fY r509.2.b), rV s503.v (cSl 1 fY r499.2.b), rV s498.v (cSl 1 fY r495.2.b), rV s485.v (cSl 1 fY r482.2.b), rV s_b.v (cSl 1 fY b)] _ := hM
  refine wv rfl (r_assign rfl) ?_
  refine wl_nil ?_
  refine sq_n ?_
  refine wc_seq ?_
  refine wc_seq ?_
  refine wc_region ?_
  refine wv rfl (r_assign rfl) ?_
  refine wl_nil ?_
  refine sq_n ?_
  refine wc_block ?_
  obtain ⟨y515, hx, hx516⟩ := bind_some' hx
  have hM := hM.nil0 (T := DEntry) 3 fDEntry
  replace hM := hM.p3.p3.p3.p4
  have hM := hM.fewer (rsC (.head _) (rsC (.tail _ (.tail _ (.tail _ (.tail _ (.head _))))) rsN))
  replace hM : St ⟨w, X, S⟩ [oBox b469 #[(.string ByteArray.empty), (.int .i64 0), (.slice none 0 0), (.slice none 0 0), (.slice none 0 0)] 27, oBox b476 #[s512.v, (.int .i64 r509.2.at_), (.bool r509.2.bad)] 52, oBox b488 #[(.string name), (.int .i64 r482.1), s502.v, nS.v, (.slice none 0 0)] 27, oC (cSl 1 fI r499.1) s502.v, oC (cSl 3 fDEntry ([] : List DEntry)) nS.v] [rV s512.v (cSl 1 fY r509.2.b), rV s_b.v (cSl 1 fY b)] _ := hM
  obtain ⟨m528, hx⟩ := iter_run hx
  refine wc_loop (un fun (m526 : Nat) => un fun (i518 : Int) => un fun (l519 : List UInt8) => un fun (n520 : Int) => un fun (b521 : Bool) => un fun (l522 : List DEntry) => un fun (s523 : Sv) => fun (s525 : Sv) => [(1, s_b.v), (4, (.pointer (some ⟨b469, 0, none⟩))), (6, (.pointer (some ⟨b476, 0, none⟩))), (7, (.pointer (some ⟨b488, 0, none⟩))), (8, (.int .i64 r509.1)), (9, (.int .i64 i518))]) (un fun (m526 : Nat) => un fun (i518 : Int) => un fun (l519 : List UInt8) => un fun (n520 : Int) => un fun (b521 : Bool) => un fun (l522 : List DEntry) => un fun (s523 : Sv) => fun (s525 : Sv) w' => St ⟨w, X, S⟩ [oBox b469 #[(.string ByteArray.empty), (.int .i64 0), (.slice none 0 0), (.slice none 0 0), (.slice none 0 0)] 27, oBox b476 #[s523.v, (.int .i64 n520), (.bool b521)] 52, oBox b488 #[(.string name), (.int .i64 r482.1), s502.v, s525.v, (.slice none 0 0)] 27, oC (cSl 1 fI r499.1) s502.v, oC (cSl 3 fDEntry l522) s525.v] [rV s523.v (cSl 1 fY l519), rV s_b.v (cSl 1 fY b)] w' ∧ iterN _ m526 (i518, l519, n520, b521, l522) = some y515) (fun p => p.1) (m528, 0, r509.2.b, r509.2.at_, r509.2.bad, [], s512, nS) ⟨rfl, rfl, rfl, rfl, rfl, rfl, trivial⟩ ⟨hM, hx⟩ ?_
  rintro ⟨m526, i518, l519, n520, b521, l522, s523, s525⟩ w529 ⟨hM, hx⟩
  obtain ⟨m530, z531, rfl, hx, hx532⟩ := iterN_step hx
  unfold x_impl_BytesDoc_f0 x_impl_BytesDoc_b0 at hx
  try dsimp only at hx
  refine wc_seq ?_
  refine wc_seq ?_
  refine wc_region ?_
  refine wv rfl (r_move rfl) ?_
  refine wv rfl (r_move rfl) ?_
  refine wv rfl (r_lss rfl rfl) ?_
  refine wv rfl (r_move rfl) ?_
  obtain ⟨c537, hx, hx544⟩ := bind_some' hx
  refine wl_mid 6 (fun _ : Unit => [(38, (.bool c537)), (1, s_b.v), (4, (.pointer (some ⟨b469, 0, none⟩))), (6, (.pointer (some ⟨b476, 0, none⟩))), (7, (.pointer (some ⟨b488, 0, none⟩))), (8, (.int .i64 r509.1)), (9, (.int .i64 i518))]) (fun _ w' => St ⟨w, X, S⟩ [oBox b469 #[(.string ByteArray.empty), (.int .i64 0), (.slice none 0 0), (.slice none 0 0), (.slice none 0 0)] 27, oBox b476 #[s523.v, (.int .i64 n520), (.bool b521)] 52, oBox b488 #[(.string name), (.int .i64 r482.1), s502.v, s525.v, (.slice none 0 0)] 27, oC (cSl 1 fI r499.1) s502.v, oC (cSl 3 fDEntry l522) s525.v] [rV s523.v (cSl 1 fY l519), rV s_b.v (cSl 1 fY b)] w') ?_ ?_
  · rcases Bool.eq_false_or_eq_true (decide (i518 < r509.1)) with hg538 | hg538
    · replace hx := xif_t hg538 hx
      refine gv rfl hg538 rfl (r_move rfl) ?_
      refine gv rfl hg538 rfl (r_nilck rfl) ?_
      refine gv rfl hg538 rfl (r_fld Try.underlying52 rfl rfl sz4 rfl) ?_
      refine gv rfl hg538 rfl (r_ldB Try.underlying4 rfl rfl hM (.tail _ (.head _)) rfl) ?_
      refine gv rfl hg538 rfl (r_not rfl) ?_
      refine wv rfl (p_t rfl hg538 rfl) ?_
      obtain rfl := Option.some.inj hx
      exact mid_nil () ⟨rfl, rfl, rfl, rfl, rfl, rfl, rfl, trivial⟩ hM
    · replace hx := xif_f hg538 hx
      refine gs rfl (isB_no hg538) rfl ?_
      refine gs rfl (isB_no hg538) rfl ?_
      refine gs rfl (isB_no hg538) rfl ?_
      refine gs rfl (isB_no hg538) rfl ?_
      refine gs rfl (isB_no hg538) rfl ?_
      refine wv rfl (p_f rfl hg538 rfl) ?_
      obtain rfl := Option.some.inj hx
      exact mid_nil () ⟨rfl, rfl, rfl, rfl, rfl, rfl, rfl, trivial⟩ hM
  rintro _ w550 hM
  replace hx := hx544
  refine wl_nil ?_
  refine sq_n ?_
  refine wc_cond rfl (fun hc551 => ?_) (fun hc551 => ?_)
  · replace hx := xif_t hc551 hx
    refine wc_skip ?_
    refine sq_n ?_
    refine wc_seq ?_
    refine wc_block ?_
    refine wc_seq ?_
    refine wc_region ?_
    refine wv rfl (r_move rfl) ?_
    replace hM := hM.p1
    obtain ⟨r553, h554, hx⟩ := bind_some' hx
    refine w_call rfl rfl (hM.callR (l := [oBox b476 #[s523.v, (.int .i64 n520), (.bool b521)] 52]) fun X S oL hS hR => ct_impl_reader_num _ X S b476 (⟨l519, n520, b521⟩ : DReader) s523 hS (hR _ (.head _)) oL h554) ?_
    rintro _ w555 ⟨s556, rfl, hM⟩
    replace hM : St ⟨w, X, S⟩ [oBox b476 #[s556.v, (.int .i64 r553.2.at_), (.bool r553.2.bad)] 52, oBox b469 #[(.string ByteArray.empty), (.int .i64 0), (.slice none 0 0), (.slice none 0 0), (.slice none 0 0)] 27, oBox b488 #[(.string name), (.int .i64 r482.1), s502.v, s525.v, (.slice none 0 0)] 27, oC (cSl 1 fI r499.1) s502.v, oC (cSl 3 fDEntry l522) s525.v] [rV s556.v (cSl 1 fY r553.2.b), rV s523.v (cSl 1 fY l519), rV s_b.v (cSl 1 fY b)] _ := hM
    refine wv rfl (r_move rfl) ?_
    obtain ⟨r558, h559, hx⟩ := bind_some' hx
    refine w_call rfl rfl (hM.callR (l := [oBox b476 #[s556.v, (.int .i64 r553.2.at_), (.bool r553.2.bad)] 52]) fun X S oL hS hR => ct_impl_reader_num _ X S b476 r553.2 s556 hS (hR _ (.head _)) oL h559) ?_
    rintro _ w560 ⟨s561, rfl, hM⟩
    replace hM : St ⟨w, X, S⟩ [oBox b476 #[s561.v, (.int .i64 r558.2.at_), (.bool r558.2.bad)] 52, oBox b469 #[(.string ByteArray.empty), (.int .i64 0), (.slice none 0 0), (.slice none 0 0), (.slice none 0 0)] 27, oBox b488 #[(.string name), (.int .i64 r482.1), s502.v, s525.v, (.slice none 0 0)] 27, oC (cSl 1 fI r499.1) s502.v, oC (cSl 3 fDEntry l522) s525.v] [rV s561.v (cSl 1 fY r558.2.b), rV s556.v (cSl 1 fY r553.2.b), rV s523.v (cSl 1 fY l519), rV s_b.v (cSl 1 fY b)] _ := hM
    refine wv rfl (r_build (cells := #[(.int .i64 r553.1), (.int .i64 r558.1), (.slice none 0 0)]) rfl (by kernel_rfl)) ?_
    refine w_ex rfl (x_alloc sz44 hM ?_); intro b564 w563 hR565 hM
    replace hM : St ⟨w, X, S⟩ [oBox b564 #[(.int .i64 0), (.int .i64 0), (.slice none 0 0)] 44, oBox b476 #[s561.v, (.int .i64 r558.2.at_), (.bool r558.2.bad)] 52, oBox b469 #[(.string ByteArray.empty), (.int .i64 0), (.slice none 0 0), (.slice none 0 0), (.slice none 0 0)] 27, oBox b488 #[(.string name), (.int .i64 r482.1), s502.v, s525.v, (.slice none 0 0)] 27, oC (cSl 1 fI r499.1) s502.v, oC (cSl 3 fDEntry l522) s525.v] [rV s561.v (cSl 1 fY r558.2.b), rV s556.v (cSl 1 fY r553.2.b), rV s523.v (cSl 1 fY l519), rV s_b.v (cSl 1 fY b)] _ := hM
    refine w_exu (x_stB #[(.int .i64 r553.1), (.int .i64 r558.1), (.slice none 0 0)] sz44 rfl rfl rfl rfl rfl rfl hM ?_); intro w567 hM
    refine wl_nil ?_
    refine sq_n ?_
    refine wc_seq ?_
    refine wc_region ?_
    refine wv rfl (r_move rfl) ?_
    replace hM := hM.p1
    obtain ⟨r570, h571, hx⟩ := bind_some' hx
    refine w_call rfl rfl (hM.callR (l := [oBox b476 #[s561.v, (.int .i64 r558.2.at_), (.bool r558.2.bad)] 52]) fun X S oL hS hR => ct_impl_reader_op _ X S b476 r558.2 s561 hS (hR _ (.head _)) oL h571) ?_
    rintro _ w572 ⟨⟨s573, s574⟩, rfl, hM⟩
    replace hM : St ⟨w, X, S⟩ [oC (cSl 3 fDPart r570.1) s573.v, oBox b476 #[s574.v, (.int .i64 r570.2.at_), (.bool r570.2.bad)] 52, oBox b564 #[(.int .i64 r553.1), (.int .i64 r558.1), (.slice none 0 0)] 44, oBox b469 #[(.string ByteArray.empty), (.int .i64 0), (.slice none 0 0), (.slice none 0 0), (.slice none 0 0)] 27, oBox b488 #[(.string name), (.int .i64 r482.1), s502.v, s525.v, (.slice none 0 0)] 27, oC (cSl 1 fI r499.1) s502.v, oC (cSl 3 fDEntry l522) s525.v] [rV s574.v (cSl 1 fY r570.2.b), rV s561.v (cSl 1 fY r558.2.b), rV s556.v (cSl 1 fY r553.2.b), rV s523.v (cSl 1 fY l519), rV s_b.v (cSl 1 fY b)] _ := hM
    refine wv rfl (r_fld Try.underlying44 rfl rfl sz42 rfl) ?_
    replace hM := hM.p2
    refine w_exu (x_stB #[(.int .i64 r553.1), (.int .i64 r558.1), s573.v] sz42 rfl rfl rfl rfl rfl rfl hM ?_); intro w577 hM
    refine wl_nil ?_
    refine sq_n ?_
    refine wc_region ?_
    refine wv rfl (r_fld Try.underlying27 rfl rfl sz24 rfl) ?_
    refine wv rfl (r_ldB Try.underlying24 rfl rfl hM (.tail _ (.tail _ (.tail _ (.tail _ (.head _))))) rfl) ?_
    refine wv rfl (r_ldBS Try.underlying44 sz44 rfl (us := [(.int .i64 r553.1), (.int .i64 r558.1), s573.v]) rfl hM (.head _) rfl) ?_
    replace hM := hM.p1.p6
    obtain ⟨hg585, hx⟩ := xg_some hx
    refine w_push (f := fDEntry) (⟨r553.1, r558.1, r570.1⟩ : DEntry) rfl rfl Try.underlying24 sz44 rfl rfl rfl rfl (fun _ => rfl) hM (fun _ => zP (pV _ rfl) (zP (pV _ rfl) (zO zN))) rfl hg585 rfl ?_; intro u583 s584 w582 hM
    refine wv rfl (r_fld Try.underlying27 rfl rfl sz24 rfl) ?_
    replace hM := hM.p4
    refine w_exu (x_stB #[(.string name), (.int .i64 r482.1), s502.v, s584.v, (.slice none 0 0)] sz24 rfl rfl rfl rfl rfl rfl hM ?_); intro w587 hM
    refine wl_nil ?_
    refine bk_n ?_
    refine sq_n ?_
    refine wc_region ?_
    refine wv rfl (r_move rfl) ?_
    obtain ⟨hg591, hx⟩ := xg_some hx
    refine wv rfl (r_add rfl rfl hg591) ?_
    refine wv rfl (r_assign rfl) ?_
    refine wl_nil ?_
    obtain rfl := Option.some.inj hx
    replace hM := hM.p1.p5.p2.p4.p5
    replace hM := hM.t5
    have hM := hM.fewer (rsC (.head _) (rsC (.tail _ (.tail _ (.tail _ (.tail _ (.head _))))) rsN))
    replace hM : St ⟨w, X, S⟩ [oBox b469 #[(.string ByteArray.empty), (.int .i64 0), (.slice none 0 0), (.slice none 0 0), (.slice none 0 0)] 27, oBox b476 #[s574.v, (.int .i64 r570.2.at_), (.bool r570.2.bad)] 52, oBox b488 #[(.string name), (.int .i64 r482.1), s502.v, s584.v, (.slice none 0 0)] 27, oC (cSl 1 fI r499.1) s502.v, oC (cSl 3 fDEntry (l522 ++ [(⟨r553.1, r558.1, r570.1⟩ : DEntry)])) s584.v] [rV s574.v (cSl 1 fY r570.2.b), rV s_b.v (cSl 1 fY b)] _ := hM
    exact lp_end (m530, i518 + 1, r570.2.b, r570.2.at_, r570.2.bad, l522 ++ [(⟨r553.1, r558.1, r570.1⟩ : DEntry)], s574, s584) (Nat.lt_succ_self _) ⟨rfl, rfl, rfl, rfl, rfl, rfl, trivial⟩ ⟨hM, hx532⟩
  · replace hx := xif_f hc551 hx
    refine wc_exit ?_
    refine sq_exit ?_
    refine lp1_exit ?_
    obtain rfl := Option.some.inj hx
    obtain rfl := Option.some.inj hx532
    replace hx := hx516
    try dsimp only [Sum.elim_inl, Sum.elim_inr] at hx
    refine bk_here ?_
    refine sq_n ?_
    refine wc_seq ?_
    refine wc_region ?_
    refine wv rfl (r_move rfl) ?_
    replace hM := hM.p1
    obtain ⟨r594, h595, hx⟩ := bind_some' hx
    refine w_call rfl rfl (hM.callR (l := [oBox b476 #[s523.v, (.int .i64 n520), (.bool b521)] 52]) fun X S oL hS hR => ct_impl_reader_num _ X S b476 (⟨l519, n520, b521⟩ : DReader) s523 hS (hR _ (.head _)) oL h595) ?_
    rintro _ w596 ⟨s597, rfl, hM⟩
    replace hM : St ⟨w, X, S⟩ [oBox b476 #[s597.v, (.int .i64 r594.2.at_), (.bool r594.2.bad)] 52, oBox b469 #[(.string ByteArray.empty), (.int .i64 0), (.slice none 0 0), (.slice none 0 0), (.slice none 0 0)] 27, oBox b488 #[(.string name), (.int .i64 r482.1), s502.v, s525.v, (.slice none 0 0)] 27, oC (cSl 1 fI r499.1) s502.v, oC (cSl 3 fDEntry l522) s525.v] [rV s597.v (cSl 1 fY r594.2.b), rV s523.v (cSl 1 fY l519), rV s_b.v (cSl 1 fY b)] _ := hM
    refine wv rfl (r_assign rfl) ?_
    refine wl_nil ?_
    refine sq_n ?_
    refine wc_seq ?_
    refine wc_seq ?_
    refine wc_region ?_
    refine wv rfl (r_assign rfl) ?_
    refine wl_nil ?_
    refine sq_n ?_
    refine wc_block ?_
    obtain ⟨y600, hx, hx601⟩ := bind_some' hx
    have hM := hM.nil0 (T := DSeen) 3 fDSeen
    replace hM := hM.p5.p5.p5.p4.p5
    have hM := hM.fewer (rsC (.head _) (rsC (.tail _ (.tail _ (.head _))) rsN))
    replace hM : St ⟨w, X, S⟩ [oBox b469 #[(.string ByteArray.empty), (.int .i64 0), (.slice none 0 0), (.slice none 0 0), (.slice none 0 0)] 27, oBox b476 #[s597.v, (.int .i64 r594.2.at_), (.bool r594.2.bad)] 52, oBox b488 #[(.string name), (.int .i64 r482.1), s502.v, s525.v, nS.v] 27, oC (cSl 1 fI r499.1) s502.v, oC (cSl 3 fDEntry l522) s525.v, oC (cSl 3 fDSeen ([] : List DSeen)) nS.v] [rV s597.v (cSl 1 fY r594.2.b), rV s_b.v (cSl 1 fY b)] _ := hM
    obtain ⟨m613, hx⟩ := iter_run hx
    refine wc_loop (un fun (m611 : Nat) => un fun (i603 : Int) => un fun (l604 : List UInt8) => un fun (n605 : Int) => un fun (b606 : Bool) => un fun (l607 : List DSeen) => un fun (s608 : Sv) => fun (s610 : Sv) => [(1, s_b.v), (4, (.pointer (some ⟨b469, 0, none⟩))), (6, (.pointer (some ⟨b476, 0, none⟩))), (7, (.pointer (some ⟨b488, 0, none⟩))), (8, (.int .i64 r594.1)), (11, (.int .i64 i603))]) (un fun (m611 : Nat) => un fun (i603 : Int) => un fun (l604 : List UInt8) => un fun (n605 : Int) => un fun (b606 : Bool) => un fun (l607 : List DSeen) => un fun (s608 : Sv) => fun (s610 : Sv) w' => St ⟨w, X, S⟩ [oBox b469 #[(.string ByteArray.empty), (.int .i64 0), (.slice none 0 0), (.slice none 0 0), (.slice none 0 0)] 27, oBox b476 #[s608.v, (.int .i64 n605), (.bool b606)] 52, oBox b488 #[(.string name), (.int .i64 r482.1), s502.v, s525.v, s610.v] 27, oC (cSl 1 fI r499.1) s502.v, oC (cSl 3 fDEntry l522) s525.v, oC (cSl 3 fDSeen l607) s610.v] [rV s608.v (cSl 1 fY l604), rV s_b.v (cSl 1 fY b)] w' ∧ iterN _ m611 (i603, l604, n605, b606, l607) = some y600) (fun p => p.1) (m613, 0, r594.2.b, r594.2.at_, r594.2.bad, [], s597, nS) ⟨rfl, rfl, rfl, rfl, rfl, rfl, trivial⟩ ⟨hM, hx⟩ ?_
    rintro ⟨m611, i603, l604, n605, b606, l607, s608, s610⟩ w614 ⟨hM, hx⟩
    obtain ⟨m615, z616, rfl, hx, hx617⟩ := iterN_step hx
    unfold x_impl_BytesDoc_f1 x_impl_BytesDoc_b1 at hx
    try dsimp only at hx
    refine wc_seq ?_
    refine wc_seq ?_
    refine wc_region ?_
    refine wv rfl (r_move rfl) ?_
    refine wv rfl (r_move rfl) ?_
    refine wv rfl (r_lss rfl rfl) ?_
    refine wv rfl (r_move rfl) ?_
    obtain ⟨c622, hx, hx629⟩ := bind_some' hx
    refine wl_mid 6 (fun _ : Unit => [(66, (.bool c622)), (1, s_b.v), (4, (.pointer (some ⟨b469, 0, none⟩))), (6, (.pointer (some ⟨b476, 0, none⟩))), (7, (.pointer (some ⟨b488, 0, none⟩))), (8, (.int .i64 r594.1)), (11, (.int .i64 i603))]) (fun _ w' => St ⟨w, X, S⟩ [oBox b469 #[(.string ByteArray.empty), (.int .i64 0), (.slice none 0 0), (.slice none 0 0), (.slice none 0 0)] 27, oBox b476 #[s608.v, (.int .i64 n605), (.bool b606)] 52, oBox b488 #[(.string name), (.int .i64 r482.1), s502.v, s525.v, s610.v] 27, oC (cSl 1 fI r499.1) s502.v, oC (cSl 3 fDEntry l522) s525.v, oC (cSl 3 fDSeen l607) s610.v] [rV s608.v (cSl 1 fY l604), rV s_b.v (cSl 1 fY b)] w') ?_ ?_
    · rcases Bool.eq_false_or_eq_true (decide (i603 < r594.1)) with hg623 | hg623
      · replace hx := xif_t hg623 hx
        refine gv rfl hg623 rfl (r_move rfl) ?_
        refine gv rfl hg623 rfl (r_nilck rfl) ?_
        refine gv rfl hg623 rfl (r_fld Try.underlying52 rfl rfl sz4 rfl) ?_
        refine gv rfl hg623 rfl (r_ldB Try.underlying4 rfl rfl hM (.tail _ (.head _)) rfl) ?_
        refine gv rfl hg623 rfl (r_not rfl) ?_
        refine wv rfl (p_t rfl hg623 rfl) ?_
        obtain rfl := Option.some.inj hx
        exact mid_nil () ⟨rfl, rfl, rfl, rfl, rfl, rfl, rfl, trivial⟩ hM
      · replace hx := xif_f hg623 hx
        refine gs rfl (isB_no hg623) rfl ?_
        refine gs rfl (isB_no hg623) rfl ?_
        refine gs rfl (isB_no hg623) rfl ?_
        refine gs rfl (isB_no hg623) rfl ?_
        refine gs rfl (isB_no hg623) rfl ?_
        refine wv rfl (p_f rfl hg623 rfl) ?_
        obtain rfl := Option.some.inj hx
        exact mid_nil () ⟨rfl, rfl, rfl, rfl, rfl, rfl, rfl, trivial⟩ hM
    rintro _ w635 hM
    replace hx := hx629
    refine wl_nil ?_
    refine sq_n ?_
    refine wc_cond rfl (fun hc636 => ?_) (fun hc636 => ?_)
    · replace hx := xif_t hc636 hx
      refine wc_skip ?_
      refine sq_n ?_
      refine wc_seq ?_
      refine wc_block ?_
      refine wc_seq ?_
      refine wc_region ?_
      refine wv rfl (r_move rfl) ?_
      replace hM := hM.p1
      obtain ⟨r638, h639, hx⟩ := bind_some' hx
      refine w_call rfl rfl (hM.callR (l := [oBox b476 #[s608.v, (.int .i64 n605), (.bool b606)] 52]) fun X S oL hS hR => ct_impl_reader_num _ X S b476 (⟨l604, n605, b606⟩ : DReader) s608 hS (hR _ (.head _)) oL h639) ?_
      rintro _ w640 ⟨s641, rfl, hM⟩
      replace hM : St ⟨w, X, S⟩ [oBox b476 #[s641.v, (.int .i64 r638.2.at_), (.bool r638.2.bad)] 52, oBox b469 #[(.string ByteArray.empty), (.int .i64 0), (.slice none 0 0), (.slice none 0 0), (.slice none 0 0)] 27, oBox b488 #[(.string name), (.int .i64 r482.1), s502.v, s525.v, s610.v] 27, oC (cSl 1 fI r499.1) s502.v, oC (cSl 3 fDEntry l522) s525.v, oC (cSl 3 fDSeen l607) s610.v] [rV s641.v (cSl 1 fY r638.2.b), rV s608.v (cSl 1 fY l604), rV s_b.v (cSl 1 fY b)] _ := hM
      refine wv rfl (r_move rfl) ?_
      obtain ⟨r643, h644, hx⟩ := bind_some' hx
      refine w_call rfl rfl (hM.callR (l := [oBox b476 #[s641.v, (.int .i64 r638.2.at_), (.bool r638.2.bad)] 52]) fun X S oL hS hR => ct_impl_reader_num _ X S b476 r638.2 s641 hS (hR _ (.head _)) oL h644) ?_
      rintro _ w645 ⟨s646, rfl, hM⟩
      replace hM : St ⟨w, X, S⟩ [oBox b476 #[s646.v, (.int .i64 r643.2.at_), (.bool r643.2.bad)] 52, oBox b469 #[(.string ByteArray.empty), (.int .i64 0), (.slice none 0 0), (.slice none 0 0), (.slice none 0 0)] 27, oBox b488 #[(.string name), (.int .i64 r482.1), s502.v, s525.v, s610.v] 27, oC (cSl 1 fI r499.1) s502.v, oC (cSl 3 fDEntry l522) s525.v, oC (cSl 3 fDSeen l607) s610.v] [rV s646.v (cSl 1 fY r643.2.b), rV s641.v (cSl 1 fY r638.2.b), rV s608.v (cSl 1 fY l604), rV s_b.v (cSl 1 fY b)] _ := hM
      refine wv rfl (r_build (cells := #[(.int .i64 r638.1), (.int .i64 r643.1), (.int .i64 0)]) rfl (by kernel_rfl)) ?_
      refine w_ex rfl (x_alloc sz47 hM ?_); intro b649 w648 hR650 hM
      replace hM : St ⟨w, X, S⟩ [oBox b649 #[(.int .i64 0), (.int .i64 0), (.int .i64 0)] 47, oBox b476 #[s646.v, (.int .i64 r643.2.at_), (.bool r643.2.bad)] 52, oBox b469 #[(.string ByteArray.empty), (.int .i64 0), (.slice none 0 0), (.slice none 0 0), (.slice none 0 0)] 27, oBox b488 #[(.string name), (.int .i64 r482.1), s502.v, s525.v, s610.v] 27, oC (cSl 1 fI r499.1) s502.v, oC (cSl 3 fDEntry l522) s525.v, oC (cSl 3 fDSeen l607) s610.v] [rV s646.v (cSl 1 fY r643.2.b), rV s641.v (cSl 1 fY r638.2.b), rV s608.v (cSl 1 fY l604), rV s_b.v (cSl 1 fY b)] _ := hM
      refine w_exu (x_stB #[(.int .i64 r638.1), (.int .i64 r643.1), (.int .i64 0)] sz47 rfl rfl rfl rfl rfl rfl hM ?_); intro w652 hM
      refine wl_nil ?_
      refine sq_n ?_
      refine wc_seq ?_
      refine wc_region ?_
      refine wv rfl (r_move rfl) ?_
      replace hM := hM.p1
      obtain ⟨r655, h656, hx⟩ := bind_some' hx
      refine w_call rfl rfl (hM.callR (l := [oBox b476 #[s646.v, (.int .i64 r643.2.at_), (.bool r643.2.bad)] 52]) fun X S oL hS hR => ct_impl_reader_num _ X S b476 r643.2 s646 hS (hR _ (.head _)) oL h656) ?_
      rintro _ w657 ⟨s658, rfl, hM⟩
      replace hM : St ⟨w, X, S⟩ [oBox b476 #[s658.v, (.int .i64 r655.2.at_), (.bool r655.2.bad)] 52, oBox b649 #[(.int .i64 r638.1), (.int .i64 r643.1), (.int .i64 0)] 47, oBox b469 #[(.string ByteArray.empty), (.int .i64 0), (.slice none 0 0), (.slice none 0 0), (.slice none 0 0)] 27, oBox b488 #[(.string name), (.int .i64 r482.1), s502.v, s525.v, s610.v] 27, oC (cSl 1 fI r499.1) s502.v, oC (cSl 3 fDEntry l522) s525.v, oC (cSl 3 fDSeen l607) s610.v] [rV s658.v (cSl 1 fY r655.2.b), rV s646.v (cSl 1 fY r643.2.b), rV s641.v (cSl 1 fY r638.2.b), rV s608.v (cSl 1 fY l604), rV s_b.v (cSl 1 fY b)] _ := hM
      refine wv rfl (r_fld Try.underlying47 rfl rfl sz3 rfl) ?_
      replace hM := hM.p1
      refine w_exu (x_stB #[(.int .i64 r638.1), (.int .i64 r643.1), (.int .i64 r655.1)] sz3 rfl rfl rfl rfl rfl rfl hM ?_); intro w660 hM
      refine wl_nil ?_
      refine sq_n ?_
      refine wc_region ?_
      refine wv rfl (r_fld Try.underlying27 rfl rfl sz25 rfl) ?_
      refine wv rfl (r_ldB Try.underlying25 rfl rfl hM (.tail _ (.tail _ (.tail _ (.head _)))) rfl) ?_
      refine wv rfl (r_ldBS Try.underlying47 sz47 rfl (us := [(.int .i64 r638.1), (.int .i64 r643.1), (.int .i64 r655.1)]) rfl hM (.head _) rfl) ?_
      replace hM := hM.p6
      obtain ⟨hg668, hx⟩ := xg_some hx
      refine w_push (f := fDSeen) (⟨r638.1, r643.1, r655.1⟩ : DSeen) rfl rfl Try.underlying25 sz47 rfl rfl rfl rfl (fun _ => rfl) hM (fun _ => zP (pV _ rfl) (zP (pV _ rfl) (zP (pV _ rfl) zN))) rfl hg668 rfl ?_; intro u666 s667 w665 hM
      refine wv rfl (r_fld Try.underlying27 rfl rfl sz25 rfl) ?_
      replace hM := hM.p4
      refine w_exu (x_stB #[(.string name), (.int .i64 r482.1), s502.v, s525.v, s667.v] sz25 rfl rfl rfl rfl rfl rfl hM ?_); intro w670 hM
      refine wl_nil ?_
      refine bk_n ?_
      refine sq_n ?_
      refine wc_region ?_
      refine wv rfl (r_move rfl) ?_
      obtain ⟨hg674, hx⟩ := xg_some hx
      refine wv rfl (r_add rfl rfl hg674) ?_
      refine wv rfl (r_assign rfl) ?_
      refine wl_nil ?_
      obtain rfl := Option.some.inj hx
      replace hM := hM.p1.p6.p6.p3.p5.p6
      replace hM := hM.t6
      have hM := hM.fewer (rsC (.head _) (rsC (.tail _ (.tail _ (.tail _ (.tail _ (.head _))))) rsN))
      replace hM : St ⟨w, X, S⟩ [oBox b469 #[(.string ByteArray.empty), (.int .i64 0), (.slice none 0 0), (.slice none 0 0), (.slice none 0 0)] 27, oBox b476 #[s658.v, (.int .i64 r655.2.at_), (.bool r655.2.bad)] 52, oBox b488 #[(.string name), (.int .i64 r482.1), s502.v, s525.v, s667.v] 27, oC (cSl 1 fI r499.1) s502.v, oC (cSl 3 fDEntry l522) s525.v, oC (cSl 3 fDSeen (l607 ++ [(⟨r638.1, r643.1, r655.1⟩ : DSeen)])) s667.v] [rV s658.v (cSl 1 fY r655.2.b), rV s_b.v (cSl 1 fY b)] _ := hM
      exact lp_end (m615, i603 + 1, r655.2.b, r655.2.at_, r655.2.bad, l607 ++ [(⟨r638.1, r643.1, r655.1⟩ : DSeen)], s658, s667) (Nat.lt_succ_self _) ⟨rfl, rfl, rfl, rfl, rfl, rfl, trivial⟩ ⟨hM, hx617⟩
    · replace hx := xif_f hc636 hx
      refine wc_exit ?_
      refine sq_exit ?_
      refine lp1_exit ?_
      obtain rfl := Option.some.inj hx
      obtain rfl := Option.some.inj hx617
      replace hx := hx601
      try dsimp only [Sum.elim_inl, Sum.elim_inr] at hx
      refine bk_here ?_
      refine sq_n ?_
      refine wc_seq ?_
      refine wc_region ?_
      refine wv rfl (r_ldBS Try.underlying27 sz27 rfl (us := [(.string name), (.int .i64 r482.1), s502.v, s525.v, s610.v]) rfl hM (.tail _ (.tail _ (.head _))) rfl) ?_
      obtain ⟨r677, h678, hx⟩ := bind_some' hx
      refine w_call rfl rfl (hM.callO (l := []) fun X S oL hS hR hO => ct_impl_DocBytes _ X S (⟨name, r482.1, r499.1, l522, l607⟩ : DDoc) s502 s525 s610 hS (seeA hO (.tail _ (.tail _ (.tail _ (.head _))))) (seeA hO (.tail _ (.tail _ (.tail _ (.tail _ (.head _)))))) (seeA hO (.tail _ (.tail _ (.tail _ (.tail _ (.tail _ (.head _))))))) oL h678) ?_
      rintro _ w679 ⟨s680, rfl, hM⟩
      replace hM : St ⟨w, X, S⟩ [oC (cSl 1 fY r677.1) s680.v, oBox b469 #[(.string ByteArray.empty), (.int .i64 0), (.slice none 0 0), (.slice none 0 0), (.slice none 0 0)] 27, oBox b476 #[s608.v, (.int .i64 n605), (.bool b606)] 52, oBox b488 #[(.string name), (.int .i64 r482.1), s502.v, s525.v, s610.v] 27, oC (cSl 1 fI r499.1) s502.v, oC (cSl 3 fDEntry l522) s525.v, oC (cSl 3 fDSeen l607) s610.v] [rV s608.v (cSl 1 fY l604), rV s_b.v (cSl 1 fY b)] _ := hM
      refine wv rfl (r_move rfl) ?_
      refine wv rfl (r_extract rfl rfl) ?_
      refine wv rfl (r_extract rfl rfl) ?_
      refine wv rfl (r_assign rfl) ?_
      refine wv rfl (r_assign rfl) ?_
      refine wl_nil ?_
      refine sq_n ?_
      refine wc_seq ?_
      refine wc_seq ?_
      refine wc_region ?_
      refine wv rfl (r_move rfl) ?_
      refine wv rfl (r_nilck rfl) ?_
      refine wv rfl (r_fld Try.underlying52 rfl rfl sz4 rfl) ?_
      refine wv rfl (r_ldB Try.underlying4 rfl rfl hM (.tail _ (.tail _ (.head _))) rfl) ?_
      refine wv rfl (r_move rfl) ?_
      obtain ⟨c692, hx, hx696⟩ := bind_some' hx
      refine wl_mid 3 (fun _ : Unit => [(95, (.bool c692)), (1, s_b.v), (4, (.pointer (some ⟨b469, 0, none⟩))), (7, (.pointer (some ⟨b488, 0, none⟩))), (13, s680.v)]) (fun _ w' => St ⟨w, X, S⟩ [oC (cSl 1 fY r677.1) s680.v, oBox b469 #[(.string ByteArray.empty), (.int .i64 0), (.slice none 0 0), (.slice none 0 0), (.slice none 0 0)] 27, oBox b476 #[s608.v, (.int .i64 n605), (.bool b606)] 52, oBox b488 #[(.string name), (.int .i64 r482.1), s502.v, s525.v, s610.v] 27, oC (cSl 1 fI r499.1) s502.v, oC (cSl 3 fDEntry l522) s525.v, oC (cSl 3 fDSeen l607) s610.v] [rV s608.v (cSl 1 fY l604), rV s_b.v (cSl 1 fY b)] w') ?_ ?_
      · rcases Bool.eq_false_or_eq_true b606 with hg693 | hg693
        · replace hx := xif_t hg693 hx
          refine gs rfl (isB_no hg693) rfl ?_
          refine gs rfl (isB_no hg693) rfl ?_
          refine wv rfl (p_t rfl hg693 rfl) ?_
          obtain rfl := Option.some.inj hx
          exact mid_nil () ⟨rfl, rfl, rfl, rfl, rfl, trivial⟩ hM
        · replace hx := xif_f hg693 hx
          refine gv rfl hg693 rfl (r_move rfl) ?_
          refine gv rfl hg693 rfl (r_not rfl) ?_
          refine wv rfl (p_f rfl hg693 rfl) ?_
          obtain rfl := Option.some.inj hx
          exact mid_nil () ⟨rfl, rfl, rfl, rfl, rfl, trivial⟩ hM
      rintro _ w699 hM
      replace hx := hx696
      refine wv rfl (r_move rfl) ?_
      obtain ⟨c701, hx, hx710⟩ := bind_some' hx
      refine wl_mid 5 (fun _ : Unit => [(101, (.bool c701)), (4, (.pointer (some ⟨b469, 0, none⟩))), (7, (.pointer (some ⟨b488, 0, none⟩)))]) (fun _ w' => St ⟨w, X, S⟩ [oC (cSl 1 fY r677.1) s680.v, oBox b469 #[(.string ByteArray.empty), (.int .i64 0), (.slice none 0 0), (.slice none 0 0), (.slice none 0 0)] 27, oBox b476 #[s608.v, (.int .i64 n605), (.bool b606)] 52, oBox b488 #[(.string name), (.int .i64 r482.1), s502.v, s525.v, s610.v] 27, oC (cSl 1 fI r499.1) s502.v, oC (cSl 3 fDEntry l522) s525.v, oC (cSl 3 fDSeen l607) s610.v] [rV s608.v (cSl 1 fY l604), rV s_b.v (cSl 1 fY b)] w') ?_ ?_
      · rcases Bool.eq_false_or_eq_true c692 with hg702 | hg702
        · replace hx := xif_t hg702 hx
          refine gs rfl (isB_no hg702) rfl ?_
          refine gs rfl (isB_no hg702) rfl ?_
          refine gs rfl (isB_no hg702) rfl ?_
          refine gs rfl (isB_no hg702) rfl ?_
          refine wv rfl (p_t rfl hg702 rfl) ?_
          obtain rfl := Option.some.inj hx
          exact mid_nil () ⟨rfl, rfl, rfl, trivial⟩ hM
        · replace hx := xif_f hg702 hx
          refine gv rfl hg702 rfl (r_move rfl) ?_
          refine gv rfl hg702 rfl (r_move rfl) ?_
          obtain ⟨r713, h714, hx⟩ := bind_some' hx
          refine gc rfl hg702 rfl rfl (hM.callV fun X S oL hS hR hO => ct_bytes_Equal _ X S r677.1 s680 b s_b hS (seeA hO (.head _)) (hR _ (.tail _ (.head _))) oL h714) ?_
          rintro _ w715 ⟨rfl, hR716⟩
          have hM := hM.call hR716
          refine gv rfl hg702 rfl (r_not rfl) ?_
          refine wv rfl (p_f rfl hg702 rfl) ?_
          obtain rfl := Option.some.inj hx
          exact mid_nil () ⟨rfl, rfl, rfl, trivial⟩ hM
      rintro _ w718 hM
      replace hx := hx710
      refine wl_nil ?_
      refine sq_n ?_
      refine wc_cond rfl (fun hc719 => ?_) (fun hc719 => ?_)
      · replace hx := xif_t hc719 hx
        refine wc_seq ?_
        refine wc_region ?_
        refine wv rfl (r_build (cells := #[(.string ByteArray.empty), (.int .i64 0), (.slice none 0 0), (.slice none 0 0), (.slice none 0 0)]) rfl (by kernel_rfl)) ?_
        replace hM := hM.p1
        refine w_exu (x_stB #[(.string ByteArray.empty), (.int .i64 0), (.slice none 0 0), (.slice none 0 0), (.slice none 0 0)] sz27 rfl rfl rfl rfl rfl rfl hM ?_); intro w721 hM
        refine wv rfl (r_assign rfl) ?_
        refine wl_nil ?_
        refine sq_n ?_
        refine wc_ret ?_
        refine sq_ret ?_
        obtain rfl := Option.some.inj hx
        have hM := hM.nil0 (T := Int) 1 fI
        have hM := hM.nil0 (T := DEntry) 3 fDEntry
        have hM := hM.nil0 (T := DSeen) 3 fDSeen
        refine fin_ret [(.agg #[(.string ByteArray.empty), (.int .i64 0), nS.v, nS.v, nS.v]), (.bool false)] ⟨rv_box Try.underlying27 sz27 rfl rfl hM (.tail _ (.tail _ (.tail _ (.head _)))), rfl, trivial⟩ ?_
        replace hM := hM.p1.p2
        replace hM := hM.t3
        have hM := hM.fewer rsN
        exact ⟨(nS, nS, nS), rfl, hM.gives⟩
      · replace hx := xif_f hc719 hx
        refine wc_skip ?_
        refine sq_n ?_
        refine wc_seq ?_
        refine wc_region ?_
        refine wv rfl (r_ldBS Try.underlying27 sz27 rfl (us := [(.string name), (.int .i64 r482.1), s502.v, s525.v, s610.v]) rfl hM (.tail _ (.tail _ (.tail _ (.head _)))) rfl) ?_
        replace hM := hM.p1
        refine w_exu (x_stB #[(.string name), (.int .i64 r482.1), s502.v, s525.v, s610.v] sz27 rfl rfl rfl rfl rfl rfl hM ?_); intro w728 hM
        refine wv rfl (r_assign rfl) ?_
        refine wl_nil ?_
        refine sq_n ?_
        refine wc_ret ?_
        obtain rfl := Option.some.inj hx
        refine fin_ret [(.agg #[(.string name), (.int .i64 r482.1), s502.v, s525.v, s610.v]), (.bool true)] ⟨rv_box Try.underlying27 sz27 rfl rfl hM (.head _), rfl, trivial⟩ ?_
        replace hM := hM.p6.p6.p6
        replace hM := hM.t3
        have hM := hM.fewer rsN
        exact ⟨(s502, s525, s610), rfl, hM.gives⟩

noncomputable def x_spec_GetNum_b0 (b : List UInt8) (at_ : Int) (n13 : Int) (f14 : Int) (i15 : Int) : Option (Lr (Int × Int × Int) (Sum Unit (Int × Int × Bool))) :=
  Option.bind (bif decide (i15 < (b.length : Int)) then (xg (inI (i15 - at_)) <| some (decide ((i15 - at_) < 5))) else (some false)) fun c103 => bif c103 then (xg (0 ≤ i15 ∧ i15 < (b.length : Int)) <| xg (0 ≤ ((el b i15.toNat).toNat : Int) ∧ 0 < (128 : Int)) <| xg (inI ((((el b i15.toNat).toNat : Int) % 128) * f14)) <| xg (inI (n13 + ((((el b i15.toNat).toNat : Int) % 128) * f14))) <| xg (inI (f14 * 128)) <| bif decide (((el b i15.toNat).toNat : Int) < 128) then (Option.bind (bif decide ((1114111000 : Int) < (n13 + ((((el b i15.toNat).toNat : Int) % 128) * f14))) then (some true) else (Option.bind (bif decide (((el b i15.toNat).toNat : Int) = 0) then (some (decide (at_ < i15))) else (some false)) fun c158 => some c158)) fun c142 => bif c142 then (some (Lr.out (Sum.inr ((0, 0, false))))) else (xg (inI (i15 + 1)) <| some (Lr.out (Sum.inr ((n13 + ((((el b i15.toNat).toNat : Int) % 128) * f14), i15 + 1, true)))))) else (xg (inI (i15 + 1)) <| some (Lr.go (n13 + ((((el b i15.toNat).toNat : Int) % 128) * f14), f14 * 128, i15 + 1)))) else (some (Lr.out (Sum.inl ())))
noncomputable def x_spec_GetNum_f0 (b : List UInt8) (at_ : Int) (s180 : Int × Int × Int) : Option (Lr (Int × Int × Int) (Sum Unit (Int × Int × Bool))) := x_spec_GetNum_b0 b at_ s180.1 s180.2.1 s180.2.2
noncomputable def x_spec_GetNum (b : List UInt8) (at_ : Int) : Option (Int × Int × Bool) :=
  bif decide (at_ < 0) then (some (0, 0, false)) else (Option.bind (iter (x_spec_GetNum_f0 b at_) (0, 1, at_)) fun (y181 : Sum Unit (Int × Int × Bool)) => Sum.elim (fun _y182 => some (0, 0, false)) (fun y183 => some (y183.1, y183.2.1, y183.2.2)) y181)
theorem ct_spec_GetNum (w : World) (X S : Bs) (b : List UInt8) (s_b : Sv) (at_ : Int) (hS : ∀ b, S b → b < w.heap.size ∧ ¬ X b) (a_b_0 : (cSl 1 fY b).rd S w s_b.v) (oL : Sep [] X w) {r : Int × Int × Bool} (hx : x_spec_GetNum b at_ = some r) :
    Ret Try.prog 31 [s_b.v, (.int .i64 at_)] w (fun u w' => ∃ _ : Unit, u = .tuple #[(.int .i64 r.1), (.int .i64 r.2.1), (.bool r.2.2)] ∧ Gives X S w [] [] w') := by
  unfold x_spec_GetNum at hx
  refine enter Try.func31 rfl Try.ntmps31 (by kernel_rfl) rfl ?_
  have hM := St.enter oL hS
  have hM := hM.addE (r := rV s_b.v (cSl 1 fY b)) a_b_0
  refine wc_seq ?_
  refine wc_region ?_
  refine wv rfl (r_assign rfl) ?_
  refine wv rfl (r_assign rfl) ?_
  refine wv rfl (r_assign rfl) ?_
  refine wl_nil ?_
  refine sq_n ?_
  refine wc_seq ?_
  refine wc_region ?_
  refine wv rfl (r_assign rfl) ?_
  refine wl_nil ?_
  refine sq_n ?_
  refine wc_seq ?_
  refine wc_region ?_
  refine wv rfl (r_assign rfl) ?_
  refine wl_nil ?_
  refine sq_n ?_
  refine wc_seq ?_
  refine wc_seq ?_
  refine wc_region ?_
  refine wv rfl (r_move rfl) ?_
  refine wv rfl (r_lss rfl rfl) ?_
  refine wl_nil ?_
  refine sq_n ?_
  refine wc_cond rfl (fun hc194 => ?_) (fun hc194 => ?_)
  · replace hx := xif_t hc194 hx
    refine wc_seq ?_
    refine wc_region ?_
    refine wv rfl (r_assign rfl) ?_
    refine wv rfl (r_assign rfl) ?_
    refine wv rfl (r_assign rfl) ?_
    refine wl_nil ?_
    refine sq_n ?_
    refine wc_ret ?_
    refine sq_ret ?_
    obtain rfl := Option.some.inj hx
    refine fin_ret [(.int .i64 0), (.int .i64 0), (.bool false)] ⟨rfl, rfl, rfl, trivial⟩ ?_
    replace hM := hM.t0
    have hM := hM.fewer rsN
    exact ⟨(), rfl, hM.gives⟩
  · replace hx := xif_f hc194 hx
    refine wc_skip ?_
    refine sq_n ?_
    refine wc_seq ?_
    refine wc_seq ?_
    refine wc_region ?_
    refine wv rfl (r_move rfl) ?_
    refine wv rfl (r_assign rfl) ?_
    refine wl_nil ?_
    refine sq_n ?_
    refine wc_block ?_
    obtain ⟨y200, hx, hx201⟩ := bind_some' hx
    obtain ⟨m207, hx⟩ := iter_run hx
    refine wc_loop (un fun (m205 : Nat) => un fun (n202 : Int) => un fun (f203 : Int) => fun (i204 : Int) => [(0, s_b.v), (1, (.int .i64 at_)), (7, (.int .i64 n202)), (8, (.int .i64 f203)), (9, (.int .i64 i204))]) (un fun (m205 : Nat) => un fun (n202 : Int) => un fun (f203 : Int) => fun (i204 : Int) w' => St ⟨w, X, S⟩ [] [rV s_b.v (cSl 1 fY b)] w' ∧ iterN _ m205 (n202, f203, i204) = some y200) (fun p => p.1) (m207, 0, 1, at_) ⟨rfl, rfl, rfl, rfl, rfl, trivial⟩ ⟨hM, hx⟩ ?_
    rintro ⟨m205, n202, f203, i204⟩ w208 ⟨hM, hx⟩
    obtain ⟨m209, z210, rfl, hx, hx211⟩ := iterN_step hx
    unfold x_spec_GetNum_f0 x_spec_GetNum_b0 at hx
    try dsimp only at hx
    refine wc_seq ?_
    refine wc_seq ?_
    refine wc_region ?_
    refine wv rfl (r_move rfl) ?_
    refine wv rfl (r_move rfl) ?_
    refine wv rfl (r_lenC Try.underlying22 rfl (hM.seeR (.head _))) ?_
    refine wv rfl (r_lss rfl rfl) ?_
    refine wv rfl (r_move rfl) ?_
    obtain ⟨c217, hx, hx224⟩ := bind_some' hx
    refine wl_mid 5 (fun _ : Unit => [(23, (.bool c217)), (0, s_b.v), (1, (.int .i64 at_)), (7, (.int .i64 n202)), (8, (.int .i64 f203)), (9, (.int .i64 i204))]) (fun _ w' => St ⟨w, X, S⟩ [] [rV s_b.v (cSl 1 fY b)] w') ?_ ?_
    · rcases Bool.eq_false_or_eq_true (decide (i204 < (b.length : Int))) with hg218 | hg218
      · replace hx := xif_t hg218 hx
        refine gv rfl hg218 rfl (r_move rfl) ?_
        refine gv rfl hg218 rfl (r_move rfl) ?_
        obtain ⟨hg228, hx⟩ := xg_some hx
        refine gv rfl hg218 rfl (r_sub rfl rfl hg228) ?_
        refine gv rfl hg218 rfl (r_lss rfl rfl) ?_
        refine wv rfl (p_t rfl hg218 rfl) ?_
        obtain rfl := Option.some.inj hx
        exact mid_nil () ⟨rfl, rfl, rfl, rfl, rfl, rfl, trivial⟩ hM
      · replace hx := xif_f hg218 hx
        refine gs rfl (isB_no hg218) rfl ?_
        refine gs rfl (isB_no hg218) rfl ?_
        refine gs rfl (isB_no hg218) rfl ?_
        refine gs rfl (isB_no hg218) rfl ?_
        refine wv rfl (p_f rfl hg218 rfl) ?_
        obtain rfl := Option.some.inj hx
        exact mid_nil () ⟨rfl, rfl, rfl, rfl, rfl, rfl, trivial⟩ hM
    rintro _ w230 hM
    replace hx := hx224
    refine wl_nil ?_
    refine sq_n ?_
    refine wc_cond rfl (fun hc231 => ?_) (fun hc231 => ?_)
    · replace hx := xif_t hc231 hx
      refine wc_skip ?_
      refine sq_n ?_
      refine wc_seq ?_
      refine wc_block ?_
      refine wc_seq ?_
      refine wc_region ?_
      refine wv rfl (r_move rfl) ?_
      refine wv rfl (r_move rfl) ?_
      obtain ⟨hg236, hx⟩ := xg_some hx
      have hi235 : i204.toNat < b.length := by omega
      refine wv rfl (r_ixC Try.underlying22 sz5 rfl rfl (hM.seeR (.head _)) hg236) ?_
      refine wv rfl (r_ld Try.underlying5 rfl rfl (Cs.get (i := i204.toNat) (j := 0) (hM.seeR (.head _)) (fun _ => rfl) hi235 rfl)) ?_
      refine wv rfl (r_cvt Try.underlying5 Try.underlying3 rfl (u8_cvt _)) ?_
      refine wv rfl (r_assign rfl) ?_
      refine wl_nil ?_
      refine sq_n ?_
      refine wc_seq ?_
      refine wc_region ?_
      refine wv rfl (r_move rfl) ?_
      refine wv rfl (r_move rfl) ?_
      obtain ⟨hg243, hx⟩ := xg_some hx
      refine wv rfl (r_rem rfl rfl hg243) ?_
      refine wv rfl (r_move rfl) ?_
      obtain ⟨hg246, hx⟩ := xg_some hx
      refine wv rfl (r_mul rfl rfl hg246) ?_
      obtain ⟨hg248, hx⟩ := xg_some hx
      refine wv rfl (r_add rfl rfl hg248) ?_
      refine wv rfl (r_assign rfl) ?_
      refine wl_nil ?_
      refine sq_n ?_
      refine wc_seq ?_
      refine wc_region ?_
      refine wv rfl (r_move rfl) ?_
      obtain ⟨hg252, hx⟩ := xg_some hx
      refine wv rfl (r_mul rfl rfl hg252) ?_
      refine wv rfl (r_assign rfl) ?_
      refine wl_nil ?_
      refine sq_n ?_
      refine wc_seq ?_
      refine wc_region ?_
      refine wv rfl (r_move rfl) ?_
      refine wv rfl (r_lss rfl rfl) ?_
      refine wl_nil ?_
      refine sq_n ?_
      refine wc_cond rfl (fun hc256 => ?_) (fun hc256 => ?_)
      · replace hx := xif_t hc256 hx
        refine wc_seq ?_
        refine wc_seq ?_
        refine wc_region ?_
        refine wv rfl (r_move rfl) ?_
        refine wv rfl (r_gtr rfl rfl) ?_
        refine wv rfl (r_move rfl) ?_
        obtain ⟨c260, hx, hx273⟩ := bind_some' hx
        refine wl_mid 8 (fun _ : Unit => [(51, (.bool c260)), (7, (.int .i64 (n202 + ((((el b i204.toNat).toNat : Int) % 128) * f203)))), (9, (.int .i64 i204))]) (fun _ w' => St ⟨w, X, S⟩ [] [rV s_b.v (cSl 1 fY b)] w') ?_ ?_
        · rcases Bool.eq_false_or_eq_true (decide ((1114111000 : Int) < (n202 + ((((el b i204.toNat).toNat : Int) % 128) * f203)))) with hg261 | hg261
          · replace hx := xif_t hg261 hx
            refine gs rfl (isB_no hg261) rfl ?_
            refine gs rfl (isB_no hg261) rfl ?_
            refine gs rfl (isB_no hg261) rfl ?_
            refine gs rfl rfl rfl ?_
            refine gs rfl rfl rfl ?_
            refine gs rfl rfl rfl ?_
            refine gs rfl (isB_no hg261) rfl ?_
            refine wv rfl (p_t rfl hg261 rfl) ?_
            obtain rfl := Option.some.inj hx
            exact mid_nil () ⟨rfl, rfl, rfl, trivial⟩ hM
          · replace hx := xif_f hg261 hx
            refine gv rfl hg261 rfl (r_move rfl) ?_
            refine gv rfl hg261 rfl (r_eql rfl rfl) ?_
            refine gv rfl hg261 rfl (r_move rfl) ?_
            obtain ⟨c277, hx, hx282⟩ := bind_some' hx
            refine wl_mid 4 (fun _ : Unit => [(50, (.bool c277)), (7, (.int .i64 (n202 + ((((el b i204.toNat).toNat : Int) % 128) * f203)))), (9, (.int .i64 i204)), (43, (.bool (decide ((1114111000 : Int) < (n202 + ((((el b i204.toNat).toNat : Int) % 128) * f203))))))]) (fun _ w' => St ⟨w, X, S⟩ [] [rV s_b.v (cSl 1 fY b)] w') ?_ ?_
            · rcases Bool.eq_false_or_eq_true (decide (((el b i204.toNat).toNat : Int) = 0)) with hg278 | hg278
              · replace hx := xif_t hg278 hx
                refine gv rfl hg278 rfl (r_move rfl) ?_
                refine gv rfl hg278 rfl (r_move rfl) ?_
                refine gv rfl hg278 rfl (r_gtr rfl rfl) ?_
                refine gv rfl hg261 rfl (p_t rfl hg278 rfl) ?_
                obtain rfl := Option.some.inj hx
                exact mid_nil () ⟨rfl, rfl, rfl, rfl, trivial⟩ hM
              · replace hx := xif_f hg278 hx
                refine gs rfl (isB_no hg278) rfl ?_
                refine gs rfl (isB_no hg278) rfl ?_
                refine gs rfl (isB_no hg278) rfl ?_
                refine gv rfl hg261 rfl (p_f rfl hg278 rfl) ?_
                obtain rfl := Option.some.inj hx
                exact mid_nil () ⟨rfl, rfl, rfl, rfl, trivial⟩ hM
            rintro _ w286 hM
            replace hx := hx282
            refine wv rfl (p_f rfl hg261 rfl) ?_
            obtain rfl := Option.some.inj hx
            exact mid_nil () ⟨rfl, rfl, rfl, trivial⟩ hM
        rintro _ w287 hM
        replace hx := hx273
        refine wl_nil ?_
        refine sq_n ?_
        refine wc_cond rfl (fun hc288 => ?_) (fun hc288 => ?_)
        · replace hx := xif_t hc288 hx
          refine wc_seq ?_
          refine wc_region ?_
          refine wv rfl (r_assign rfl) ?_
          refine wv rfl (r_assign rfl) ?_
          refine wv rfl (r_assign rfl) ?_
          refine wl_nil ?_
          refine sq_n ?_
          refine wc_ret ?_
          refine sq_ret ?_
          refine bk_ret ?_
          refine sq_ret ?_
          refine lp1_ret ?_
          obtain rfl := Option.some.inj hx
          obtain rfl := Option.some.inj hx211
          replace hx := hx201
          try dsimp only [Sum.elim_inl, Sum.elim_inr] at hx
          refine bk_ret ?_
          refine sq_ret ?_
          obtain rfl := Option.some.inj hx
          refine fin_ret [(.int .i64 0), (.int .i64 0), (.bool false)] ⟨rfl, rfl, rfl, trivial⟩ ?_
          replace hM := hM.t0
          have hM := hM.fewer rsN
          exact ⟨(), rfl, hM.gives⟩
        · replace hx := xif_f hc288 hx
          refine wc_skip ?_
          refine sq_n ?_
          refine wc_seq ?_
          refine wc_region ?_
          refine wv rfl (r_move rfl) ?_
          refine wv rfl (r_move rfl) ?_
          obtain ⟨hg295, hx⟩ := xg_some hx
          refine wv rfl (r_add rfl rfl hg295) ?_
          refine wv rfl (r_assign rfl) ?_
          refine wv rfl (r_assign rfl) ?_
          refine wv rfl (r_assign rfl) ?_
          refine wl_nil ?_
          refine sq_n ?_
          refine wc_ret ?_
          refine bk_ret ?_
          refine sq_ret ?_
          refine lp1_ret ?_
          obtain rfl := Option.some.inj hx
          obtain rfl := Option.some.inj hx211
          replace hx := hx201
          try dsimp only [Sum.elim_inl, Sum.elim_inr] at hx
          refine bk_ret ?_
          refine sq_ret ?_
          obtain rfl := Option.some.inj hx
          refine fin_ret [(.int .i64 (n202 + ((((el b i204.toNat).toNat : Int) % 128) * f203))), (.int .i64 (i204 + 1)), (.bool true)] ⟨rfl, rfl, rfl, trivial⟩ ?_
          replace hM := hM.t0
          have hM := hM.fewer rsN
          exact ⟨(), rfl, hM.gives⟩
      · replace hx := xif_f hc256 hx
        refine wc_skip ?_
        refine bk_n ?_
        refine sq_n ?_
        refine wc_region ?_
        refine wv rfl (r_move rfl) ?_
        obtain ⟨hg301, hx⟩ := xg_some hx
        refine wv rfl (r_add rfl rfl hg301) ?_
        refine wv rfl (r_assign rfl) ?_
        refine wl_nil ?_
        obtain rfl := Option.some.inj hx
        exact lp_end (m209, n202 + ((((el b i204.toNat).toNat : Int) % 128) * f203), f203 * 128, i204 + 1) (Nat.lt_succ_self _) ⟨rfl, rfl, rfl, rfl, rfl, trivial⟩ ⟨hM, hx211⟩
    · replace hx := xif_f hc231 hx
      refine wc_exit ?_
      refine sq_exit ?_
      refine lp1_exit ?_
      obtain rfl := Option.some.inj hx
      obtain rfl := Option.some.inj hx211
      replace hx := hx201
      try dsimp only [Sum.elim_inl, Sum.elim_inr] at hx
      refine bk_here ?_
      refine sq_n ?_
      refine wc_seq ?_
      refine wc_region ?_
      refine wv rfl (r_assign rfl) ?_
      refine wv rfl (r_assign rfl) ?_
      refine wv rfl (r_assign rfl) ?_
      refine wl_nil ?_
      refine sq_n ?_
      refine wc_ret ?_
      obtain rfl := Option.some.inj hx
      refine fin_ret [(.int .i64 0), (.int .i64 0), (.bool false)] ⟨rfl, rfl, rfl, trivial⟩ ?_
      replace hM := hM.t0
      have hM := hM.fewer rsN
      exact ⟨(), rfl, hM.gives⟩

noncomputable def x_spec_l21Get (r_ : DL21Rd) : Option (Int × DL21Rd) :=
  bif r_.bad then (some (0, r_)) else (Option.bind (x_spec_GetNum r_.b r_.at_) fun r16 => some (r16.1, (⟨r_.b, r16.2.1, !r16.2.2⟩ : DL21Rd)))
theorem ct_spec_l21Get (w : World) (X S : Bs) (b_r_ : Nat) (r_ : DL21Rd) (s_r__0 : Sv) (hS : ∀ b, S b → b < w.heap.size ∧ ¬ X b) (a_r__0 : (cSl 1 fY r_.b).rd S w s_r__0.v) (oL : Sep [oBox b_r_ #[s_r__0.v, (.int .i64 r_.at_), (.bool r_.bad)] 38] X w) {r : Int × DL21Rd} (hx : x_spec_l21Get r_ = some r) :
    Ret Try.prog 12 [(.pointer (some ⟨b_r_, 0, none⟩))] w (fun u w' => ∃ y : Sv, u = (.int .i64 r.1) ∧ Gives X S w [oBox b_r_ #[y.v, (.int .i64 r.2.at_), (.bool r.2.bad)] 38] [rV y.v (cSl 1 fY r.2.b)] w') := by
  unfold x_spec_l21Get at hx
  refine enter Try.func12 rfl Try.ntmps12 (by kernel_rfl) rfl ?_
  have hM := St.enter oL hS
  have hM := hM.addE (r := rV s_r__0.v (cSl 1 fY r_.b)) a_r__0
  refine wc_seq ?_
  refine wc_region ?_
  refine wv rfl (r_assign rfl) ?_
  refine wl_nil ?_
  refine sq_n ?_
  refine wc_seq ?_
  refine wc_seq ?_
  refine wc_region ?_
  refine wv rfl (r_move rfl) ?_
  refine wv rfl (r_nilck rfl) ?_
  refine wv rfl (r_fld Try.underlying38 rfl rfl sz4 rfl) ?_
  refine wv rfl (r_ldB Try.underlying4 rfl rfl hM (.head _) rfl) ?_
  refine wl_nil ?_
  refine sq_n ?_
  refine wc_cond rfl (fun hc51 => ?_) (fun hc51 => ?_)
  · replace hx := xif_t hc51 hx
    refine wc_seq ?_
    refine wc_region ?_
    refine wv rfl (r_assign rfl) ?_
    refine wl_nil ?_
    refine sq_n ?_
    refine wc_ret ?_
    refine sq_ret ?_
    obtain rfl := Option.some.inj hx
    refine fin_ret [(.int .i64 0)] ⟨rfl, trivial⟩ ?_
    replace hM := hM.t1
    have hM := hM.fewer (rsC (.head _) rsN)
    exact ⟨s_r__0, rfl, hM.gives⟩
  · replace hx := xif_f hc51 hx
    refine wc_skip ?_
    refine sq_n ?_
    refine wc_seq ?_
    refine wc_draw [(0, 0), (1, 0), (2, 0), (3, 0), (4, 0), (5, 0), (6, 0), (7, 0), (8, 2), (9, 0), (10, 0), (11, 0), (12, 0), (13, 0), (14, 0), (15, 0)] Try_mixed (by kernel_rfl) rfl (by kernel_rfl) rfl ?_
    refine ov rfl (fun w' h' => r_move rfl) ?_
    refine ov rfl (fun w' h' => r_nilck rfl) ?_
    refine ov rfl (fun w' h' => r_fld Try.underlying38 rfl rfl sz22 rfl) ?_
    refine ov rfl (fun w' h' => r_ldB Try.underlying22 rfl rfl (hM.call h') (.head _) rfl) ?_
    refine ov rfl (fun w' h' => r_move rfl) ?_
    refine ov rfl (fun w' h' => r_nilck rfl) ?_
    refine ov rfl (fun w' h' => r_fld Try.underlying38 rfl rfl sz3 rfl) ?_
    refine ov rfl (fun w' h' => r_ldB Try.underlying3 rfl rfl (hM.call h') (.head _) rfl) ?_
    obtain ⟨r61, h62, hx⟩ := bind_some' hx
    refine o_call rfl rfl (fun w' h' => (hM.call h').callV fun X S oL hS hR hO => ct_spec_GetNum _ X S r_.b s_r__0 r_.at_ hS (hR _ (.head _)) oL h62) ?_
    rintro w64 h65 _ w63 ⟨rfl, hR66⟩
    have hM := (hM.call h65).call hR66
    refine ov rfl (fun w' h' => r_move rfl) ?_
    refine ov rfl (fun w' h' => r_extract rfl rfl) ?_
    refine ov rfl (fun w' h' => r_extract rfl rfl) ?_
    refine ov rfl (fun w' h' => r_extract rfl rfl) ?_
    refine ov rfl (fun w' h' => r_assign rfl) ?_
    refine ov rfl (fun w' h' => r_assign rfl) ?_
    refine ov rfl (fun w' h' => r_assign rfl) ?_
    refine o_nil fun w74 hw75 => ?_
    have hM := hM.call hw75
    refine sq_n ?_
    refine wc_seq ?_
    refine wc_region ?_
    refine wv rfl (r_move rfl) ?_
    refine wv rfl (r_move rfl) ?_
    refine wv rfl (r_not rfl) ?_
    refine wv rfl (r_nilck rfl) ?_
    refine wv rfl (r_fld Try.underlying38 rfl rfl sz4 rfl) ?_
    refine w_exu (x_stB #[s_r__0.v, (.int .i64 r_.at_), (.bool (!r61.2.2))] sz4 rfl rfl rfl rfl rfl rfl hM ?_); intro w81 hM
    refine wl_nil ?_
    refine sq_n ?_
    refine wc_seq ?_
    refine wc_region ?_
    refine wv rfl (r_move rfl) ?_
    refine wv rfl (r_move rfl) ?_
    refine wv rfl (r_nilck rfl) ?_
    refine wv rfl (r_fld Try.underlying38 rfl rfl sz3 rfl) ?_
    refine w_exu (x_stB #[s_r__0.v, (.int .i64 r61.2.1), (.bool (!r61.2.2))] sz3 rfl rfl rfl rfl rfl rfl hM ?_); intro w87 hM
    refine wl_nil ?_
    refine sq_n ?_
    refine wc_seq ?_
    refine wc_region ?_
    refine wv rfl (r_move rfl) ?_
    refine wv rfl (r_assign rfl) ?_
    refine wl_nil ?_
    refine sq_n ?_
    refine wc_ret ?_
    obtain rfl := Option.some.inj hx
    refine fin_ret [(.int .i64 r61.1)] ⟨rfl, trivial⟩ ?_
    replace hM := hM.t1
    have hM := hM.fewer (rsC (.head _) rsN)
    exact ⟨s_r__0, rfl, hM.gives⟩

noncomputable def x_spec_l21Count (r_ : DL21Rd) (most : Int) : Option (Int × DL21Rd) :=
  Option.bind (x_spec_l21Get r_) fun r4 => bif decide (most < r4.1) then (some (0, (⟨r4.2.b, r4.2.at_, true⟩ : DL21Rd))) else (some (r4.1, r4.2))
theorem ct_spec_l21Count (w : World) (X S : Bs) (b_r_ : Nat) (r_ : DL21Rd) (s_r__0 : Sv) (most : Int) (hS : ∀ b, S b → b < w.heap.size ∧ ¬ X b) (a_r__0 : (cSl 1 fY r_.b).rd S w s_r__0.v) (oL : Sep [oBox b_r_ #[s_r__0.v, (.int .i64 r_.at_), (.bool r_.bad)] 38] X w) {r : Int × DL21Rd} (hx : x_spec_l21Count r_ most = some r) :
    Ret Try.prog 14 [(.pointer (some ⟨b_r_, 0, none⟩)), (.int .i64 most)] w (fun u w' => ∃ y : Sv, u = (.int .i64 r.1) ∧ Gives X S w [oBox b_r_ #[y.v, (.int .i64 r.2.at_), (.bool r.2.bad)] 38] [rV y.v (cSl 1 fY r.2.b)] w') := by
  unfold x_spec_l21Count at hx
  refine enter Try.func14 rfl Try.ntmps14 (by kernel_rfl) rfl ?_
  have hM := St.enter oL hS
  have hM := hM.addE (r := rV s_r__0.v (cSl 1 fY r_.b)) a_r__0
  refine wc_seq ?_
  refine wc_region ?_
  refine wv rfl (r_assign rfl) ?_
  refine wl_nil ?_
  refine sq_n ?_
  refine wc_seq ?_
  refine wc_region ?_
  refine wv rfl (r_move rfl) ?_
  obtain ⟨r22, h23, hx⟩ := bind_some' hx
  refine w_call rfl rfl (hM.callR (l := [oBox b_r_ #[s_r__0.v, (.int .i64 r_.at_), (.bool r_.bad)] 38]) fun X S oL hS hR => ct_spec_l21Get _ X S b_r_ r_ s_r__0 hS (hR _ (.head _)) oL h23) ?_
  rintro _ w24 ⟨s25, rfl, hM⟩
  replace hM : St ⟨w, X, S⟩ [oBox b_r_ #[s25.v, (.int .i64 r22.2.at_), (.bool r22.2.bad)] 38] [rV s25.v (cSl 1 fY r22.2.b), rV s_r__0.v (cSl 1 fY r_.b)] _ := hM
  refine wv rfl (r_assign rfl) ?_
  refine wl_nil ?_
  refine sq_n ?_
  refine wc_seq ?_
  refine wc_seq ?_
  refine wc_region ?_
  refine wv rfl (r_move rfl) ?_
  refine wv rfl (r_move rfl) ?_
  refine wv rfl (r_gtr rfl rfl) ?_
  refine wl_nil ?_
  refine sq_n ?_
  refine wc_cond rfl (fun hc30 => ?_) (fun hc30 => ?_)
  · replace hx := xif_t hc30 hx
    refine wc_seq ?_
    refine wc_region ?_
    refine wv rfl (r_move rfl) ?_
    refine wv rfl (r_nilck rfl) ?_
    refine wv rfl (r_fld Try.underlying38 rfl rfl sz4 rfl) ?_
    refine w_exu (x_stB #[s25.v, (.int .i64 r22.2.at_), (.bool true)] sz4 rfl rfl rfl rfl rfl rfl hM ?_); intro w34 hM
    refine wl_nil ?_
    refine sq_n ?_
    refine wc_seq ?_
    refine wc_region ?_
    refine wv rfl (r_assign rfl) ?_
    refine wl_nil ?_
    refine sq_n ?_
    refine wc_ret ?_
    refine sq_ret ?_
    obtain rfl := Option.some.inj hx
    refine fin_ret [(.int .i64 0)] ⟨rfl, trivial⟩ ?_
    replace hM := hM.t1
    have hM := hM.fewer (rsC (.head _) rsN)
    exact ⟨s25, rfl, hM.gives⟩
  · replace hx := xif_f hc30 hx
    refine wc_skip ?_
    refine sq_n ?_
    refine wc_seq ?_
    refine wc_region ?_
    refine wv rfl (r_move rfl) ?_
    refine wv rfl (r_assign rfl) ?_
    refine wl_nil ?_
    refine sq_n ?_
    refine wc_ret ?_
    obtain rfl := Option.some.inj hx
    refine fin_ret [(.int .i64 r22.1)] ⟨rfl, trivial⟩ ?_
    replace hM := hM.t1
    have hM := hM.fewer (rsC (.head _) rsN)
    exact ⟨s25, rfl, hM.gives⟩

noncomputable def x_spec_l21Signs_b0 (n42 : Int) (out43 : List Int) (l44 : List UInt8) (n45 : Int) (b46 : Bool) : Option (Lr (Int × List Int × List UInt8 × Int × Bool) (List Int × List UInt8 × Int × Bool)) :=
  Option.bind (bif decide ((0 : Int) < n42) then (some (!b46)) else (some false)) fun c83 => bif c83 then (Option.bind (x_spec_l21Get (⟨l44, n45, b46⟩ : DL21Rd)) fun r97 => xg (out43.length < 1099511627776) <| xg (inI (n42 - 1)) <| some (Lr.go (n42 - 1, out43 ++ [r97.1], r97.2.b, r97.2.at_, r97.2.bad))) else (some (Lr.out (out43, l44, n45, b46)))
noncomputable def x_spec_l21Signs_f0 (s110 : Int × List Int × List UInt8 × Int × Bool) : Option (Lr (Int × List Int × List UInt8 × Int × Bool) (List Int × List UInt8 × Int × Bool)) := x_spec_l21Signs_b0 s110.1 s110.2.1 s110.2.2.1 s110.2.2.2.1 s110.2.2.2.2
noncomputable def x_spec_l21Signs (r_ : DL21Rd) (n : Int) : Option (List Int × DL21Rd) :=
  Option.bind (iter (x_spec_l21Signs_f0) (n, [], r_.b, r_.at_, r_.bad)) fun (y111 : List Int × List UInt8 × Int × Bool) => some (y111.1, (⟨y111.2.1, y111.2.2.1, y111.2.2.2⟩ : DL21Rd))
theorem ct_spec_l21Signs (w : World) (X S : Bs) (b_r_ : Nat) (r_ : DL21Rd) (s_r__0 : Sv) (n : Int) (hS : ∀ b, S b → b < w.heap.size ∧ ¬ X b) (a_r__0 : (cSl 1 fY r_.b).rd S w s_r__0.v) (oL : Sep [oBox b_r_ #[s_r__0.v, (.int .i64 r_.at_), (.bool r_.bad)] 38] X w) {r : List Int × DL21Rd} (hx : x_spec_l21Signs r_ n = some r) :
    Ret Try.prog 13 [(.pointer (some ⟨b_r_, 0, none⟩)), (.int .i64 n)] w (fun u w' => ∃ y : Sv × Sv, u = y.1.v ∧ Gives X S w [oC (cSl 1 fI r.1) y.1.v, oBox b_r_ #[y.2.v, (.int .i64 r.2.at_), (.bool r.2.bad)] 38] [rV y.2.v (cSl 1 fY r.2.b)] w') := by
  unfold x_spec_l21Signs at hx
  refine enter Try.func13 rfl Try.ntmps13 (by kernel_rfl) rfl ?_
  have hM := St.enter oL hS
  have hM := hM.addE (r := rV s_r__0.v (cSl 1 fY r_.b)) a_r__0
  refine wc_seq ?_
  refine wc_region ?_
  refine wv rfl (r_assign rfl) ?_
  refine wl_nil ?_
  refine sq_n ?_
  refine wc_seq ?_
  refine wc_region ?_
  refine w_ex rfl (x_empty (f := fI) Try.underlying23 sz3 (fun _ => rfl) hM ?_); intro s119 w118 hR120 hM
  refine wv rfl (r_assign rfl) ?_
  refine wl_nil ?_
  refine sq_n ?_
  refine wc_seq ?_
  refine wc_block ?_
  obtain ⟨y123, hx, hx124⟩ := bind_some' hx
  replace hM := hM.p1
  obtain ⟨m135, hx⟩ := iter_run hx
  refine wc_loop (un fun (m133 : Nat) => un fun (n125 : Int) => un fun (out126 : List Int) => un fun (l127 : List UInt8) => un fun (n128 : Int) => un fun (b129 : Bool) => un fun (s131 : Sv) => fun (s132 : Sv) => [(0, (.pointer (some ⟨b_r_, 0, none⟩))), (1, (.int .i64 n125)), (5, s131.v)]) (un fun (m133 : Nat) => un fun (n125 : Int) => un fun (out126 : List Int) => un fun (l127 : List UInt8) => un fun (n128 : Int) => un fun (b129 : Bool) => un fun (s131 : Sv) => fun (s132 : Sv) w' => St ⟨w, X, S⟩ [oBox b_r_ #[s132.v, (.int .i64 n128), (.bool b129)] 38, oC (cSl 1 fI out126) s131.v] [rV s132.v (cSl 1 fY l127)] w' ∧ iterN _ m133 (n125, out126, l127, n128, b129) = some y123) (fun p => p.1) (m135, n, [], r_.b, r_.at_, r_.bad, s119, s_r__0) ⟨rfl, rfl, rfl, trivial⟩ ⟨hM, hx⟩ ?_
  rintro ⟨m133, n125, out126, l127, n128, b129, s131, s132⟩ w136 ⟨hM, hx⟩
  obtain ⟨m137, z138, rfl, hx, hx139⟩ := iterN_step hx
  unfold x_spec_l21Signs_f0 x_spec_l21Signs_b0 at hx
  try dsimp only at hx
  refine wc_seq ?_
  refine wc_seq ?_
  refine wc_region ?_
  refine wv rfl (r_move rfl) ?_
  refine wv rfl (r_gtr rfl rfl) ?_
  refine wv rfl (r_move rfl) ?_
  obtain ⟨c143, hx, hx150⟩ := bind_some' hx
  refine wl_mid 6 (fun _ : Unit => [(15, (.bool c143)), (0, (.pointer (some ⟨b_r_, 0, none⟩))), (1, (.int .i64 n125)), (5, s131.v)]) (fun _ w' => St ⟨w, X, S⟩ [oBox b_r_ #[s132.v, (.int .i64 n128), (.bool b129)] 38, oC (cSl 1 fI out126) s131.v] [rV s132.v (cSl 1 fY l127)] w') ?_ ?_
  · rcases Bool.eq_false_or_eq_true (decide ((0 : Int) < n125)) with hg144 | hg144
    · replace hx := xif_t hg144 hx
      refine gv rfl hg144 rfl (r_move rfl) ?_
      refine gv rfl hg144 rfl (r_nilck rfl) ?_
      refine gv rfl hg144 rfl (r_fld Try.underlying38 rfl rfl sz4 rfl) ?_
      refine gv rfl hg144 rfl (r_ldB Try.underlying4 rfl rfl hM (.head _) rfl) ?_
      refine gv rfl hg144 rfl (r_not rfl) ?_
      refine wv rfl (p_t rfl hg144 rfl) ?_
      obtain rfl := Option.some.inj hx
      exact mid_nil () ⟨rfl, rfl, rfl, rfl, trivial⟩ hM
    · replace hx := xif_f hg144 hx
      refine gs rfl (isB_no hg144) rfl ?_
      refine gs rfl (isB_no hg144) rfl ?_
      refine gs rfl (isB_no hg144) rfl ?_
      refine gs rfl (isB_no hg144) rfl ?_
      refine gs rfl (isB_no hg144) rfl ?_
      refine wv rfl (p_f rfl hg144 rfl) ?_
      obtain rfl := Option.some.inj hx
      exact mid_nil () ⟨rfl, rfl, rfl, rfl, trivial⟩ hM
  rintro _ w156 hM
  replace hx := hx150
  refine wl_nil ?_
  refine sq_n ?_
  refine wc_cond rfl (fun hc157 => ?_) (fun hc157 => ?_)
  · replace hx := xif_t hc157 hx
    refine wc_skip ?_
    refine sq_n ?_
    refine wc_seq ?_
    refine wc_block ?_
    refine wc_region ?_
    refine wv rfl (r_move rfl) ?_
    refine wv rfl (r_move rfl) ?_
    obtain ⟨r160, h161, hx⟩ := bind_some' hx
    refine w_call rfl rfl (hM.callR (l := [oBox b_r_ #[s132.v, (.int .i64 n128), (.bool b129)] 38]) fun X S oL hS hR => ct_spec_l21Get _ X S b_r_ (⟨l127, n128, b129⟩ : DL21Rd) s132 hS (hR _ (.head _)) oL h161) ?_
    rintro _ w162 ⟨s163, rfl, hM⟩
    replace hM : St ⟨w, X, S⟩ [oBox b_r_ #[s163.v, (.int .i64 r160.2.at_), (.bool r160.2.bad)] 38, oC (cSl 1 fI out126) s131.v] [rV s163.v (cSl 1 fY r160.2.b), rV s132.v (cSl 1 fY l127)] _ := hM
    replace hM := hM.p1
    obtain ⟨hg167, hx⟩ := xg_some hx
    refine w_push (f := fI) r160.1 rfl rfl Try.underlying23 sz3 rfl rfl rfl rfl (fun _ => rfl) hM (fun _ => zP (pV _ rfl) zN) rfl hg167 rfl ?_; intro u165 s166 w164 hM
    refine wv rfl (r_assign rfl) ?_
    refine wl_nil ?_
    refine bk_n ?_
    refine sq_n ?_
    refine wc_region ?_
    refine wv rfl (r_move rfl) ?_
    obtain ⟨hg171, hx⟩ := xg_some hx
    refine wv rfl (r_sub rfl rfl hg171) ?_
    refine wv rfl (r_assign rfl) ?_
    refine wl_nil ?_
    obtain rfl := Option.some.inj hx
    replace hM := hM.p1
    have hM := hM.fewer (rsC (.head _) rsN)
    replace hM : St ⟨w, X, S⟩ [oBox b_r_ #[s163.v, (.int .i64 r160.2.at_), (.bool r160.2.bad)] 38, oC (cSl 1 fI (out126 ++ [r160.1])) s166.v] [rV s163.v (cSl 1 fY r160.2.b)] _ := hM
    exact lp_end (m137, n125 - 1, out126 ++ [r160.1], r160.2.b, r160.2.at_, r160.2.bad, s166, s163) (Nat.lt_succ_self _) ⟨rfl, rfl, rfl, trivial⟩ ⟨hM, hx139⟩
  · replace hx := xif_f hc157 hx
    refine wc_exit ?_
    refine sq_exit ?_
    refine lp1_exit ?_
    obtain rfl := Option.some.inj hx
    obtain rfl := Option.some.inj hx139
    replace hx := hx124
    try dsimp only [Sum.elim_inl, Sum.elim_inr] at hx
    refine bk_here ?_
    refine sq_n ?_
    refine wc_seq ?_
    refine wc_region ?_
    refine wv rfl (r_move rfl) ?_
    refine wv rfl (r_assign rfl) ?_
    refine wl_nil ?_
    refine sq_n ?_
    refine wc_ret ?_
    obtain rfl := Option.some.inj hx
    refine fin_ret [s131.v] ⟨rfl, trivial⟩ ?_
    replace hM := hM.p1
    replace hM := hM.t2
    have hM := hM.fewer (rsC (.head _) rsN)
    exact ⟨(s131, s132), rfl, hM.gives⟩

noncomputable def x_spec_l21Op_b0 (o111 : List DPart) (n112 : Int) (l113 : List UInt8) (n114 : Int) (b115 : Bool) : Option (Lr (List DPart × Int × List UInt8 × Int × Bool) (List DPart × List UInt8 × Int × Bool)) :=
  Option.bind (bif decide ((0 : Int) < n112) then (some (!b115)) else (some false)) fun c215 => bif c215 then (Option.bind (x_spec_l21Get (⟨l113, n114, b115⟩ : DL21Rd)) fun r228 => xg (0 ≤ r228.1 ∧ 0 < (4 : Int)) <| xg (0 ≤ r228.1 ∧ r228.1 ≤ 9223372036854775807 ∧ 0 < (4 : Int)) <| bif decide ((200 : Int) < (r228.1 / 4)) then (xg (o111.length < 1099511627776) <| xg (inI (n112 - 1)) <| some (Lr.go (o111 ++ [(⟨r228.1 % 4, r228.1 / 4, []⟩ : DPart)], n112 - 1, r228.2.b, r228.2.at_, true))) else (bif decide ((r228.1 % 4) = 2) then (Option.bind (x_spec_l21Signs r228.2 (r228.1 / 4)) fun r271 => xg (o111.length < 1099511627776) <| xg (inI (n112 - 1)) <| some (Lr.go (o111 ++ [(⟨r228.1 % 4, 0, r271.1⟩ : DPart)], n112 - 1, r271.2.b, r271.2.at_, r271.2.bad))) else (xg (o111.length < 1099511627776) <| xg (inI (n112 - 1)) <| some (Lr.go (o111 ++ [(⟨r228.1 % 4, r228.1 / 4, []⟩ : DPart)], n112 - 1, r228.2.b, r228.2.at_, r228.2.bad))))) else (some (Lr.out (o111, l113, n114, b115)))
noncomputable def x_spec_l21Op_f0 (s305 : List DPart × Int × List UInt8 × Int × Bool) : Option (Lr (List DPart × Int × List UInt8 × Int × Bool) (List DPart × List UInt8 × Int × Bool)) := x_spec_l21Op_b0 s305.1 s305.2.1 s305.2.2.1 s305.2.2.2.1 s305.2.2.2.2
noncomputable def x_spec_l21Op (r_ : DL21Rd) : Option (List DPart × DL21Rd) :=
  Option.bind (x_spec_l21Count r_ 600) fun r9 => Option.bind (iter (x_spec_l21Op_f0) ([], r9.1, r9.2.b, r9.2.at_, r9.2.bad)) fun (y306 : List DPart × List UInt8 × Int × Bool) => some (y306.1, (⟨y306.2.1, y306.2.2.1, y306.2.2.2⟩ : DL21Rd))
theorem ct_spec_l21Op (w : World) (X S : Bs) (b_r_ : Nat) (r_ : DL21Rd) (s_r__0 : Sv) (hS : ∀ b, S b → b < w.heap.size ∧ ¬ X b) (a_r__0 : (cSl 1 fY r_.b).rd S w s_r__0.v) (oL : Sep [oBox b_r_ #[s_r__0.v, (.int .i64 r_.at_), (.bool r_.bad)] 38] X w) {r : List DPart × DL21Rd} (hx : x_spec_l21Op r_ = some r) :
    Ret Try.prog 15 [(.pointer (some ⟨b_r_, 0, none⟩))] w (fun u w' => ∃ y : Sv × Sv, u = y.1.v ∧ Gives X S w [oC (cSl 3 fDPart r.1) y.1.v, oBox b_r_ #[y.2.v, (.int .i64 r.2.at_), (.bool r.2.bad)] 38] [rV y.2.v (cSl 1 fY r.2.b)] w') := by
  unfold x_spec_l21Op at hx
  refine enter Try.func15 rfl Try.ntmps15 (by kernel_rfl) rfl ?_
  have hM := St.enter oL hS
  have hM := hM.addE (r := rV s_r__0.v (cSl 1 fY r_.b)) a_r__0
  refine wc_seq ?_
  refine wc_region ?_
  refine wv rfl (r_assign rfl) ?_
  refine wl_nil ?_
  refine sq_n ?_
  refine wc_seq ?_
  refine wc_region ?_
  refine w_ex rfl (x_empty (f := fDPart) Try.underlying42 sz65 (fun _ => rfl) hM ?_); intro s314 w313 hR315 hM
  refine wv rfl (r_assign rfl) ?_
  refine wl_nil ?_
  refine sq_n ?_
  refine wc_seq ?_
  refine wc_seq ?_
  refine wc_region ?_
  refine wv rfl (r_move rfl) ?_
  replace hM := hM.p1
  obtain ⟨r319, h320, hx⟩ := bind_some' hx
  refine w_call rfl rfl (hM.callR (l := [oBox b_r_ #[s_r__0.v, (.int .i64 r_.at_), (.bool r_.bad)] 38]) fun X S oL hS hR => ct_spec_l21Count _ X S b_r_ r_ s_r__0 (600 : Int) hS (hR _ (.head _)) oL h320) ?_
  rintro _ w321 ⟨s322, rfl, hM⟩
  replace hM : St ⟨w, X, S⟩ [oBox b_r_ #[s322.v, (.int .i64 r319.2.at_), (.bool r319.2.bad)] 38, oC (cSl 3 fDPart ([] : List DPart)) s314.v] [rV s322.v (cSl 1 fY r319.2.b), rV s_r__0.v (cSl 1 fY r_.b)] _ := hM
  refine wv rfl (r_assign rfl) ?_
  refine wl_nil ?_
  refine sq_n ?_
  refine wc_block ?_
  obtain ⟨y324, hx, hx325⟩ := bind_some' hx
  have hM := hM.fewer (rsC (.head _) rsN)
  replace hM : St ⟨w, X, S⟩ [oBox b_r_ #[s322.v, (.int .i64 r319.2.at_), (.bool r319.2.bad)] 38, oC (cSl 3 fDPart ([] : List DPart)) s314.v] [rV s322.v (cSl 1 fY r319.2.b)] _ := hM
  obtain ⟨m336, hx⟩ := iter_run hx
  refine wc_loop (un fun (m334 : Nat) => un fun (o326 : List DPart) => un fun (n327 : Int) => un fun (l328 : List UInt8) => un fun (n329 : Int) => un fun (b330 : Bool) => un fun (s332 : Sv) => fun (s333 : Sv) => [(0, (.pointer (some ⟨b_r_, 0, none⟩))), (3, s332.v), (4, (.int .i64 n327))]) (un fun (m334 : Nat) => un fun (o326 : List DPart) => un fun (n327 : Int) => un fun (l328 : List UInt8) => un fun (n329 : Int) => un fun (b330 : Bool) => un fun (s332 : Sv) => fun (s333 : Sv) w' => St ⟨w, X, S⟩ [oBox b_r_ #[s333.v, (.int .i64 n329), (.bool b330)] 38, oC (cSl 3 fDPart o326) s332.v] [rV s333.v (cSl 1 fY l328)] w' ∧ iterN _ m334 (o326, n327, l328, n329, b330) = some y324) (fun p => p.1) (m336, [], r319.1, r319.2.b, r319.2.at_, r319.2.bad, s314, s322) ⟨rfl, rfl, rfl, trivial⟩ ⟨hM, hx⟩ ?_
  rintro ⟨m334, o326, n327, l328, n329, b330, s332, s333⟩ w337 ⟨hM, hx⟩
  obtain ⟨m338, z339, rfl, hx, hx340⟩ := iterN_step hx
  unfold x_spec_l21Op_f0 x_spec_l21Op_b0 at hx
  try dsimp only at hx
  refine wc_seq ?_
  refine wc_seq ?_
  refine wc_region ?_
  refine wv rfl (r_move rfl) ?_
  refine wv rfl (r_gtr rfl rfl) ?_
  refine wv rfl (r_move rfl) ?_
  obtain ⟨c344, hx, hx351⟩ := bind_some' hx
  refine wl_mid 6 (fun _ : Unit => [(18, (.bool c344)), (0, (.pointer (some ⟨b_r_, 0, none⟩))), (3, s332.v), (4, (.int .i64 n327))]) (fun _ w' => St ⟨w, X, S⟩ [oBox b_r_ #[s333.v, (.int .i64 n329), (.bool b330)] 38, oC (cSl 3 fDPart o326) s332.v] [rV s333.v (cSl 1 fY l328)] w') ?_ ?_
  · rcases Bool.eq_false_or_eq_true (decide ((0 : Int) < n327)) with hg345 | hg345
    · replace hx := xif_t hg345 hx
      refine gv rfl hg345 rfl (r_move rfl) ?_
      refine gv rfl hg345 rfl (r_nilck rfl) ?_
      refine gv rfl hg345 rfl (r_fld Try.underlying38 rfl rfl sz4 rfl) ?_
      refine gv rfl hg345 rfl (r_ldB Try.underlying4 rfl rfl hM (.head _) rfl) ?_
      refine gv rfl hg345 rfl (r_not rfl) ?_
      refine wv rfl (p_t rfl hg345 rfl) ?_
      obtain rfl := Option.some.inj hx
      exact mid_nil () ⟨rfl, rfl, rfl, rfl, trivial⟩ hM
    · replace hx := xif_f hg345 hx
      refine gs rfl (isB_no hg345) rfl ?_
      refine gs rfl (isB_no hg345) rfl ?_
      refine gs rfl (isB_no hg345) rfl ?_
      refine gs rfl (isB_no hg345) rfl ?_
      refine gs rfl (isB_no hg345) rfl ?_
      refine wv rfl (p_f rfl hg345 rfl) ?_
      obtain rfl := Option.some.inj hx
      exact mid_nil () ⟨rfl, rfl, rfl, rfl, trivial⟩ hM
  rintro _ w357 hM
  replace hx := hx351
  refine wl_nil ?_
  refine sq_n ?_
  refine wc_cond rfl (fun hc358 => ?_) (fun hc358 => ?_)
  · replace hx := xif_t hc358 hx
    refine wc_skip ?_
    refine sq_n ?_
    refine wc_seq ?_
    refine wc_block ?_
    refine wc_seq ?_
    refine wc_region ?_
    refine wv rfl (r_move rfl) ?_
    obtain ⟨r360, h361, hx⟩ := bind_some' hx
    refine w_call rfl rfl (hM.callR (l := [oBox b_r_ #[s333.v, (.int .i64 n329), (.bool b330)] 38]) fun X S oL hS hR => ct_spec_l21Get _ X S b_r_ (⟨l328, n329, b330⟩ : DL21Rd) s333 hS (hR _ (.head _)) oL h361) ?_
    rintro _ w362 ⟨s363, rfl, hM⟩
    replace hM : St ⟨w, X, S⟩ [oBox b_r_ #[s363.v, (.int .i64 r360.2.at_), (.bool r360.2.bad)] 38, oC (cSl 3 fDPart o326) s332.v] [rV s363.v (cSl 1 fY r360.2.b), rV s333.v (cSl 1 fY l328)] _ := hM
    refine wv rfl (r_assign rfl) ?_
    refine wl_nil ?_
    refine sq_n ?_
    refine wc_seq ?_
    refine wc_region ?_
    refine wv rfl (r_move rfl) ?_
    obtain ⟨hg367, hx⟩ := xg_some hx
    refine wv rfl (r_rem rfl rfl hg367) ?_
    refine wv rfl (r_move rfl) ?_
    obtain ⟨hg370, hx⟩ := xg_some hx
    refine wv rfl (r_quo rfl rfl hg370) ?_
    refine wv rfl (r_build (cells := #[(.int .i64 (r360.1 % 4)), (.int .i64 (r360.1 / 4)), (.slice none 0 0)]) rfl (by kernel_rfl)) ?_
    refine w_ex rfl (x_alloc sz65 hM ?_); intro b373 w372 hR374 hM
    replace hM : St ⟨w, X, S⟩ [oBox b373 #[(.int .i64 0), (.int .i64 0), (.slice none 0 0)] 65, oBox b_r_ #[s363.v, (.int .i64 r360.2.at_), (.bool r360.2.bad)] 38, oC (cSl 3 fDPart o326) s332.v] [rV s363.v (cSl 1 fY r360.2.b), rV s333.v (cSl 1 fY l328)] _ := hM
    refine w_exu (x_stB #[(.int .i64 (r360.1 % 4)), (.int .i64 (r360.1 / 4)), (.slice none 0 0)] sz65 rfl rfl rfl rfl rfl rfl hM ?_); intro w376 hM
    refine wl_nil ?_
    refine sq_n ?_
    refine wc_seq ?_
    refine wc_seq ?_
    refine wc_region ?_
    refine wv rfl (r_fld Try.underlying65 rfl rfl sz3 rfl) ?_
    refine wv rfl (r_ldB Try.underlying3 rfl rfl hM (.head _) rfl) ?_
    refine wv rfl (r_gtr rfl rfl) ?_
    refine wl_nil ?_
    refine sq_n ?_
    refine wc_cond rfl (fun hc381 => ?_) (fun hc381 => ?_)
    · replace hx := xif_t hc381 hx
      refine wc_region ?_
      refine wv rfl (r_move rfl) ?_
      refine wv rfl (r_nilck rfl) ?_
      refine wv rfl (r_fld Try.underlying38 rfl rfl sz4 rfl) ?_
      replace hM := hM.p1
      refine w_exu (x_stB #[s363.v, (.int .i64 r360.2.at_), (.bool true)] sz4 rfl rfl rfl rfl rfl rfl hM ?_); intro w385 hM
      refine wl_nil ?_
      refine sq_n ?_
      refine wc_region ?_
      refine wv rfl (r_move rfl) ?_
      refine wv rfl (r_ldBS Try.underlying65 sz65 rfl (us := [(.int .i64 (r360.1 % 4)), (.int .i64 (r360.1 / 4)), (.slice none 0 0)]) rfl hM (.tail _ (.head _)) rfl) ?_
      replace hM := hM.p2
      obtain ⟨hg392, hx⟩ := xg_some hx
      refine w_push (f := fDPart) (⟨r360.1 % 4, r360.1 / 4, []⟩ : DPart) rfl rfl Try.underlying42 sz65 rfl rfl rfl rfl (fun _ => rfl) hM (fun _ => zP (pV _ rfl) (zP (pV _ rfl) (zP (pN _ _) zN))) rfl hg392 rfl ?_; intro u390 s391 w389 hM
      refine wv rfl (r_assign rfl) ?_
      refine wl_nil ?_
      refine bk_n ?_
      refine sq_n ?_
      refine wc_region ?_
      refine wv rfl (r_move rfl) ?_
      obtain ⟨hg396, hx⟩ := xg_some hx
      refine wv rfl (r_sub rfl rfl hg396) ?_
      refine wv rfl (r_assign rfl) ?_
      refine wl_nil ?_
      obtain rfl := Option.some.inj hx
      replace hM := hM.p1
      replace hM := hM.t2
      have hM := hM.fewer (rsC (.head _) rsN)
      replace hM : St ⟨w, X, S⟩ [oBox b_r_ #[s363.v, (.int .i64 r360.2.at_), (.bool true)] 38, oC (cSl 3 fDPart (o326 ++ [(⟨r360.1 % 4, r360.1 / 4, []⟩ : DPart)])) s391.v] [rV s363.v (cSl 1 fY r360.2.b)] _ := hM
      exact lp_end (m338, o326 ++ [(⟨r360.1 % 4, r360.1 / 4, []⟩ : DPart)], n327 - 1, r360.2.b, r360.2.at_, true, s391, s363) (Nat.lt_succ_self _) ⟨rfl, rfl, rfl, trivial⟩ ⟨hM, hx340⟩
    · replace hx := xif_f hc381 hx
      refine wc_seq ?_
      refine wc_region ?_
      refine wv rfl (r_fld Try.underlying65 rfl rfl sz3 rfl) ?_
      refine wv rfl (r_ldB Try.underlying3 rfl rfl hM (.head _) rfl) ?_
      refine wv rfl (r_eql rfl rfl) ?_
      refine wl_nil ?_
      refine sq_n ?_
      refine wc_cond rfl (fun hc401 => ?_) (fun hc401 => ?_)
      · replace hx := xif_t hc401 hx
        refine wc_seq ?_
        refine wc_region ?_
        refine wv rfl (r_move rfl) ?_
        refine wv rfl (r_fld Try.underlying65 rfl rfl sz3 rfl) ?_
        refine wv rfl (r_ldB Try.underlying3 rfl rfl hM (.head _) rfl) ?_
        replace hM := hM.p1
        obtain ⟨r405, h406, hx⟩ := bind_some' hx
        refine w_call rfl rfl (hM.callR (l := [oBox b_r_ #[s363.v, (.int .i64 r360.2.at_), (.bool r360.2.bad)] 38]) fun X S oL hS hR => ct_spec_l21Signs _ X S b_r_ r360.2 s363 (r360.1 / 4) hS (hR _ (.head _)) oL h406) ?_
        rintro _ w407 ⟨⟨s408, s409⟩, rfl, hM⟩
        replace hM : St ⟨w, X, S⟩ [oC (cSl 1 fI r405.1) s408.v, oBox b_r_ #[s409.v, (.int .i64 r405.2.at_), (.bool r405.2.bad)] 38, oBox b373 #[(.int .i64 (r360.1 % 4)), (.int .i64 (r360.1 / 4)), (.slice none 0 0)] 65, oC (cSl 3 fDPart o326) s332.v] [rV s409.v (cSl 1 fY r405.2.b), rV s363.v (cSl 1 fY r360.2.b), rV s333.v (cSl 1 fY l328)] _ := hM
        refine wv rfl (r_fld Try.underlying65 rfl rfl sz23 rfl) ?_
        replace hM := hM.p2
        refine w_exu (x_stB #[(.int .i64 (r360.1 % 4)), (.int .i64 (r360.1 / 4)), s408.v] sz23 rfl rfl rfl rfl rfl rfl hM ?_); intro w412 hM
        refine wl_nil ?_
        refine sq_n ?_
        refine wc_region ?_
        refine wv rfl (r_fld Try.underlying65 rfl rfl sz3 rfl) ?_
        refine w_exu (x_stB #[(.int .i64 (r360.1 % 4)), (.int .i64 0), s408.v] sz3 rfl rfl rfl rfl rfl rfl hM ?_); intro w415 hM
        refine wl_nil ?_
        refine sq_n ?_
        refine wc_region ?_
        refine wv rfl (r_move rfl) ?_
        refine wv rfl (r_ldBS Try.underlying65 sz65 rfl (us := [(.int .i64 (r360.1 % 4)), (.int .i64 0), s408.v]) rfl hM (.head _) rfl) ?_
        replace hM := hM.p1.p3
        obtain ⟨hg422, hx⟩ := xg_some hx
        refine w_push (f := fDPart) (⟨r360.1 % 4, 0, r405.1⟩ : DPart) rfl rfl Try.underlying42 sz65 rfl rfl rfl rfl (fun _ => rfl) hM (fun _ => zP (pV _ rfl) (zP (pV _ rfl) (zO zN))) rfl hg422 rfl ?_; intro u420 s421 w419 hM
        refine wv rfl (r_assign rfl) ?_
        refine wl_nil ?_
        refine bk_n ?_
        refine sq_n ?_
        refine wc_region ?_
        refine wv rfl (r_move rfl) ?_
        obtain ⟨hg426, hx⟩ := xg_some hx
        refine wv rfl (r_sub rfl rfl hg426) ?_
        refine wv rfl (r_assign rfl) ?_
        refine wl_nil ?_
        obtain rfl := Option.some.inj hx
        replace hM := hM.p2
        replace hM := hM.t2
        have hM := hM.fewer (rsC (.head _) rsN)
        replace hM : St ⟨w, X, S⟩ [oBox b_r_ #[s409.v, (.int .i64 r405.2.at_), (.bool r405.2.bad)] 38, oC (cSl 3 fDPart (o326 ++ [(⟨r360.1 % 4, 0, r405.1⟩ : DPart)])) s421.v] [rV s409.v (cSl 1 fY r405.2.b)] _ := hM
        exact lp_end (m338, o326 ++ [(⟨r360.1 % 4, 0, r405.1⟩ : DPart)], n327 - 1, r405.2.b, r405.2.at_, r405.2.bad, s421, s409) (Nat.lt_succ_self _) ⟨rfl, rfl, rfl, trivial⟩ ⟨hM, hx340⟩
      · replace hx := xif_f hc401 hx
        refine wc_skip ?_
        refine sq_n ?_
        refine wc_region ?_
        refine wv rfl (r_move rfl) ?_
        refine wv rfl (r_ldBS Try.underlying65 sz65 rfl (us := [(.int .i64 (r360.1 % 4)), (.int .i64 (r360.1 / 4)), (.slice none 0 0)]) rfl hM (.head _) rfl) ?_
        replace hM := hM.p2
        obtain ⟨hg433, hx⟩ := xg_some hx
        refine w_push (f := fDPart) (⟨r360.1 % 4, r360.1 / 4, []⟩ : DPart) rfl rfl Try.underlying42 sz65 rfl rfl rfl rfl (fun _ => rfl) hM (fun _ => zP (pV _ rfl) (zP (pV _ rfl) (zP (pN _ _) zN))) rfl hg433 rfl ?_; intro u431 s432 w430 hM
        refine wv rfl (r_assign rfl) ?_
        refine wl_nil ?_
        refine bk_n ?_
        refine sq_n ?_
        refine wc_region ?_
        refine wv rfl (r_move rfl) ?_
        obtain ⟨hg437, hx⟩ := xg_some hx
        refine wv rfl (r_sub rfl rfl hg437) ?_
        refine wv rfl (r_assign rfl) ?_
        refine wl_nil ?_
        obtain rfl := Option.some.inj hx
        replace hM := hM.p2
        replace hM := hM.t2
        have hM := hM.fewer (rsC (.head _) rsN)
        replace hM : St ⟨w, X, S⟩ [oBox b_r_ #[s363.v, (.int .i64 r360.2.at_), (.bool r360.2.bad)] 38, oC (cSl 3 fDPart (o326 ++ [(⟨r360.1 % 4, r360.1 / 4, []⟩ : DPart)])) s432.v] [rV s363.v (cSl 1 fY r360.2.b)] _ := hM
        exact lp_end (m338, o326 ++ [(⟨r360.1 % 4, r360.1 / 4, []⟩ : DPart)], n327 - 1, r360.2.b, r360.2.at_, r360.2.bad, s432, s363) (Nat.lt_succ_self _) ⟨rfl, rfl, rfl, trivial⟩ ⟨hM, hx340⟩
  · replace hx := xif_f hc358 hx
    refine wc_exit ?_
    refine sq_exit ?_
    refine lp1_exit ?_
    obtain rfl := Option.some.inj hx
    obtain rfl := Option.some.inj hx340
    replace hx := hx325
    try dsimp only [Sum.elim_inl, Sum.elim_inr] at hx
    refine bk_here ?_
    refine sq_n ?_
    refine wc_seq ?_
    refine wc_region ?_
    refine wv rfl (r_move rfl) ?_
    refine wv rfl (r_assign rfl) ?_
    refine wl_nil ?_
    refine sq_n ?_
    refine wc_ret ?_
    obtain rfl := Option.some.inj hx
    refine fin_ret [s332.v] ⟨rfl, trivial⟩ ?_
    replace hM := hM.p1
    replace hM := hM.t2
    have hM := hM.fewer (rsC (.head _) rsN)
    exact ⟨(s332, s333), rfl, hM.gives⟩

noncomputable def x_spec_BytesDoc_b0 (_b : List UInt8) (n108 : Int) (l109 : List UInt8) (n110 : Int) (b111 : Bool) (l112 : List DEntry) : Option (Lr (Int × List UInt8 × Int × Bool × List DEntry) (List UInt8 × Int × Bool × List DEntry)) :=
  Option.bind (bif decide ((0 : Int) < n108) then (some (!b111)) else (some false)) fun c178 => bif c178 then (Option.bind (x_spec_l21Get (⟨l109, n110, b111⟩ : DL21Rd)) fun r191 => Option.bind (x_spec_l21Get r191.2) fun r203 => Option.bind (x_spec_l21Op r203.2) fun r211 => xg (l112.length < 1099511627776) <| xg (inI (n108 - 1)) <| some (Lr.go (n108 - 1, r211.2.b, r211.2.at_, r211.2.bad, l112 ++ [(⟨r191.1, r203.1, r211.1⟩ : DEntry)]))) else (some (Lr.out (l109, n110, b111, l112)))
noncomputable def x_spec_BytesDoc_f0 (b : List UInt8) (s234 : Int × List UInt8 × Int × Bool × List DEntry) : Option (Lr (Int × List UInt8 × Int × Bool × List DEntry) (List UInt8 × Int × Bool × List DEntry)) := x_spec_BytesDoc_b0 b s234.1 s234.2.1 s234.2.2.1 s234.2.2.2.1 s234.2.2.2.2
noncomputable def x_spec_BytesDoc_b1 (_b : List UInt8) (n304 : Int) (l305 : List UInt8) (n306 : Int) (b307 : Bool) (l308 : List DSeen) : Option (Lr (Int × List UInt8 × Int × Bool × List DSeen) (List UInt8 × Int × Bool × List DSeen)) :=
  Option.bind (bif decide ((0 : Int) < n304) then (some (!b307)) else (some false)) fun c372 => bif c372 then (Option.bind (x_spec_l21Get (⟨l305, n306, b307⟩ : DL21Rd)) fun r385 => Option.bind (x_spec_l21Get r385.2) fun r397 => Option.bind (x_spec_l21Get r397.2) fun r405 => xg (l308.length < 1099511627776) <| xg (inI (n304 - 1)) <| some (Lr.go (n304 - 1, r405.2.b, r405.2.at_, r405.2.bad, l308 ++ [(⟨r385.1, r397.1, r405.1⟩ : DSeen)]))) else (some (Lr.out (l305, n306, b307, l308)))
noncomputable def x_spec_BytesDoc_f1 (b : List UInt8) (s426 : Int × List UInt8 × Int × Bool × List DSeen) : Option (Lr (Int × List UInt8 × Int × Bool × List DSeen) (List UInt8 × Int × Bool × List DSeen)) := x_spec_BytesDoc_b1 b s426.1 s426.2.1 s426.2.2.1 s426.2.2.2.1 s426.2.2.2.2
noncomputable def x_spec_BytesDoc (name : ByteArray) (b : List UInt8) : Option (DDoc × Bool) :=
  Option.bind (x_spec_l21Get (⟨b, 0, false⟩ : DL21Rd)) fun r15 => Option.bind (x_spec_l21Count r15.2 200) fun r28 => Option.bind (x_spec_l21Signs r28.2 r28.1) fun r32 => Option.bind (x_spec_l21Count r32.2 8) fun r42 => Option.bind (iter (x_spec_BytesDoc_f0 b) (r42.1, r42.2.b, r42.2.at_, r42.2.bad, [])) fun (y235 : List UInt8 × Int × Bool × List DEntry) => Option.bind (x_spec_l21Count (⟨y235.1, y235.2.1, y235.2.2.1⟩ : DL21Rd) 8) fun r240 => Option.bind (iter (x_spec_BytesDoc_f1 b) (r240.1, r240.2.b, r240.2.at_, r240.2.bad, [])) fun (y427 : List UInt8 × Int × Bool × List DSeen) => Option.bind (x_spec_DocBytes (⟨name, r15.1, r32.1, y235.2.2.2, y427.2.2.2⟩ : DDoc)) fun r432 => Option.bind (bif y427.2.2.1 then (some true) else (some (!r432.2))) fun c447 => Option.bind (bif c447 then (some true) else (some (!decide ((⟨r432.1.toArray⟩ : ByteArray) = (⟨b.toArray⟩ : ByteArray))))) fun c454 => bif c454 then (some ((⟨ByteArray.empty, 0, [], [], []⟩ : DDoc), false)) else (some ((⟨name, r15.1, r32.1, y235.2.2.2, y427.2.2.2⟩ : DDoc), true))
theorem ct_spec_BytesDoc (w : World) (X S : Bs) (name : ByteArray) (b : List UInt8) (s_b : Sv) (hS : ∀ b, S b → b < w.heap.size ∧ ¬ X b) (a_b_0 : (cSl 1 fY b).rd S w s_b.v) (oL : Sep [] X w) {r : DDoc × Bool} (hx : x_spec_BytesDoc name b = some r) :
    Ret Try.prog 4 [(.string name), s_b.v] w (fun u w' => ∃ y : Sv × Sv × Sv, u = .tuple #[.agg #[(.string r.1.name), (.int .i64 r.1.from_), y.1.v, y.2.1.v, y.2.2.v], (.bool r.2)] ∧ Gives X S w [oC (cSl 1 fI r.1.text) y.1.v, oC (cSl 3 fDEntry r.1.list) y.2.1.v, oC (cSl 3 fDSeen r.1.seen) y.2.2.v] [] w') := by
  unfold x_spec_BytesDoc at hx
  refine enter Try.func4 rfl Try.ntmps4 (by kernel_rfl) rfl ?_
  have hM := St.enter oL hS
  have hM := hM.addE (r := rV s_b.v (cSl 1 fY b)) a_b_0
  refine wc_seq ?_
  refine wc_region ?_
  refine w_ex rfl (x_alloc sz27 hM ?_); intro b475 w474 hR476 hM
  replace hM : St ⟨w, X, S⟩ [oBox b475 #[(.string ByteArray.empty), (.int .i64 0), (.slice none 0 0), (.slice none 0 0), (.slice none 0 0)] 27] [rV s_b.v (cSl 1 fY b)] _ := hM
  refine wv rfl (r_assign rfl) ?_
  refine wl_nil ?_
  refine sq_n ?_
  refine wc_seq ?_
  refine wc_region ?_
  refine wv rfl (r_move rfl) ?_
  refine wv rfl (r_build (cells := #[s_b.v, (.int .i64 0), (.bool false)]) rfl (by kernel_rfl)) ?_
  refine w_ex rfl (x_box rfl hM ?_); intro b482 w481 hR483 hM
  replace hM : St ⟨w, X, S⟩ [oBox b482 #[s_b.v, (.int .i64 0), (.bool false)] 38, oBox b475 #[(.string ByteArray.empty), (.int .i64 0), (.slice none 0 0), (.slice none 0 0), (.slice none 0 0)] 27] [rV s_b.v (cSl 1 fY b)] _ := hM
  refine wv rfl (r_assign rfl) ?_
  refine wl_nil ?_
  refine sq_n ?_
  refine wc_seq ?_
  refine wc_region ?_
  refine wv rfl (r_move rfl) ?_
  refine wv rfl (r_move rfl) ?_
  obtain ⟨r488, h489, hx⟩ := bind_some' hx
  refine w_call rfl rfl (hM.callR (l := [oBox b482 #[s_b.v, (.int .i64 0), (.bool false)] 38]) fun X S oL hS hR => ct_spec_l21Get _ X S b482 (⟨b, 0, false⟩ : DL21Rd) s_b hS (hR _ (.head _)) oL h489) ?_
  rintro _ w490 ⟨s491, rfl, hM⟩
  replace hM : St ⟨w, X, S⟩ [oBox b482 #[s491.v, (.int .i64 r488.2.at_), (.bool r488.2.bad)] 38, oBox b475 #[(.string ByteArray.empty), (.int .i64 0), (.slice none 0 0), (.slice none 0 0), (.slice none 0 0)] 27] [rV s491.v (cSl 1 fY r488.2.b), rV s_b.v (cSl 1 fY b)] _ := hM
  refine wv rfl (r_build (cells := #[(.string name), (.int .i64 r488.1), (.slice none 0 0), (.slice none 0 0), (.slice none 0 0)]) rfl (by kernel_rfl)) ?_
  refine w_ex rfl (x_alloc sz27 hM ?_); intro b494 w493 hR495 hM
  replace hM : St ⟨w, X, S⟩ [oBox b494 #[(.string ByteArray.empty), (.int .i64 0), (.slice none 0 0), (.slice none 0 0), (.slice none 0 0)] 27, oBox b482 #[s491.v, (.int .i64 r488.2.at_), (.bool r488.2.bad)] 38, oBox b475 #[(.string ByteArray.empty), (.int .i64 0), (.slice none 0 0), (.slice none 0 0), (.slice none 0 0)] 27] [rV s491.v (cSl 1 fY r488.2.b), rV s_b.v (cSl 1 fY b)] _ := hM
  refine w_exu (x_stB #[(.string name), (.int .i64 r488.1), (.slice none 0 0), (.slice none 0 0), (.slice none 0 0)] sz27 rfl rfl rfl rfl rfl rfl hM ?_); intro w497 hM
  refine wl_nil ?_
  refine sq_n ?_
  refine wc_seq ?_
  refine wc_region ?_
  refine wv rfl (r_move rfl) ?_
  refine wv rfl (r_move rfl) ?_
  replace hM := hM.p1
  obtain ⟨r501, h502, hx⟩ := bind_some' hx
  refine w_call rfl rfl (hM.callR (l := [oBox b482 #[s491.v, (.int .i64 r488.2.at_), (.bool r488.2.bad)] 38]) fun X S oL hS hR => ct_spec_l21Count _ X S b482 r488.2 s491 (200 : Int) hS (hR _ (.head _)) oL h502) ?_
  rintro _ w503 ⟨s504, rfl, hM⟩
  replace hM : St ⟨w, X, S⟩ [oBox b482 #[s504.v, (.int .i64 r501.2.at_), (.bool r501.2.bad)] 38, oBox b494 #[(.string name), (.int .i64 r488.1), (.slice none 0 0), (.slice none 0 0), (.slice none 0 0)] 27, oBox b475 #[(.string ByteArray.empty), (.int .i64 0), (.slice none 0 0), (.slice none 0 0), (.slice none 0 0)] 27] [rV s504.v (cSl 1 fY r501.2.b), rV s491.v (cSl 1 fY r488.2.b), rV s_b.v (cSl 1 fY b)] _ := hM
  obtain ⟨r505, h506, hx⟩ := bind_some' hx
  refine w_call rfl rfl (hM.callR (l := [oBox b482 #[s504.v, (.int .i64 r501.2.at_), (.bool r501.2.bad)] 38]) fun X S oL hS hR => ct_spec_l21Signs _ X S b482 r501.2 s504 r501.1 hS (hR _ (.head _)) oL h506) ?_
  rintro _ w507 ⟨⟨s508, s509⟩, rfl, hM⟩
  replace hM : St ⟨w, X, S⟩ [oC (cSl 1 fI r505.1) s508.v, oBox b482 #[s509.v, (.int .i64 r505.2.at_), (.bool r505.2.bad)] 38, oBox b494 #[(.string name), (.int .i64 r488.1), (.slice none 0 0), (.slice none 0 0), (.slice none 0 0)] 27, oBox b475 #[(.string ByteArray.empty), (.int .i64 0), (.slice none 0 0), (.slice none 0 0), (.slice none 0 0)] 27] [rV s509.v (cSl 1 fY r505.2.b), rV s504.v (cSl 1 fY r501.2.b), rV s491.v (cSl 1 fY r488.2.b), rV s_b.v (cSl 1 fY b)] _ := hM
  refine wv rfl (r_fld Try.underlying27 rfl rfl sz23 rfl) ?_
  replace hM := hM.p2
  refine w_exu (x_stB #[(.string name), (.int .i64 r488.1), s508.v, (.slice none 0 0), (.slice none 0 0)] sz23 rfl rfl rfl rfl rfl rfl hM ?_); intro w512 hM
  refine wl_nil ?_
  refine sq_n ?_
  refine wc_seq ?_
  refine wc_seq ?_
  refine wc_region ?_
  refine wv rfl (r_move rfl) ?_
  replace hM := hM.p2
  obtain ⟨r515, h516, hx⟩ := bind_some' hx
  refine w_call rfl rfl (hM.callR (l := [oBox b482 #[s509.v, (.int .i64 r505.2.at_), (.bool r505.2.bad)] 38]) fun X S oL hS hR => ct_spec_l21Count _ X S b482 r505.2 s509 (8 : Int) hS (hR _ (.head _)) oL h516) ?_
  rintro _ w517 ⟨s518, rfl, hM⟩
  replace hM : St ⟨w, X, S⟩ [oBox b482 #[s518.v, (.int .i64 r515.2.at_), (.bool r515.2.bad)] 38, oBox b494 #[(.string name), (.int .i64 r488.1), s508.v, (.slice none 0 0), (.slice none 0 0)] 27, oC (cSl 1 fI r505.1) s508.v, oBox b475 #[(.string ByteArray.empty), (.int .i64 0), (.slice none 0 0), (.slice none 0 0), (.slice none 0 0)] 27] [rV s518.v (cSl 1 fY r515.2.b), rV s509.v (cSl 1 fY r505.2.b), rV s504.v (cSl 1 fY r501.2.b), rV s491.v (cSl 1 fY r488.2.b), rV s_b.v (cSl 1 fY b)] _ := hM
  refine wv rfl (r_assign rfl) ?_
  refine wl_nil ?_
  refine sq_n ?_
  refine wc_block ?_
  obtain ⟨y520, hx, hx521⟩ := bind_some' hx
  have hM := hM.nil0 (T := DEntry) 3 fDEntry
  replace hM := hM.p3.p3.p3.p4
  have hM := hM.fewer (rsC (.head _) (rsC (.tail _ (.tail _ (.tail _ (.tail _ (.head _))))) rsN))
  replace hM : St ⟨w, X, S⟩ [oBox b475 #[(.string ByteArray.empty), (.int .i64 0), (.slice none 0 0), (.slice none 0 0), (.slice none 0 0)] 27, oBox b482 #[s518.v, (.int .i64 r515.2.at_), (.bool r515.2.bad)] 38, oBox b494 #[(.string name), (.int .i64 r488.1), s508.v, nS.v, (.slice none 0 0)] 27, oC (cSl 1 fI r505.1) s508.v, oC (cSl 3 fDEntry ([] : List DEntry)) nS.v] [rV s518.v (cSl 1 fY r515.2.b), rV s_b.v (cSl 1 fY b)] _ := hM
  obtain ⟨m533, hx⟩ := iter_run hx
  refine wc_loop (un fun (m531 : Nat) => un fun (n523 : Int) => un fun (l524 : List UInt8) => un fun (n525 : Int) => un fun (b526 : Bool) => un fun (l527 : List DEntry) => un fun (s528 : Sv) => fun (s530 : Sv) => [(1, s_b.v), (4, (.pointer (some ⟨b475, 0, none⟩))), (6, (.pointer (some ⟨b482, 0, none⟩))), (7, (.pointer (some ⟨b494, 0, none⟩))), (8, (.int .i64 n523))]) (un fun (m531 : Nat) => un fun (n523 : Int) => un fun (l524 : List UInt8) => un fun (n525 : Int) => un fun (b526 : Bool) => un fun (l527 : List DEntry) => un fun (s528 : Sv) => fun (s530 : Sv) w' => St ⟨w, X, S⟩ [oBox b475 #[(.string ByteArray.empty), (.int .i64 0), (.slice none 0 0), (.slice none 0 0), (.slice none 0 0)] 27, oBox b482 #[s528.v, (.int .i64 n525), (.bool b526)] 38, oBox b494 #[(.string name), (.int .i64 r488.1), s508.v, s530.v, (.slice none 0 0)] 27, oC (cSl 1 fI r505.1) s508.v, oC (cSl 3 fDEntry l527) s530.v] [rV s528.v (cSl 1 fY l524), rV s_b.v (cSl 1 fY b)] w' ∧ iterN _ m531 (n523, l524, n525, b526, l527) = some y520) (fun p => p.1) (m533, r515.1, r515.2.b, r515.2.at_, r515.2.bad, [], s518, nS) ⟨rfl, rfl, rfl, rfl, rfl, trivial⟩ ⟨hM, hx⟩ ?_
  rintro ⟨m531, n523, l524, n525, b526, l527, s528, s530⟩ w534 ⟨hM, hx⟩
  obtain ⟨m535, z536, rfl, hx, hx537⟩ := iterN_step hx
  unfold x_spec_BytesDoc_f0 x_spec_BytesDoc_b0 at hx
  try dsimp only at hx
  refine wc_seq ?_
  refine wc_seq ?_
  refine wc_region ?_
  refine wv rfl (r_move rfl) ?_
  refine wv rfl (r_gtr rfl rfl) ?_
  refine wv rfl (r_move rfl) ?_
  obtain ⟨c541, hx, hx548⟩ := bind_some' hx
  refine wl_mid 6 (fun _ : Unit => [(36, (.bool c541)), (1, s_b.v), (4, (.pointer (some ⟨b475, 0, none⟩))), (6, (.pointer (some ⟨b482, 0, none⟩))), (7, (.pointer (some ⟨b494, 0, none⟩))), (8, (.int .i64 n523))]) (fun _ w' => St ⟨w, X, S⟩ [oBox b475 #[(.string ByteArray.empty), (.int .i64 0), (.slice none 0 0), (.slice none 0 0), (.slice none 0 0)] 27, oBox b482 #[s528.v, (.int .i64 n525), (.bool b526)] 38, oBox b494 #[(.string name), (.int .i64 r488.1), s508.v, s530.v, (.slice none 0 0)] 27, oC (cSl 1 fI r505.1) s508.v, oC (cSl 3 fDEntry l527) s530.v] [rV s528.v (cSl 1 fY l524), rV s_b.v (cSl 1 fY b)] w') ?_ ?_
  · rcases Bool.eq_false_or_eq_true (decide ((0 : Int) < n523)) with hg542 | hg542
    · replace hx := xif_t hg542 hx
      refine gv rfl hg542 rfl (r_move rfl) ?_
      refine gv rfl hg542 rfl (r_nilck rfl) ?_
      refine gv rfl hg542 rfl (r_fld Try.underlying38 rfl rfl sz4 rfl) ?_
      refine gv rfl hg542 rfl (r_ldB Try.underlying4 rfl rfl hM (.tail _ (.head _)) rfl) ?_
      refine gv rfl hg542 rfl (r_not rfl) ?_
      refine wv rfl (p_t rfl hg542 rfl) ?_
      obtain rfl := Option.some.inj hx
      exact mid_nil () ⟨rfl, rfl, rfl, rfl, rfl, rfl, trivial⟩ hM
    · replace hx := xif_f hg542 hx
      refine gs rfl (isB_no hg542) rfl ?_
      refine gs rfl (isB_no hg542) rfl ?_
      refine gs rfl (isB_no hg542) rfl ?_
      refine gs rfl (isB_no hg542) rfl ?_
      refine gs rfl (isB_no hg542) rfl ?_
      refine wv rfl (p_f rfl hg542 rfl) ?_
      obtain rfl := Option.some.inj hx
      exact mid_nil () ⟨rfl, rfl, rfl, rfl, rfl, rfl, trivial⟩ hM
  rintro _ w554 hM
  replace hx := hx548
  refine wl_nil ?_
  refine sq_n ?_
  refine wc_cond rfl (fun hc555 => ?_) (fun hc555 => ?_)
  · replace hx := xif_t hc555 hx
    refine wc_skip ?_
    refine sq_n ?_
    refine wc_seq ?_
    refine wc_block ?_
    refine wc_seq ?_
    refine wc_region ?_
    refine wv rfl (r_move rfl) ?_
    replace hM := hM.p1
    obtain ⟨r557, h558, hx⟩ := bind_some' hx
    refine w_call rfl rfl (hM.callR (l := [oBox b482 #[s528.v, (.int .i64 n525), (.bool b526)] 38]) fun X S oL hS hR => ct_spec_l21Get _ X S b482 (⟨l524, n525, b526⟩ : DL21Rd) s528 hS (hR _ (.head _)) oL h558) ?_
    rintro _ w559 ⟨s560, rfl, hM⟩
    replace hM : St ⟨w, X, S⟩ [oBox b482 #[s560.v, (.int .i64 r557.2.at_), (.bool r557.2.bad)] 38, oBox b475 #[(.string ByteArray.empty), (.int .i64 0), (.slice none 0 0), (.slice none 0 0), (.slice none 0 0)] 27, oBox b494 #[(.string name), (.int .i64 r488.1), s508.v, s530.v, (.slice none 0 0)] 27, oC (cSl 1 fI r505.1) s508.v, oC (cSl 3 fDEntry l527) s530.v] [rV s560.v (cSl 1 fY r557.2.b), rV s528.v (cSl 1 fY l524), rV s_b.v (cSl 1 fY b)] _ := hM
    refine wv rfl (r_build (cells := #[(.int .i64 r557.1), (.int .i64 0), (.slice none 0 0)]) rfl (by kernel_rfl)) ?_
    refine w_ex rfl (x_alloc sz44 hM ?_); intro b563 w562 hR564 hM
    replace hM : St ⟨w, X, S⟩ [oBox b563 #[(.int .i64 0), (.int .i64 0), (.slice none 0 0)] 44, oBox b482 #[s560.v, (.int .i64 r557.2.at_), (.bool r557.2.bad)] 38, oBox b475 #[(.string ByteArray.empty), (.int .i64 0), (.slice none 0 0), (.slice none 0 0), (.slice none 0 0)] 27, oBox b494 #[(.string name), (.int .i64 r488.1), s508.v, s530.v, (.slice none 0 0)] 27, oC (cSl 1 fI r505.1) s508.v, oC (cSl 3 fDEntry l527) s530.v] [rV s560.v (cSl 1 fY r557.2.b), rV s528.v (cSl 1 fY l524), rV s_b.v (cSl 1 fY b)] _ := hM
    refine w_exu (x_stB #[(.int .i64 r557.1), (.int .i64 0), (.slice none 0 0)] sz44 rfl rfl rfl rfl rfl rfl hM ?_); intro w566 hM
    refine wl_nil ?_
    refine sq_n ?_
    refine wc_seq ?_
    refine wc_region ?_
    refine wv rfl (r_move rfl) ?_
    replace hM := hM.p1
    obtain ⟨r569, h570, hx⟩ := bind_some' hx
    refine w_call rfl rfl (hM.callR (l := [oBox b482 #[s560.v, (.int .i64 r557.2.at_), (.bool r557.2.bad)] 38]) fun X S oL hS hR => ct_spec_l21Get _ X S b482 r557.2 s560 hS (hR _ (.head _)) oL h570) ?_
    rintro _ w571 ⟨s572, rfl, hM⟩
    replace hM : St ⟨w, X, S⟩ [oBox b482 #[s572.v, (.int .i64 r569.2.at_), (.bool r569.2.bad)] 38, oBox b563 #[(.int .i64 r557.1), (.int .i64 0), (.slice none 0 0)] 44, oBox b475 #[(.string ByteArray.empty), (.int .i64 0), (.slice none 0 0), (.slice none 0 0), (.slice none 0 0)] 27, oBox b494 #[(.string name), (.int .i64 r488.1), s508.v, s530.v, (.slice none 0 0)] 27, oC (cSl 1 fI r505.1) s508.v, oC (cSl 3 fDEntry l527) s530.v] [rV s572.v (cSl 1 fY r569.2.b), rV s560.v (cSl 1 fY r557.2.b), rV s528.v (cSl 1 fY l524), rV s_b.v (cSl 1 fY b)] _ := hM
    refine wv rfl (r_fld Try.underlying44 rfl rfl sz3 rfl) ?_
    replace hM := hM.p1
    refine w_exu (x_stB #[(.int .i64 r557.1), (.int .i64 r569.1), (.slice none 0 0)] sz3 rfl rfl rfl rfl rfl rfl hM ?_); intro w574 hM
    refine wl_nil ?_
    refine sq_n ?_
    refine wc_seq ?_
    refine wc_region ?_
    refine wv rfl (r_move rfl) ?_
    replace hM := hM.p1
    obtain ⟨r577, h578, hx⟩ := bind_some' hx
    refine w_call rfl rfl (hM.callR (l := [oBox b482 #[s572.v, (.int .i64 r569.2.at_), (.bool r569.2.bad)] 38]) fun X S oL hS hR => ct_spec_l21Op _ X S b482 r569.2 s572 hS (hR _ (.head _)) oL h578) ?_
    rintro _ w579 ⟨⟨s580, s581⟩, rfl, hM⟩
    replace hM : St ⟨w, X, S⟩ [oC (cSl 3 fDPart r577.1) s580.v, oBox b482 #[s581.v, (.int .i64 r577.2.at_), (.bool r577.2.bad)] 38, oBox b563 #[(.int .i64 r557.1), (.int .i64 r569.1), (.slice none 0 0)] 44, oBox b475 #[(.string ByteArray.empty), (.int .i64 0), (.slice none 0 0), (.slice none 0 0), (.slice none 0 0)] 27, oBox b494 #[(.string name), (.int .i64 r488.1), s508.v, s530.v, (.slice none 0 0)] 27, oC (cSl 1 fI r505.1) s508.v, oC (cSl 3 fDEntry l527) s530.v] [rV s581.v (cSl 1 fY r577.2.b), rV s572.v (cSl 1 fY r569.2.b), rV s560.v (cSl 1 fY r557.2.b), rV s528.v (cSl 1 fY l524), rV s_b.v (cSl 1 fY b)] _ := hM
    refine wv rfl (r_fld Try.underlying44 rfl rfl sz42 rfl) ?_
    replace hM := hM.p2
    refine w_exu (x_stB #[(.int .i64 r557.1), (.int .i64 r569.1), s580.v] sz42 rfl rfl rfl rfl rfl rfl hM ?_); intro w584 hM
    refine wl_nil ?_
    refine sq_n ?_
    refine wc_region ?_
    refine wv rfl (r_fld Try.underlying27 rfl rfl sz24 rfl) ?_
    refine wv rfl (r_ldB Try.underlying24 rfl rfl hM (.tail _ (.tail _ (.tail _ (.tail _ (.head _))))) rfl) ?_
    refine wv rfl (r_ldBS Try.underlying44 sz44 rfl (us := [(.int .i64 r557.1), (.int .i64 r569.1), s580.v]) rfl hM (.head _) rfl) ?_
    replace hM := hM.p1.p6
    obtain ⟨hg592, hx⟩ := xg_some hx
    refine w_push (f := fDEntry) (⟨r557.1, r569.1, r577.1⟩ : DEntry) rfl rfl Try.underlying24 sz44 rfl rfl rfl rfl (fun _ => rfl) hM (fun _ => zP (pV _ rfl) (zP (pV _ rfl) (zO zN))) rfl hg592 rfl ?_; intro u590 s591 w589 hM
    refine wv rfl (r_fld Try.underlying27 rfl rfl sz24 rfl) ?_
    replace hM := hM.p4
    refine w_exu (x_stB #[(.string name), (.int .i64 r488.1), s508.v, s591.v, (.slice none 0 0)] sz24 rfl rfl rfl rfl rfl rfl hM ?_); intro w594 hM
    refine wl_nil ?_
    refine bk_n ?_
    refine sq_n ?_
    refine wc_region ?_
    refine wv rfl (r_move rfl) ?_
    obtain ⟨hg598, hx⟩ := xg_some hx
    refine wv rfl (r_sub rfl rfl hg598) ?_
    refine wv rfl (r_assign rfl) ?_
    refine wl_nil ?_
    obtain rfl := Option.some.inj hx
    replace hM := hM.p1.p5.p2.p4.p5
    replace hM := hM.t5
    have hM := hM.fewer (rsC (.head _) (rsC (.tail _ (.tail _ (.tail _ (.tail _ (.head _))))) rsN))
    replace hM : St ⟨w, X, S⟩ [oBox b475 #[(.string ByteArray.empty), (.int .i64 0), (.slice none 0 0), (.slice none 0 0), (.slice none 0 0)] 27, oBox b482 #[s581.v, (.int .i64 r577.2.at_), (.bool r577.2.bad)] 38, oBox b494 #[(.string name), (.int .i64 r488.1), s508.v, s591.v, (.slice none 0 0)] 27, oC (cSl 1 fI r505.1) s508.v, oC (cSl 3 fDEntry (l527 ++ [(⟨r557.1, r569.1, r577.1⟩ : DEntry)])) s591.v] [rV s581.v (cSl 1 fY r577.2.b), rV s_b.v (cSl 1 fY b)] _ := hM
    exact lp_end (m535, n523 - 1, r577.2.b, r577.2.at_, r577.2.bad, l527 ++ [(⟨r557.1, r569.1, r577.1⟩ : DEntry)], s581, s591) (Nat.lt_succ_self _) ⟨rfl, rfl, rfl, rfl, rfl, trivial⟩ ⟨hM, hx537⟩
  · replace hx := xif_f hc555 hx
    refine wc_exit ?_
    refine sq_exit ?_
    refine lp1_exit ?_
    obtain rfl := Option.some.inj hx
    obtain rfl := Option.some.inj hx537
    replace hx := hx521
    try dsimp only [Sum.elim_inl, Sum.elim_inr] at hx
    refine bk_here ?_
    refine sq_n ?_
    refine wc_seq ?_
    refine wc_seq ?_
    refine wc_region ?_
    refine wv rfl (r_move rfl) ?_
    replace hM := hM.p1
    obtain ⟨r601, h602, hx⟩ := bind_some' hx
    refine w_call rfl rfl (hM.callR (l := [oBox b482 #[s528.v, (.int .i64 n525), (.bool b526)] 38]) fun X S oL hS hR => ct_spec_l21Count _ X S b482 (⟨l524, n525, b526⟩ : DL21Rd) s528 (8 : Int) hS (hR _ (.head _)) oL h602) ?_
    rintro _ w603 ⟨s604, rfl, hM⟩
    replace hM : St ⟨w, X, S⟩ [oBox b482 #[s604.v, (.int .i64 r601.2.at_), (.bool r601.2.bad)] 38, oBox b475 #[(.string ByteArray.empty), (.int .i64 0), (.slice none 0 0), (.slice none 0 0), (.slice none 0 0)] 27, oBox b494 #[(.string name), (.int .i64 r488.1), s508.v, s530.v, (.slice none 0 0)] 27, oC (cSl 1 fI r505.1) s508.v, oC (cSl 3 fDEntry l527) s530.v] [rV s604.v (cSl 1 fY r601.2.b), rV s528.v (cSl 1 fY l524), rV s_b.v (cSl 1 fY b)] _ := hM
    refine wv rfl (r_assign rfl) ?_
    refine wl_nil ?_
    refine sq_n ?_
    refine wc_block ?_
    obtain ⟨y606, hx, hx607⟩ := bind_some' hx
    have hM := hM.nil0 (T := DSeen) 3 fDSeen
    replace hM := hM.p5.p5.p5.p4.p5
    have hM := hM.fewer (rsC (.head _) (rsC (.tail _ (.tail _ (.head _))) rsN))
    replace hM : St ⟨w, X, S⟩ [oBox b475 #[(.string ByteArray.empty), (.int .i64 0), (.slice none 0 0), (.slice none 0 0), (.slice none 0 0)] 27, oBox b482 #[s604.v, (.int .i64 r601.2.at_), (.bool r601.2.bad)] 38, oBox b494 #[(.string name), (.int .i64 r488.1), s508.v, s530.v, nS.v] 27, oC (cSl 1 fI r505.1) s508.v, oC (cSl 3 fDEntry l527) s530.v, oC (cSl 3 fDSeen ([] : List DSeen)) nS.v] [rV s604.v (cSl 1 fY r601.2.b), rV s_b.v (cSl 1 fY b)] _ := hM
    obtain ⟨m619, hx⟩ := iter_run hx
    refine wc_loop (un fun (m617 : Nat) => un fun (n609 : Int) => un fun (l610 : List UInt8) => un fun (n611 : Int) => un fun (b612 : Bool) => un fun (l613 : List DSeen) => un fun (s614 : Sv) => fun (s616 : Sv) => [(1, s_b.v), (4, (.pointer (some ⟨b475, 0, none⟩))), (6, (.pointer (some ⟨b482, 0, none⟩))), (7, (.pointer (some ⟨b494, 0, none⟩))), (10, (.int .i64 n609))]) (un fun (m617 : Nat) => un fun (n609 : Int) => un fun (l610 : List UInt8) => un fun (n611 : Int) => un fun (b612 : Bool) => un fun (l613 : List DSeen) => un fun (s614 : Sv) => fun (s616 : Sv) w' => St ⟨w, X, S⟩ [oBox b475 #[(.string ByteArray.empty), (.int .i64 0), (.slice none 0 0), (.slice none 0 0), (.slice none 0 0)] 27, oBox b482 #[s614.v, (.int .i64 n611), (.bool b612)] 38, oBox b494 #[(.string name), (.int .i64 r488.1), s508.v, s530.v, s616.v] 27, oC (cSl 1 fI r505.1) s508.v, oC (cSl 3 fDEntry l527) s530.v, oC (cSl 3 fDSeen l613) s616.v] [rV s614.v (cSl 1 fY l610), rV s_b.v (cSl 1 fY b)] w' ∧ iterN _ m617 (n609, l610, n611, b612, l613) = some y606) (fun p => p.1) (m619, r601.1, r601.2.b, r601.2.at_, r601.2.bad, [], s604, nS) ⟨rfl, rfl, rfl, rfl, rfl, trivial⟩ ⟨hM, hx⟩ ?_
    rintro ⟨m617, n609, l610, n611, b612, l613, s614, s616⟩ w620 ⟨hM, hx⟩
    obtain ⟨m621, z622, rfl, hx, hx623⟩ := iterN_step hx
    unfold x_spec_BytesDoc_f1 x_spec_BytesDoc_b1 at hx
    try dsimp only at hx
    refine wc_seq ?_
    refine wc_seq ?_
    refine wc_region ?_
    refine wv rfl (r_move rfl) ?_
    refine wv rfl (r_gtr rfl rfl) ?_
    refine wv rfl (r_move rfl) ?_
    obtain ⟨c627, hx, hx634⟩ := bind_some' hx
    refine wl_mid 6 (fun _ : Unit => [(64, (.bool c627)), (1, s_b.v), (4, (.pointer (some ⟨b475, 0, none⟩))), (6, (.pointer (some ⟨b482, 0, none⟩))), (7, (.pointer (some ⟨b494, 0, none⟩))), (10, (.int .i64 n609))]) (fun _ w' => St ⟨w, X, S⟩ [oBox b475 #[(.string ByteArray.empty), (.int .i64 0), (.slice none 0 0), (.slice none 0 0), (.slice none 0 0)] 27, oBox b482 #[s614.v, (.int .i64 n611), (.bool b612)] 38, oBox b494 #[(.string name), (.int .i64 r488.1), s508.v, s530.v, s616.v] 27, oC (cSl 1 fI r505.1) s508.v, oC (cSl 3 fDEntry l527) s530.v, oC (cSl 3 fDSeen l613) s616.v] [rV s614.v (cSl 1 fY l610), rV s_b.v (cSl 1 fY b)] w') ?_ ?_
    · rcases Bool.eq_false_or_eq_true (decide ((0 : Int) < n609)) with hg628 | hg628
      · replace hx := xif_t hg628 hx
        refine gv rfl hg628 rfl (r_move rfl) ?_
        refine gv rfl hg628 rfl (r_nilck rfl) ?_
        refine gv rfl hg628 rfl (r_fld Try.underlying38 rfl rfl sz4 rfl) ?_
        refine gv rfl hg628 rfl (r_ldB Try.underlying4 rfl rfl hM (.tail _ (.head _)) rfl) ?_
        refine gv rfl hg628 rfl (r_not rfl) ?_
        refine wv rfl (p_t rfl hg628 rfl) ?_
        obtain rfl := Option.some.inj hx
        exact mid_nil () ⟨rfl, rfl, rfl, rfl, rfl, rfl, trivial⟩ hM
      · replace hx := xif_f hg628 hx
        refine gs rfl (isB_no hg628) rfl ?_
        refine gs rfl (isB_no hg628) rfl ?_
        refine gs rfl (isB_no hg628) rfl ?_
        refine gs rfl (isB_no hg628) rfl ?_
        refine gs rfl (isB_no hg628) rfl ?_
        refine wv rfl (p_f rfl hg628 rfl) ?_
        obtain rfl := Option.some.inj hx
        exact mid_nil () ⟨rfl, rfl, rfl, rfl, rfl, rfl, trivial⟩ hM
    rintro _ w640 hM
    replace hx := hx634
    refine wl_nil ?_
    refine sq_n ?_
    refine wc_cond rfl (fun hc641 => ?_) (fun hc641 => ?_)
    · replace hx := xif_t hc641 hx
      refine wc_skip ?_
      refine sq_n ?_
      refine wc_seq ?_
      refine wc_block ?_
      refine wc_seq ?_
      refine wc_region ?_
      refine wv rfl (r_move rfl) ?_
      replace hM := hM.p1
      obtain ⟨r643, h644, hx⟩ := bind_some' hx
      refine w_call rfl rfl (hM.callR (l := [oBox b482 #[s614.v, (.int .i64 n611), (.bool b612)] 38]) fun X S oL hS hR => ct_spec_l21Get _ X S b482 (⟨l610, n611, b612⟩ : DL21Rd) s614 hS (hR _ (.head _)) oL h644) ?_
      rintro _ w645 ⟨s646, rfl, hM⟩
      replace hM : St ⟨w, X, S⟩ [oBox b482 #[s646.v, (.int .i64 r643.2.at_), (.bool r643.2.bad)] 38, oBox b475 #[(.string ByteArray.empty), (.int .i64 0), (.slice none 0 0), (.slice none 0 0), (.slice none 0 0)] 27, oBox b494 #[(.string name), (.int .i64 r488.1), s508.v, s530.v, s616.v] 27, oC (cSl 1 fI r505.1) s508.v, oC (cSl 3 fDEntry l527) s530.v, oC (cSl 3 fDSeen l613) s616.v] [rV s646.v (cSl 1 fY r643.2.b), rV s614.v (cSl 1 fY l610), rV s_b.v (cSl 1 fY b)] _ := hM
      refine wv rfl (r_build (cells := #[(.int .i64 r643.1), (.int .i64 0), (.int .i64 0)]) rfl (by kernel_rfl)) ?_
      refine w_ex rfl (x_alloc sz47 hM ?_); intro b649 w648 hR650 hM
      replace hM : St ⟨w, X, S⟩ [oBox b649 #[(.int .i64 0), (.int .i64 0), (.int .i64 0)] 47, oBox b482 #[s646.v, (.int .i64 r643.2.at_), (.bool r643.2.bad)] 38, oBox b475 #[(.string ByteArray.empty), (.int .i64 0), (.slice none 0 0), (.slice none 0 0), (.slice none 0 0)] 27, oBox b494 #[(.string name), (.int .i64 r488.1), s508.v, s530.v, s616.v] 27, oC (cSl 1 fI r505.1) s508.v, oC (cSl 3 fDEntry l527) s530.v, oC (cSl 3 fDSeen l613) s616.v] [rV s646.v (cSl 1 fY r643.2.b), rV s614.v (cSl 1 fY l610), rV s_b.v (cSl 1 fY b)] _ := hM
      refine w_exu (x_stB #[(.int .i64 r643.1), (.int .i64 0), (.int .i64 0)] sz47 rfl rfl rfl rfl rfl rfl hM ?_); intro w652 hM
      refine wl_nil ?_
      refine sq_n ?_
      refine wc_seq ?_
      refine wc_region ?_
      refine wv rfl (r_move rfl) ?_
      replace hM := hM.p1
      obtain ⟨r655, h656, hx⟩ := bind_some' hx
      refine w_call rfl rfl (hM.callR (l := [oBox b482 #[s646.v, (.int .i64 r643.2.at_), (.bool r643.2.bad)] 38]) fun X S oL hS hR => ct_spec_l21Get _ X S b482 r643.2 s646 hS (hR _ (.head _)) oL h656) ?_
      rintro _ w657 ⟨s658, rfl, hM⟩
      replace hM : St ⟨w, X, S⟩ [oBox b482 #[s658.v, (.int .i64 r655.2.at_), (.bool r655.2.bad)] 38, oBox b649 #[(.int .i64 r643.1), (.int .i64 0), (.int .i64 0)] 47, oBox b475 #[(.string ByteArray.empty), (.int .i64 0), (.slice none 0 0), (.slice none 0 0), (.slice none 0 0)] 27, oBox b494 #[(.string name), (.int .i64 r488.1), s508.v, s530.v, s616.v] 27, oC (cSl 1 fI r505.1) s508.v, oC (cSl 3 fDEntry l527) s530.v, oC (cSl 3 fDSeen l613) s616.v] [rV s658.v (cSl 1 fY r655.2.b), rV s646.v (cSl 1 fY r643.2.b), rV s614.v (cSl 1 fY l610), rV s_b.v (cSl 1 fY b)] _ := hM
      refine wv rfl (r_fld Try.underlying47 rfl rfl sz3 rfl) ?_
      replace hM := hM.p1
      refine w_exu (x_stB #[(.int .i64 r643.1), (.int .i64 r655.1), (.int .i64 0)] sz3 rfl rfl rfl rfl rfl rfl hM ?_); intro w660 hM
      refine wl_nil ?_
      refine sq_n ?_
      refine wc_seq ?_
      refine wc_region ?_
      refine wv rfl (r_move rfl) ?_
      replace hM := hM.p1
      obtain ⟨r663, h664, hx⟩ := bind_some' hx
      refine w_call rfl rfl (hM.callR (l := [oBox b482 #[s658.v, (.int .i64 r655.2.at_), (.bool r655.2.bad)] 38]) fun X S oL hS hR => ct_spec_l21Get _ X S b482 r655.2 s658 hS (hR _ (.head _)) oL h664) ?_
      rintro _ w665 ⟨s666, rfl, hM⟩
      replace hM : St ⟨w, X, S⟩ [oBox b482 #[s666.v, (.int .i64 r663.2.at_), (.bool r663.2.bad)] 38, oBox b649 #[(.int .i64 r643.1), (.int .i64 r655.1), (.int .i64 0)] 47, oBox b475 #[(.string ByteArray.empty), (.int .i64 0), (.slice none 0 0), (.slice none 0 0), (.slice none 0 0)] 27, oBox b494 #[(.string name), (.int .i64 r488.1), s508.v, s530.v, s616.v] 27, oC (cSl 1 fI r505.1) s508.v, oC (cSl 3 fDEntry l527) s530.v, oC (cSl 3 fDSeen l613) s616.v] [rV s666.v (cSl 1 fY r663.2.b), rV s658.v (cSl 1 fY r655.2.b), rV s646.v (cSl 1 fY r643.2.b), rV s614.v (cSl 1 fY l610), rV s_b.v (cSl 1 fY b)] _ := hM
      refine wv rfl (r_fld Try.underlying47 rfl rfl sz3 rfl) ?_
      replace hM := hM.p1
      refine w_exu (x_stB #[(.int .i64 r643.1), (.int .i64 r655.1), (.int .i64 r663.1)] sz3 rfl rfl rfl rfl rfl rfl hM ?_); intro w668 hM
      refine wl_nil ?_
      refine sq_n ?_
      refine wc_region ?_
      refine wv rfl (r_fld Try.underlying27 rfl rfl sz25 rfl) ?_
      refine wv rfl (r_ldB Try.underlying25 rfl rfl hM (.tail _ (.tail _ (.tail _ (.head _)))) rfl) ?_
      refine wv rfl (r_ldBS Try.underlying47 sz47 rfl (us := [(.int .i64 r643.1), (.int .i64 r655.1), (.int .i64 r663.1)]) rfl hM (.head _) rfl) ?_
      replace hM := hM.p6
      obtain ⟨hg676, hx⟩ := xg_some hx
      refine w_push (f := fDSeen) (⟨r643.1, r655.1, r663.1⟩ : DSeen) rfl rfl Try.underlying25 sz47 rfl rfl rfl rfl (fun _ => rfl) hM (fun _ => zP (pV _ rfl) (zP (pV _ rfl) (zP (pV _ rfl) zN))) rfl hg676 rfl ?_; intro u674 s675 w673 hM
      refine wv rfl (r_fld Try.underlying27 rfl rfl sz25 rfl) ?_
      replace hM := hM.p4
      refine w_exu (x_stB #[(.string name), (.int .i64 r488.1), s508.v, s530.v, s675.v] sz25 rfl rfl rfl rfl rfl rfl hM ?_); intro w678 hM
      refine wl_nil ?_
      refine bk_n ?_
      refine sq_n ?_
      refine wc_region ?_
      refine wv rfl (r_move rfl) ?_
      obtain ⟨hg682, hx⟩ := xg_some hx
      refine wv rfl (r_sub rfl rfl hg682) ?_
      refine wv rfl (r_assign rfl) ?_
      refine wl_nil ?_
      obtain rfl := Option.some.inj hx
      replace hM := hM.p1.p6.p6.p3.p5.p6
      replace hM := hM.t6
      have hM := hM.fewer (rsC (.head _) (rsC (.tail _ (.tail _ (.tail _ (.tail _ (.head _))))) rsN))
      replace hM : St ⟨w, X, S⟩ [oBox b475 #[(.string ByteArray.empty), (.int .i64 0), (.slice none 0 0), (.slice none 0 0), (.slice none 0 0)] 27, oBox b482 #[s666.v, (.int .i64 r663.2.at_), (.bool r663.2.bad)] 38, oBox b494 #[(.string name), (.int .i64 r488.1), s508.v, s530.v, s675.v] 27, oC (cSl 1 fI r505.1) s508.v, oC (cSl 3 fDEntry l527) s530.v, oC (cSl 3 fDSeen (l613 ++ [(⟨r643.1, r655.1, r663.1⟩ : DSeen)])) s675.v] [rV s666.v (cSl 1 fY r663.2.b), rV s_b.v (cSl 1 fY b)] _ := hM
      exact lp_end (m621, n609 - 1, r663.2.b, r663.2.at_, r663.2.bad, l613 ++ [(⟨r643.1, r655.1, r663.1⟩ : DSeen)], s666, s675) (Nat.lt_succ_self _) ⟨rfl, rfl, rfl, rfl, rfl, trivial⟩ ⟨hM, hx623⟩
    · replace hx := xif_f hc641 hx
      refine wc_exit ?_
      refine sq_exit ?_
      refine lp1_exit ?_
      obtain rfl := Option.some.inj hx
      obtain rfl := Option.some.inj hx623
      replace hx := hx607
      try dsimp only [Sum.elim_inl, Sum.elim_inr] at hx
      refine bk_here ?_
      refine sq_n ?_
      refine wc_seq ?_
      refine wc_region ?_
      refine wv rfl (r_ldBS Try.underlying27 sz27 rfl (us := [(.string name), (.int .i64 r488.1), s508.v, s530.v, s616.v]) rfl hM (.tail _ (.tail _ (.head _))) rfl) ?_
      obtain ⟨r685, h686, hx⟩ := bind_some' hx
      refine w_call rfl rfl (hM.callO (l := []) fun X S oL hS hR hO => ct_spec_DocBytes _ X S (⟨name, r488.1, r505.1, l527, l613⟩ : DDoc) s508 s530 s616 hS (seeA hO (.tail _ (.tail _ (.tail _ (.head _))))) (seeA hO (.tail _ (.tail _ (.tail _ (.tail _ (.head _)))))) (seeA hO (.tail _ (.tail _ (.tail _ (.tail _ (.tail _ (.head _))))))) oL h686) ?_
      rintro _ w687 ⟨s688, rfl, hM⟩
      replace hM : St ⟨w, X, S⟩ [oC (cSl 1 fY r685.1) s688.v, oBox b475 #[(.string ByteArray.empty), (.int .i64 0), (.slice none 0 0), (.slice none 0 0), (.slice none 0 0)] 27, oBox b482 #[s614.v, (.int .i64 n611), (.bool b612)] 38, oBox b494 #[(.string name), (.int .i64 r488.1), s508.v, s530.v, s616.v] 27, oC (cSl 1 fI r505.1) s508.v, oC (cSl 3 fDEntry l527) s530.v, oC (cSl 3 fDSeen l613) s616.v] [rV s614.v (cSl 1 fY l610), rV s_b.v (cSl 1 fY b)] _ := hM
      refine wv rfl (r_move rfl) ?_
      refine wv rfl (r_extract rfl rfl) ?_
      refine wv rfl (r_extract rfl rfl) ?_
      refine wv rfl (r_assign rfl) ?_
      refine wv rfl (r_assign rfl) ?_
      refine wl_nil ?_
      refine sq_n ?_
      refine wc_seq ?_
      refine wc_seq ?_
      refine wc_region ?_
      refine wv rfl (r_move rfl) ?_
      refine wv rfl (r_nilck rfl) ?_
      refine wv rfl (r_fld Try.underlying38 rfl rfl sz4 rfl) ?_
      refine wv rfl (r_ldB Try.underlying4 rfl rfl hM (.tail _ (.tail _ (.head _))) rfl) ?_
      refine wv rfl (r_move rfl) ?_
      obtain ⟨c700, hx, hx704⟩ := bind_some' hx
      refine wl_mid 3 (fun _ : Unit => [(94, (.bool c700)), (1, s_b.v), (4, (.pointer (some ⟨b475, 0, none⟩))), (7, (.pointer (some ⟨b494, 0, none⟩))), (12, s688.v)]) (fun _ w' => St ⟨w, X, S⟩ [oC (cSl 1 fY r685.1) s688.v, oBox b475 #[(.string ByteArray.empty), (.int .i64 0), (.slice none 0 0), (.slice none 0 0), (.slice none 0 0)] 27, oBox b482 #[s614.v, (.int .i64 n611), (.bool b612)] 38, oBox b494 #[(.string name), (.int .i64 r488.1), s508.v, s530.v, s616.v] 27, oC (cSl 1 fI r505.1) s508.v, oC (cSl 3 fDEntry l527) s530.v, oC (cSl 3 fDSeen l613) s616.v] [rV s614.v (cSl 1 fY l610), rV s_b.v (cSl 1 fY b)] w') ?_ ?_
      · rcases Bool.eq_false_or_eq_true b612 with hg701 | hg701
        · replace hx := xif_t hg701 hx
          refine gs rfl (isB_no hg701) rfl ?_
          refine gs rfl (isB_no hg701) rfl ?_
          refine wv rfl (p_t rfl hg701 rfl) ?_
          obtain rfl := Option.some.inj hx
          exact mid_nil () ⟨rfl, rfl, rfl, rfl, rfl, trivial⟩ hM
        · replace hx := xif_f hg701 hx
          refine gv rfl hg701 rfl (r_move rfl) ?_
          refine gv rfl hg701 rfl (r_not rfl) ?_
          refine wv rfl (p_f rfl hg701 rfl) ?_
          obtain rfl := Option.some.inj hx
          exact mid_nil () ⟨rfl, rfl, rfl, rfl, rfl, trivial⟩ hM
      rintro _ w707 hM
      replace hx := hx704
      refine wv rfl (r_move rfl) ?_
      obtain ⟨c709, hx, hx716⟩ := bind_some' hx
      refine wl_mid 6 (fun _ : Unit => [(101, (.bool c709)), (4, (.pointer (some ⟨b475, 0, none⟩))), (7, (.pointer (some ⟨b494, 0, none⟩)))]) (fun _ w' => St ⟨w, X, S⟩ [oC (cSl 1 fY r685.1) s688.v, oBox b475 #[(.string ByteArray.empty), (.int .i64 0), (.slice none 0 0), (.slice none 0 0), (.slice none 0 0)] 27, oBox b482 #[s614.v, (.int .i64 n611), (.bool b612)] 38, oBox b494 #[(.string name), (.int .i64 r488.1), s508.v, s530.v, s616.v] 27, oC (cSl 1 fI r505.1) s508.v, oC (cSl 3 fDEntry l527) s530.v, oC (cSl 3 fDSeen l613) s616.v] [rV s614.v (cSl 1 fY l610), rV s_b.v (cSl 1 fY b)] w') ?_ ?_
      · rcases Bool.eq_false_or_eq_true c700 with hg710 | hg710
        · replace hx := xif_t hg710 hx
          refine gs rfl (isB_no hg710) rfl ?_
          refine gs rfl (isB_no hg710) rfl ?_
          refine gs rfl (isB_no hg710) rfl ?_
          refine gs rfl (isB_no hg710) rfl ?_
          refine gs rfl (isB_no hg710) rfl ?_
          refine wv rfl (p_t rfl hg710 rfl) ?_
          obtain rfl := Option.some.inj hx
          exact mid_nil () ⟨rfl, rfl, rfl, trivial⟩ hM
        · replace hx := xif_f hg710 hx
          refine gv rfl hg710 rfl (r_move rfl) ?_
          refine gv rfl hg710 rfl (r_b2s Try.underlying22 Try.underlying9 Try.underlying5 rfl (hM.seeO (.head _))) ?_
          refine gv rfl hg710 rfl (r_move rfl) ?_
          refine gv rfl hg710 rfl (r_b2s Try.underlying22 Try.underlying9 Try.underlying5 rfl (hM.seeR (.tail _ (.head _)))) ?_
          refine gv rfl hg710 rfl (r_neqs rfl rfl) ?_
          refine wv rfl (p_f rfl hg710 rfl) ?_
          obtain rfl := Option.some.inj hx
          exact mid_nil () ⟨rfl, rfl, rfl, trivial⟩ hM
      rintro _ w722 hM
      replace hx := hx716
      refine wl_nil ?_
      refine sq_n ?_
      refine wc_cond rfl (fun hc723 => ?_) (fun hc723 => ?_)
      · replace hx := xif_t hc723 hx
        refine wc_seq ?_
        refine wc_region ?_
        refine wv rfl (r_build (cells := #[(.string ByteArray.empty), (.int .i64 0), (.slice none 0 0), (.slice none 0 0), (.slice none 0 0)]) rfl (by kernel_rfl)) ?_
        replace hM := hM.p1
        refine w_exu (x_stB #[(.string ByteArray.empty), (.int .i64 0), (.slice none 0 0), (.slice none 0 0), (.slice none 0 0)] sz27 rfl rfl rfl rfl rfl rfl hM ?_); intro w725 hM
        refine wv rfl (r_assign rfl) ?_
        refine wl_nil ?_
        refine sq_n ?_
        refine wc_ret ?_
        refine sq_ret ?_
        obtain rfl := Option.some.inj hx
        have hM := hM.nil0 (T := Int) 1 fI
        have hM := hM.nil0 (T := DEntry) 3 fDEntry
        have hM := hM.nil0 (T := DSeen) 3 fDSeen
        refine fin_ret [(.agg #[(.string ByteArray.empty), (.int .i64 0), nS.v, nS.v, nS.v]), (.bool false)] ⟨rv_box Try.underlying27 sz27 rfl rfl hM (.tail _ (.tail _ (.tail _ (.head _)))), rfl, trivial⟩ ?_
        replace hM := hM.p1.p2
        replace hM := hM.t3
        have hM := hM.fewer rsN
        exact ⟨(nS, nS, nS), rfl, hM.gives⟩
      · replace hx := xif_f hc723 hx
        refine wc_skip ?_
        refine sq_n ?_
        refine wc_seq ?_
        refine wc_region ?_
        refine wv rfl (r_ldBS Try.underlying27 sz27 rfl (us := [(.string name), (.int .i64 r488.1), s508.v, s530.v, s616.v]) rfl hM (.tail _ (.tail _ (.tail _ (.head _)))) rfl) ?_
        replace hM := hM.p1
        refine w_exu (x_stB #[(.string name), (.int .i64 r488.1), s508.v, s530.v, s616.v] sz27 rfl rfl rfl rfl rfl rfl hM ?_); intro w732 hM
        refine wv rfl (r_assign rfl) ?_
        refine wl_nil ?_
        refine sq_n ?_
        refine wc_ret ?_
        obtain rfl := Option.some.inj hx
        refine fin_ret [(.agg #[(.string name), (.int .i64 r488.1), s508.v, s530.v, s616.v]), (.bool true)] ⟨rv_box Try.underlying27 sz27 rfl rfl hM (.head _), rfl, trivial⟩ ?_
        replace hM := hM.p6.p6.p6
        replace hM := hM.t3
        have hM := hM.fewer rsN
        exact ⟨(s508, s530, s616), rfl, hM.gives⟩

end Go.Proofs.Ytmcakofnolmhpaa
