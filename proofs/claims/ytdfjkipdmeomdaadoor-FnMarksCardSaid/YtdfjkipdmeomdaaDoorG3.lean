/- Walks of functions of this program (printed by a program of ours, by the rules of the layer). No condition. -/
import Derived.Test.YtdfjkipdmeomdaaDoorG2
import Derived.Test.YtdfjkipdmeomdaaDoorNs
namespace Go.Proofs.YtdfjkipdmeomdaaDoor
open Go.RowKit

noncomputable def x_impl_Shift_b0 (at_ : Int) (after : Bool) (_r39 : List DPart) (_k46 : Nat) (x225 : DPart) (i47 : Int) (j48 : Int) : Option (Lr (Int × Int) (Sum Int (Int × Bool))) :=
  bif decide ((x225.kind) = 1) then (xg (inI (i47 + (x225.n))) <| bif decide (at_ < (i47 + (x225.n))) then (xg (inI (j48 + at_)) <| xg (inI ((j48 + at_) - i47)) <| some (Lr.out (Sum.inr (((j48 + at_) - i47, true))))) else (xg (inI (i47 + (x225.n))) <| xg (inI (j48 + (x225.n))) <| some (Lr.go (i47 + (x225.n), j48 + (x225.n))))) else (bif decide ((x225.kind) = 2) then (Option.bind (bif decide (at_ = i47) then (some (!after)) else (some false)) fun c189 => bif c189 then (some (Lr.out (Sum.inr ((j48, true))))) else (xg (inI (j48 + ((x225.signs).length : Int))) <| some (Lr.go (i47, j48 + ((x225.signs).length : Int))))) else (xg (inI (i47 + (x225.n))) <| bif decide (at_ < (i47 + (x225.n))) then (some (Lr.out (Sum.inr ((j48, true))))) else (xg (inI (i47 + (x225.n))) <| some (Lr.go (i47 + (x225.n), j48)))))
noncomputable def x_impl_Shift_f0 (at_ : Int) (after : Bool) (r39 : List DPart) (k46 : Nat) (s226 : Int × Int) : Option (Lr (Int × Int) (Sum Int (Int × Bool))) := x_impl_Shift_b0 at_ after r39 k46 (el r39 k46) s226.1 s226.2
noncomputable def x_impl_Shift (o : List DPart) (at_ : Int) (after : Bool) : Option (Int × Bool) :=
  Option.bind (x_impl_OpOk o) fun r4 => Option.bind (bif !r4 then (some true) else (Option.bind (x_impl_OpFrom o) fun r25 => Option.bind (x_impl_within at_ 0 r25) fun r29 => some (!r29))) fun c10 => bif c10 then (some (0, false)) else (Option.bind (x_impl_OpNorm o) fun r39 => Option.bind (eachN (x_impl_Shift_f0 at_ after r39) (fun (s226 : Int × Int) => (Sum.inl s226.2 : Sum Int (Int × Bool))) r39.length 0 (0, 0)) fun (y227 : Sum Int (Int × Bool)) => Sum.elim (fun y228 => some (y228, true)) (fun y229 => some (y229.1, y229.2)) y227)
theorem ct_impl_Shift (w : World) (X S : Bs) (o : List DPart) (s_o : Sv) (at_ : Int) (after : Bool) (hS : ∀ b, S b → b < w.heap.size ∧ ¬ X b) (a_o_0 : (cSl 3 fDPart o).rd S w s_o.v) (oL : Sep [] X w) {r : Int × Bool} (hx : x_impl_Shift o at_ after = some r) :
  Ret Tryd.prog 26 [s_o.v, (.int .i64 at_), (.bool after)] w (fun u w' => ∃ _ : Unit, u = .tuple #[(.int .i64 r.1), (.bool r.2)] ∧ Gives X S w [] [] w') := by
 unfold x_impl_Shift at hx
 refine enter Tryd.func26 rfl Tryd.ntmps26 (by kernel_rfl) rfl ?_
 have hM := St.enter oL hS
 have hM := hM.addE (r := rV s_o.v (cSl 3 fDPart o)) a_o_0
 refine wc_sr ?_
 refine was rfl rfl ?_
 refine was rfl rfl ?_
 refine wl_sq ?_
 refine wc_seq ?_
 refine wc_sr ?_
 refine wmv rfl rfl ?_
 obtain ⟨r236, h237, hx⟩ := bind_some' hx
 refine w_call rfl rfl (hM.callV fun X S oL hS hR hO => ct_impl_OpOk _ X S o s_o hS (hR _ (.head _)) oL h237) ?_
 rintro _ w238 ⟨rfl, hR239⟩
 have hM := hM.call hR239
 refine wv rfl (r_not rfl) ?_
 refine wmv rfl rfl ?_
 obtain ⟨c242, hx, hx255⟩ := bind_some' hx
 refine wl_mid 6 (fun _ : Unit => [(21, (.bool c242)), (0, s_o.v), (1, (.int .i64 at_)), (2, (.bool after))]) (fun _ w' => St ⟨w, X, S⟩ [] [rV s_o.v (cSl 3 fDPart o)] w') ?_ ?_
 ·
  rcases Bool.eq_false_or_eq_true (!r236) with hg243 | hg243
  ·
   replace hx := xif_t hg243 hx
   refine gs rfl (isB_no hg243) rfl ?_
   refine gs rfl (isB_no hg243) rfl ?_
   refine gs rfl (isB_no hg243) rfl ?_
   refine gs rfl (isB_no hg243) rfl ?_
   refine gs rfl (isB_no hg243) rfl ?_
   refine wv rfl (p_t rfl hg243 rfl) ?_
   obtain rfl := Option.some.inj hx
   exact mid_nil () ⟨rfl, rfl, rfl, rfl, trivial⟩ hM
  ·
   replace hx := xif_f hg243 hx
   refine gv rfl hg243 rfl (r_move rfl) ?_
   refine gv rfl hg243 rfl (r_move rfl) ?_
   obtain ⟨r258, h259, hx⟩ := bind_some' hx
   refine gc rfl hg243 rfl rfl (hM.callV fun X S oL hS hR hO => ct_impl_OpFrom _ X S o s_o hS (hR _ (.head _)) oL h259) ?_
   rintro _ w260 ⟨rfl, hR261⟩
   have hM := hM.call hR261
   obtain ⟨r262, h263, hx⟩ := bind_some' hx
   refine gc rfl hg243 rfl rfl (hM.callV fun X S oL hS hR hO => ct_impl_within _ X S at_ (0 : Int) r258 hS  oL h263) ?_
   rintro _ w264 ⟨rfl, hR265⟩
   have hM := hM.call hR265
   refine gv rfl hg243 rfl (r_not rfl) ?_
   refine wv rfl (p_f rfl hg243 rfl) ?_
   obtain rfl := Option.some.inj hx
   exact mid_nil () ⟨rfl, rfl, rfl, rfl, trivial⟩ hM
 rintro _ w267 hM
 replace hx := hx255
 refine wl_sq ?_
 refine wc_cond rfl (fun hc268 => ?_) (fun hc268 => ?_)
 ·
  replace hx := xif_t hc268 hx
  refine wc_sr ?_
  refine was rfl rfl ?_
  refine was rfl rfl ?_
  refine wl_sq ?_
  refine wc_ret ?_
  refine sq_ret ?_
  obtain rfl := Option.some.inj hx
  refine fin_ret [(.int .i64 0), (.bool false)] ⟨rfl, rfl, trivial⟩ ?_
  replace hM := hM.t0
  have hM := hM.fewer rsN
  exact ⟨(), rfl, hM.gives⟩
 ·
  replace hx := xif_f hc268 hx
  refine wc_skip ?_
  refine sq_n ?_
  refine wc_sr ?_
  refine was rfl rfl ?_
  refine was rfl rfl ?_
  refine wl_sq ?_
  refine wc_seq ?_
  refine wc_sr ?_
  refine wmv rfl rfl ?_
  obtain ⟨r274, h275, hx⟩ := bind_some' hx
  refine w_call rfl rfl (hM.callO (l := []) fun X S oL hS hR hO => ct_impl_OpNorm _ X S o s_o hS (hR _ (.head _)) oL h275) ?_
  rintro _ w276 ⟨s277, rfl, hM⟩
  dsimp only [List.cons_append, List.nil_append] at hM
  refine wv rfl (r_lenC Tryd.underlying30 rfl (hM.seeO (.head _))) ?_
  refine wmv rfl rfl ?_
  refine wl_sq ?_
  refine wc_block ?_
  obtain ⟨y281, hx, hx282⟩ := bind_some' hx
  have hM := hM.fewer rsN
  replace hM : St ⟨w, X, S⟩ [oC (cSl 3 fDPart r274) s277.v] [] _ := hM
  have hl288 := Cs.le (hM.seeO (.head _))
  refine wc_loop (un fun (m285 : Nat) => un fun (k286 : Nat) => un fun (i283 : Int) => fun (j284 : Int) => [(1, (.int .i64 at_)), (2, (.bool after)), (8, (.int .i64 i283)), (9, (.int .i64 j284)), (23, s277.v), (24, (.int .i64 (r274.length : Int))), (25, (.int .i64 (k286 : Int)))]) (un fun (m285 : Nat) => un fun (k286 : Nat) => un fun (i283 : Int) => fun (j284 : Int) w' => St ⟨w, X, S⟩ [oC (cSl 3 fDPart r274) s277.v] [] w' ∧ eachN _ _ m285 k286 (i283, j284) = some y281 ∧ k286 + m285 = r274.length) (fun p => p.1) (r274.length, 0, 0, 0) ⟨rfl, rfl, rfl, rfl, rfl, rfl, rfl, trivial⟩ ⟨hM, hx, Nat.zero_add _⟩ ?_
  rintro ⟨m285, k286, i283, j284⟩ w289 ⟨hM, hx, hk287⟩
  refine wc_sr ?_
  refine wv rfl (r_lss rfl rfl) ?_
  refine wl_sq ?_
  refine wc_seq ?_
  refine wc_cond rfl (fun hc291 => ?_) (fun hc291 => ?_)
  ·
   replace hc291 := of_decide_eq_true hc291
   obtain ⟨m292, z293, rfl, hk287, hx, hx294⟩ := eachN_step hx hk287 hc291
   unfold x_impl_Shift_f0 x_impl_Shift_b0 at hx
   try dsimp only at hx
   refine wc_skip ?_
   refine sq_n ?_
   refine wc_seq ?_
   refine wc_block ?_
   refine wc_sr ?_
   have hi296 : k286 < r274.length := by omega
   refine wv rfl (r_ixC Tryd.underlying30 sz58 rfl rfl (hM.seeO (.head _)) ⟨by omega, hc291⟩) ?_
   obtain ⟨s298, hM, hc299⟩ := hM.leafO (i := k286) (j := 2) (fun _ => rfl) hi296 rfl
   refine wv rfl (r_ldC (o := k286 * 3) Tryd.underlying58 sz58 rfl (us := [(.int .i64 ((el r274 k286).kind)), (.int .i64 ((el r274 k286).n)), s298.v]) rfl (hM.seeOV (.head _)) hi296 ⟨(Cs.get (i := k286) (j := 0) (hM.seeOV (.head _)) (fun _ => rfl) hi296 rfl), (Cs.get (i := k286) (j := 1) (hM.seeOV (.head _)) (fun _ => rfl) hi296 rfl), (hc299 _ (Rel.refl _)), trivial⟩) ?_
   refine w_ex rfl (x_alloc sz58 hM ?_); intro b301 w300 hR302 hM
   dsimp only [Value.cells] at hM
   refine w_exu (x_stB #[(.int .i64 ((el r274 k286).kind)), (.int .i64 ((el r274 k286).n)), s298.v] sz58 rfl rfl rfl rfl rfl rfl hM ?_); intro w304 hM
   refine wl_sq ?_
   refine wc_sr ?_
   refine wv rfl (r_fld Tryd.underlying58 rfl rfl sz3 rfl) ?_
   refine wv rfl (r_ldB Tryd.underlying3 rfl rfl hM (.head _) rfl) ?_
   refine wl_sq ?_
   refine wc_block ?_
   refine wc_sr ?_
   refine wv rfl (r_eql rfl rfl) ?_
   refine was rfl rfl ?_
   refine wl_sq ?_
   refine wc_cond rfl (fun hc310 => ?_) (fun hc310 => ?_)
   ·
    replace hx := xif_t hc310 hx
    refine wc_seq ?_
    refine wc_sr ?_
    refine wmv rfl rfl ?_
    refine wmv rfl rfl ?_
    refine wv rfl (r_fld Tryd.underlying58 rfl rfl sz3 rfl) ?_
    refine wv rfl (r_ldB Tryd.underlying3 rfl rfl hM (.head _) rfl) ?_
    obtain ⟨hg316, hx⟩ := xg_some hx
    refine wv rfl (r_add rfl rfl hg316) ?_
    refine wv rfl (r_lss rfl rfl) ?_
    refine wl_sq ?_
    refine wc_cond rfl (fun hc318 => ?_) (fun hc318 => ?_)
    ·
     replace hx := xif_t hc318 hx
     refine wc_sr ?_
     refine wmv rfl rfl ?_
     refine wmv rfl rfl ?_
     obtain ⟨hg322, hx⟩ := xg_some hx
     refine wv rfl (r_add rfl rfl hg322) ?_
     refine wmv rfl rfl ?_
     obtain ⟨hg325, hx⟩ := xg_some hx
     refine wv rfl (r_sub rfl rfl hg325) ?_
     refine was rfl rfl ?_
     refine was rfl rfl ?_
     refine wl_sq ?_
     refine wc_ret ?_
     refine sq_ret ?_
     refine bk_ret ?_
     refine bk_ret ?_
     refine sq_ret ?_
     refine lp1_ret ?_
     obtain rfl := Option.some.inj hx
     obtain rfl := Option.some.inj hx294
     replace hx := hx282
     try dsimp only [Sum.elim_inl, Sum.elim_inr] at hx
     refine bk_ret ?_
     refine sq_ret ?_
     obtain rfl := Option.some.inj hx
     refine fin_ret [(.int .i64 ((j284 + at_) - i283)), (.bool true)] ⟨rfl, rfl, trivial⟩ ?_
     replace hM := hM.t0
     have hM := hM.fewer rsN
     exact ⟨(), rfl, hM.gives⟩
    ·
     replace hx := xif_f hc318 hx
     refine wc_skip ?_
     refine sq_n ?_
     refine wc_sr ?_
     refine wmv rfl rfl ?_
     refine wv rfl (r_fld Tryd.underlying58 rfl rfl sz3 rfl) ?_
     refine wv rfl (r_ldB Tryd.underlying3 rfl rfl hM (.head _) rfl) ?_
     obtain ⟨hg332, hx⟩ := xg_some hx
     refine wv rfl (r_add rfl rfl hg332) ?_
     refine was rfl rfl ?_
     refine wl_sq ?_
     refine wc_region ?_
     refine wmv rfl rfl ?_
     refine wv rfl (r_fld Tryd.underlying58 rfl rfl sz3 rfl) ?_
     refine wv rfl (r_ldB Tryd.underlying3 rfl rfl hM (.head _) rfl) ?_
     obtain ⟨hg338, hx⟩ := xg_some hx
     refine wv rfl (r_add rfl rfl hg338) ?_
     refine was rfl rfl ?_
     refine wl_nil ?_
     refine bk_n ?_
     refine bk_n ?_
     refine sq_n ?_
     refine wc_region ?_
     refine wv rfl (r_add rfl rfl ⟨by omega, by omega⟩) ?_
     refine wmv rfl rfl ?_
     refine wl_nil ?_
     obtain rfl := Option.some.inj hx
     replace hM := hM.p1
     replace hM : St ⟨w, X, S⟩ [oC (cSl 3 fDPart r274) s277.v, oBox b301 #[(.int .i64 ((el r274 k286).kind)), (.int .i64 ((el r274 k286).n)), s298.v] 58] [] _ := hM.unview
     replace hM := hM.t1
     exact lp_end (m292, k286 + 1, i283 + ((el r274 k286).n), j284 + ((el r274 k286).n)) (Nat.lt_succ_self _) ⟨rfl, rfl, rfl, rfl, rfl, rfl, rfl, trivial⟩ ⟨hM, hx294, hk287⟩
   ·
    replace hx := xif_f hc310 hx
    refine wc_sr ?_
    refine wv rfl (r_eql rfl rfl) ?_
    refine was rfl rfl ?_
    refine wl_sq ?_
    refine wc_cond rfl (fun hc344 => ?_) (fun hc344 => ?_)
    ·
     replace hx := xif_t hc344 hx
     refine wc_seq ?_
     refine wc_sr ?_
     refine wmv rfl rfl ?_
     refine wmv rfl rfl ?_
     refine wv rfl (r_eql rfl rfl) ?_
     refine wmv rfl rfl ?_
     obtain ⟨c349, hx, hx353⟩ := bind_some' hx
     refine wl_mid 3 (fun _ : Unit => [(71, (.bool c349)), (1, (.int .i64 at_)), (2, (.bool after)), (8, (.int .i64 i283)), (9, (.int .i64 j284)), (11, (.pointer (some ⟨b301, 0, none⟩))), (23, s277.v), (24, (.int .i64 (r274.length : Int))), (25, (.int .i64 (k286 : Int)))]) (fun _ w' => St ⟨w, X, S⟩ [oBox b301 #[(.int .i64 ((el r274 k286).kind)), (.int .i64 ((el r274 k286).n)), s298.v] 58, oV (oC (cSl 3 fDPart r274) s277.v) [vR s298.v (cSl 1 fI ((el r274 k286).signs)), vC (eaddr s277.v (k286 * 3 + 2)) s298.v]] [] w') ?_ ?_
     ·
      rcases Bool.eq_false_or_eq_true (decide (at_ = i283)) with hg350 | hg350
      ·
       replace hx := xif_t hg350 hx
       refine gv rfl hg350 rfl (r_move rfl) ?_
       refine gv rfl hg350 rfl (r_not rfl) ?_
       refine wv rfl (p_t rfl hg350 rfl) ?_
       obtain rfl := Option.some.inj hx
       exact mid_nil () ⟨rfl, rfl, rfl, rfl, rfl, rfl, rfl, rfl, rfl, trivial⟩ hM
      ·
       replace hx := xif_f hg350 hx
       refine gs rfl (isB_no hg350) rfl ?_
       refine gs rfl (isB_no hg350) rfl ?_
       refine wv rfl (p_f rfl hg350 rfl) ?_
       obtain rfl := Option.some.inj hx
       exact mid_nil () ⟨rfl, rfl, rfl, rfl, rfl, rfl, rfl, rfl, rfl, trivial⟩ hM
     rintro _ w356 hM
     replace hx := hx353
     refine wl_sq ?_
     refine wc_cond rfl (fun hc357 => ?_) (fun hc357 => ?_)
     ·
      replace hx := xif_t hc357 hx
      refine wc_sr ?_
      refine wmv rfl rfl ?_
      refine was rfl rfl ?_
      refine was rfl rfl ?_
      refine wl_sq ?_
      refine wc_ret ?_
      refine sq_ret ?_
      refine bk_ret ?_
      refine bk_ret ?_
      refine sq_ret ?_
      refine lp1_ret ?_
      obtain rfl := Option.some.inj hx
      obtain rfl := Option.some.inj hx294
      replace hx := hx282
      try dsimp only [Sum.elim_inl, Sum.elim_inr] at hx
      refine bk_ret ?_
      refine sq_ret ?_
      obtain rfl := Option.some.inj hx
      refine fin_ret [(.int .i64 j284), (.bool true)] ⟨rfl, rfl, trivial⟩ ?_
      replace hM := hM.t0
      have hM := hM.fewer rsN
      exact ⟨(), rfl, hM.gives⟩
     ·
      replace hx := xif_f hc357 hx
      refine wc_skip ?_
      refine sq_n ?_
      refine wc_region ?_
      refine wmv rfl rfl ?_
      refine wv rfl (r_fld Tryd.underlying58 rfl rfl sz29 rfl) ?_
      refine wv rfl (r_ldB Tryd.underlying29 rfl rfl hM (.head _) rfl) ?_
      refine wv rfl (r_lenC Tryd.underlying29 rfl (hM.seeV (.tail _ (.head _)) (.head _))) ?_
      obtain ⟨hg366, hx⟩ := xg_some hx
      refine wv rfl (r_add rfl rfl hg366) ?_
      refine was rfl rfl ?_
      refine wl_nil ?_
      refine bk_n ?_
      refine bk_n ?_
      refine sq_n ?_
      refine wc_region ?_
      refine wv rfl (r_add rfl rfl ⟨by omega, by omega⟩) ?_
      refine wmv rfl rfl ?_
      refine wl_nil ?_
      obtain rfl := Option.some.inj hx
      replace hM := hM.p1
      replace hM : St ⟨w, X, S⟩ [oC (cSl 3 fDPart r274) s277.v, oBox b301 #[(.int .i64 ((el r274 k286).kind)), (.int .i64 ((el r274 k286).n)), s298.v] 58] [] _ := hM.unview
      replace hM := hM.t1
      exact lp_end (m292, k286 + 1, i283, j284 + (((el r274 k286).signs).length : Int)) (Nat.lt_succ_self _) ⟨rfl, rfl, rfl, rfl, rfl, rfl, rfl, trivial⟩ ⟨hM, hx294, hk287⟩
    ·
     replace hx := xif_f hc344 hx
     refine wc_seq ?_
     refine wc_sr ?_
     refine wmv rfl rfl ?_
     refine wmv rfl rfl ?_
     refine wv rfl (r_fld Tryd.underlying58 rfl rfl sz3 rfl) ?_
     refine wv rfl (r_ldB Tryd.underlying3 rfl rfl hM (.head _) rfl) ?_
     obtain ⟨hg375, hx⟩ := xg_some hx
     refine wv rfl (r_add rfl rfl hg375) ?_
     refine wv rfl (r_lss rfl rfl) ?_
     refine wl_sq ?_
     refine wc_cond rfl (fun hc377 => ?_) (fun hc377 => ?_)
     ·
      replace hx := xif_t hc377 hx
      refine wc_sr ?_
      refine wmv rfl rfl ?_
      refine was rfl rfl ?_
      refine was rfl rfl ?_
      refine wl_sq ?_
      refine wc_ret ?_
      refine sq_ret ?_
      refine bk_ret ?_
      refine bk_ret ?_
      refine sq_ret ?_
      refine lp1_ret ?_
      obtain rfl := Option.some.inj hx
      obtain rfl := Option.some.inj hx294
      replace hx := hx282
      try dsimp only [Sum.elim_inl, Sum.elim_inr] at hx
      refine bk_ret ?_
      refine sq_ret ?_
      obtain rfl := Option.some.inj hx
      refine fin_ret [(.int .i64 j284), (.bool true)] ⟨rfl, rfl, trivial⟩ ?_
      replace hM := hM.t0
      have hM := hM.fewer rsN
      exact ⟨(), rfl, hM.gives⟩
     ·
      replace hx := xif_f hc377 hx
      refine wc_skip ?_
      refine sq_n ?_
      refine wc_region ?_
      refine wmv rfl rfl ?_
      refine wv rfl (r_fld Tryd.underlying58 rfl rfl sz3 rfl) ?_
      refine wv rfl (r_ldB Tryd.underlying3 rfl rfl hM (.head _) rfl) ?_
      obtain ⟨hg385, hx⟩ := xg_some hx
      refine wv rfl (r_add rfl rfl hg385) ?_
      refine was rfl rfl ?_
      refine wl_nil ?_
      refine bk_n ?_
      refine bk_n ?_
      refine sq_n ?_
      refine wc_region ?_
      refine wv rfl (r_add rfl rfl ⟨by omega, by omega⟩) ?_
      refine wmv rfl rfl ?_
      refine wl_nil ?_
      obtain rfl := Option.some.inj hx
      replace hM := hM.p1
      replace hM : St ⟨w, X, S⟩ [oC (cSl 3 fDPart r274) s277.v, oBox b301 #[(.int .i64 ((el r274 k286).kind)), (.int .i64 ((el r274 k286).n)), s298.v] 58] [] _ := hM.unview
      replace hM := hM.t1
      exact lp_end (m292, k286 + 1, i283 + ((el r274 k286).n), j284) (Nat.lt_succ_self _) ⟨rfl, rfl, rfl, rfl, rfl, rfl, rfl, trivial⟩ ⟨hM, hx294, hk287⟩
  ·
   replace hc291 := of_decide_eq_false hc291
   obtain rfl := eachN_end hx hk287 hc291
   refine wc_exit ?_
   refine sq_exit ?_
   refine lp1_exit ?_
   replace hx := hx282
   try dsimp only [Sum.elim_inl, Sum.elim_inr] at hx
   refine bk_here ?_
   refine sq_n ?_
   refine wc_sr ?_
   refine wmv rfl rfl ?_
   refine was rfl rfl ?_
   refine was rfl rfl ?_
   refine wl_sq ?_
   refine wc_ret ?_
   obtain rfl := Option.some.inj hx
   refine fin_ret [(.int .i64 j284), (.bool true)] ⟨rfl, rfl, trivial⟩ ?_
   replace hM := hM.t0
   have hM := hM.fewer rsN
   exact ⟨(), rfl, hM.gives⟩

end Go.Proofs.YtdfjkipdmeomdaaDoor
