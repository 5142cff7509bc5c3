/- Walks of functions of this program (printed by a program of ours, by the rules of the layer). No condition. -/
import Derived.Test.YthfkcpdechjmnaaG2
import Derived.Test.YthfkcpdechjmnaaNr
namespace Go.Proofs.Ythfkcpdechjmnaa
open Go.RowKit

noncomputable def x_spec_OpNorm_b0 (_o : List DPart) (_k75 : Nat) (x179 : DPart) (l76 : List DPart) (l77 : List Int) (n78 : Int) : Option (Lr (List DPart × List Int × Int) (List DPart × List Int × Int)) :=
  bif decide ((x179.kind) = 1) then (Option.bind (x_spec_l02Keep (⟨l76, l77, n78⟩ : DL02B) (x179.n)) fun r150 => some (Lr.go (r150.list, r150.put, r150.drop))) else (bif decide ((x179.kind) = 2) then (Option.bind (x_spec_l02Put (⟨l76, l77, n78⟩ : DL02B) (x179.signs)) fun r162 => some (Lr.go (r162.list, r162.put, r162.drop))) else (Option.bind (x_spec_l02Drop (⟨l76, l77, n78⟩ : DL02B) (x179.n)) fun r172 => some (Lr.go (r172.list, r172.put, r172.drop))))
noncomputable def x_spec_OpNorm_f0 (o : List DPart) (k75 : Nat) (s180 : List DPart × List Int × Int) : Option (Lr (List DPart × List Int × Int) (List DPart × List Int × Int)) := x_spec_OpNorm_b0 o k75 (el o k75) s180.1 s180.2.1 s180.2.2
noncomputable def x_spec_OpNorm (o : List DPart) : Option (List DPart) :=
  Option.bind (x_spec_OpOk o) fun r3 => bif !r3 then (some []) else (Option.bind (eachN (x_spec_OpNorm_f0 o) (fun (s180 : List DPart × List Int × Int) => ((s180.1, s180.2.1, s180.2.2) : List DPart × List Int × Int)) o.length 0 ([], [], 0)) fun (y181 : List DPart × List Int × Int) => Option.bind (x_spec_l02Done (⟨y181.1, y181.2.1, y181.2.2⟩ : DL02B)) fun r187 => some r187.1)
theorem ct_spec_OpNorm (w : World) (X S : Bs) (o : List DPart) (s_o : Sv) (hS : ∀ b, S b → b < w.heap.size ∧ ¬ X b) (a_o_0 : (cSl 3 fDPart o).rd S w s_o.v) (oL : Sep [] X w) {r : List DPart} (hx : x_spec_OpNorm o = some r) :
    Ret Try.prog 128 [s_o.v] w (fun u w' => ∃ y : Sv, u = y.v ∧ Gives X S w [oC (cSl 3 fDPart r) y.v] [] w') := by
  unfold x_spec_OpNorm at hx
  refine enter Try.func128 rfl Try.ntmps128 (by kernel_rfl) rfl ?_
  have hM := St.enter oL hS
  have hM := hM.addE (r := rV s_o.v (cSl 3 fDPart o)) a_o_0
  refine wc_seq ?_
  refine wc_region ?_
  refine wv rfl (r_assign rfl) ?_
  refine wl_nil ?_
  refine sq_n ?_
  refine wc_seq ?_
  refine wc_seq ?_
  refine wc_region ?_
  refine wv rfl (r_move rfl) ?_
  obtain ⟨r197, h198, hx⟩ := bind_some' hx
  refine w_call rfl rfl (hM.callV fun X S oL hS hR hO => ct_spec_OpOk _ X S o s_o hS (hR _ (.head _)) oL h198) ?_
  rintro _ w199 ⟨rfl, hR200⟩
  have hM := hM.call hR200
  refine wv rfl (r_not rfl) ?_
  refine wl_nil ?_
  refine sq_n ?_
  refine wc_cond rfl (fun hc202 => ?_) (fun hc202 => ?_)
  · replace hx := xif_t hc202 hx
    refine wc_seq ?_
    refine wc_region ?_
    refine wv rfl (r_assign rfl) ?_
    refine wl_nil ?_
    refine sq_n ?_
    refine wc_ret ?_
    refine sq_ret ?_
    obtain rfl := Option.some.inj hx
    have hM := hM.nil0 (T := DPart) 3 fDPart
    refine fin_ret [nS.v] ⟨rfl, trivial⟩ ?_
    replace hM := hM.t1
    have hM := hM.fewer rsN
    exact ⟨nS, rfl, hM.gives⟩
  · replace hx := xif_f hc202 hx
    refine wc_skip ?_
    refine sq_n ?_
    refine wc_seq ?_
    refine wc_region ?_
    refine wv rfl (r_build (cells := #[(.slice none 0 0), (.slice none 0 0), (.int .i64 0)]) rfl (by kernel_rfl)) ?_
    refine w_ex rfl (x_box rfl hM ?_); intro b207 w206 hR208 hM
    replace hM : St ⟨w, X, S⟩ [oBox b207 #[(.slice none 0 0), (.slice none 0 0), (.int .i64 0)] 123] [rV s_o.v (cSl 3 fDPart o)] _ := hM
    refine wv rfl (r_assign rfl) ?_
    refine wl_nil ?_
    refine sq_n ?_
    refine wc_seq ?_
    refine wc_seq ?_
    refine wc_region ?_
    refine wv rfl (r_move rfl) ?_
    refine wv rfl (r_lenC Try.underlying29 rfl (hM.seeR (.head _))) ?_
    refine wv rfl (r_move rfl) ?_
    refine wl_nil ?_
    refine sq_n ?_
    refine wc_block ?_
    obtain ⟨y214, hx, hx215⟩ := bind_some' hx
    have hM := hM.nil0 (T := DPart) 3 fDPart
    have hM := hM.nil0 (T := Int) 1 fI
    replace hM := hM.p1.p2
    have hl228 := Cs.le (hM.seeR (.head _))
    refine wc_loop (un fun (m225 : Nat) => un fun (k226 : Nat) => un fun (l218 : List DPart) => un fun (l219 : List Int) => un fun (n220 : Int) => un fun (s222 : Sv) => fun (s224 : Sv) => [(3, (.pointer (some ⟨b207, 0, none⟩))), (11, s_o.v), (12, (.int .i64 (o.length : Int))), (13, (.int .i64 (k226 : Int)))]) (un fun (m225 : Nat) => un fun (k226 : Nat) => un fun (l218 : List DPart) => un fun (l219 : List Int) => un fun (n220 : Int) => un fun (s222 : Sv) => fun (s224 : Sv) w' => St ⟨w, X, S⟩ [oBox b207 #[s222.v, s224.v, (.int .i64 n220)] 123, oC (cSl 3 fDPart l218) s222.v, oC (cSl 1 fI l219) s224.v] [rV s_o.v (cSl 3 fDPart o)] w' ∧ eachN _ _ m225 k226 (l218, l219, n220) = some y214 ∧ k226 + m225 = o.length) (fun p => p.1) (o.length, 0, [], [], 0, nS, nS) ⟨rfl, rfl, rfl, rfl, trivial⟩ ⟨hM, hx, Nat.zero_add _⟩ ?_
    rintro ⟨m225, k226, l218, l219, n220, s222, s224⟩ w229 ⟨hM, hx, hk227⟩
    refine wc_seq ?_
    refine wc_region ?_
    refine wv rfl (r_lss rfl rfl) ?_
    refine wl_nil ?_
    refine sq_n ?_
    refine wc_seq ?_
    refine wc_cond rfl (fun hc231 => ?_) (fun hc231 => ?_)
    · replace hc231 := of_decide_eq_true hc231
      obtain ⟨m232, z233, rfl, hk227, hx, hx234⟩ := eachN_step hx hk227 hc231
      unfold x_spec_OpNorm_f0 x_spec_OpNorm_b0 at hx
      try dsimp only at hx
      refine wc_skip ?_
      refine sq_n ?_
      refine wc_seq ?_
      refine wc_block ?_
      refine wc_seq ?_
      refine wc_region ?_
      have hi236 : k226 < o.length := by omega
      refine wv rfl (r_ixC Try.underlying29 sz77 rfl rfl (hM.seeR (.head _)) ⟨by omega, hc231⟩) ?_
      obtain ⟨s238, hM, hc239⟩ := hM.leaf (i := k226) (j := 2) (.head _) (fun _ => rfl) hi236 rfl
      refine wv rfl (r_ldC (o := k226 * 3) Try.underlying77 sz77 rfl (us := [(.int .i64 ((el o k226).kind)), (.int .i64 ((el o k226).n)), s238.v]) rfl (hM.seeR (.tail _ (.head _))) hi236 ⟨(Cs.get (i := k226) (j := 0) (hM.seeR (.tail _ (.head _))) (fun _ => rfl) hi236 rfl), (Cs.get (i := k226) (j := 1) (hM.seeR (.tail _ (.head _))) (fun _ => rfl) hi236 rfl), (hc239 _ (Rel.refl _)), trivial⟩) ?_
      refine w_ex rfl (x_alloc sz77 hM ?_); intro b241 w240 hR242 hM
      replace hM : St ⟨w, X, S⟩ [oBox b241 #[(.int .i64 0), (.int .i64 0), (.slice none 0 0)] 77, oBox b207 #[s222.v, s224.v, (.int .i64 n220)] 123, oC (cSl 3 fDPart l218) s222.v, oC (cSl 1 fI l219) s224.v] [rV s238.v (cSl 1 fI ((el o k226).signs)), rV s_o.v (cSl 3 fDPart o)] _ := hM
      refine w_exu (x_stB #[(.int .i64 ((el o k226).kind)), (.int .i64 ((el o k226).n)), s238.v] sz77 rfl rfl rfl rfl rfl rfl hM ?_); intro w244 hM
      refine wl_nil ?_
      refine sq_n ?_
      refine wc_seq ?_
      refine wc_region ?_
      refine wv rfl (r_fld Try.underlying77 rfl rfl sz3 rfl) ?_
      refine wv rfl (r_ldB Try.underlying3 rfl rfl hM (.head _) rfl) ?_
      refine wl_nil ?_
      refine sq_n ?_
      refine wc_block ?_
      refine wc_seq ?_
      refine wc_region ?_
      refine wv rfl (r_eql rfl rfl) ?_
      refine wv rfl (r_assign rfl) ?_
      refine wl_nil ?_
      refine sq_n ?_
      refine wc_cond rfl (fun hc250 => ?_) (fun hc250 => ?_)
      · replace hx := xif_t hc250 hx
        refine wc_region ?_
        refine wv rfl (r_move rfl) ?_
        refine wv rfl (r_fld Try.underlying77 rfl rfl sz3 rfl) ?_
        refine wv rfl (r_ldB Try.underlying3 rfl rfl hM (.head _) rfl) ?_
        replace hM := hM.p3.p3.p3
        obtain ⟨r254, h255, hx⟩ := bind_some' hx
        refine w_call rfl rfl (hM.callO (l := [oBox b207 #[s222.v, s224.v, (.int .i64 n220)] 123, oC (cSl 3 fDPart l218) s222.v, oC (cSl 1 fI l219) s224.v]) fun X S oL hS hR hO => ct_spec_l02Keep _ X S b207 (⟨l218, l219, n220⟩ : DL02B) s222 s224 ((el o k226).n) hS  oL h255) ?_
        rintro _ w256 ⟨⟨s257, s258⟩, rfl, hM⟩
        replace hM : St ⟨w, X, S⟩ [oBox b207 #[s257.v, s258.v, (.int .i64 r254.drop)] 123, oC (cSl 3 fDPart r254.list) s257.v, oC (cSl 1 fI r254.put) s258.v, oBox b241 #[(.int .i64 ((el o k226).kind)), (.int .i64 ((el o k226).n)), s238.v] 77] [rV s238.v (cSl 1 fI ((el o k226).signs)), rV s_o.v (cSl 3 fDPart o)] _ := hM
        refine wl_nil ?_
        refine bk_n ?_
        refine bk_n ?_
        refine sq_n ?_
        refine wc_region ?_
        refine wv rfl (r_add rfl rfl ⟨by omega, by omega⟩) ?_
        refine wv rfl (r_move rfl) ?_
        refine wl_nil ?_
        obtain rfl := Option.some.inj hx
        replace hM := hM.t3
        have hM := hM.fewer (rsC (.tail _ (.head _)) rsN)
        replace hM : St ⟨w, X, S⟩ [oBox b207 #[s257.v, s258.v, (.int .i64 r254.drop)] 123, oC (cSl 3 fDPart r254.list) s257.v, oC (cSl 1 fI r254.put) s258.v] [rV s_o.v (cSl 3 fDPart o)] _ := hM
        exact lp_end (m232, k226 + 1, r254.list, r254.put, r254.drop, s257, s258) (Nat.lt_succ_self _) ⟨rfl, rfl, rfl, rfl, trivial⟩ ⟨hM, hx234, hk227⟩
      · replace hx := xif_f hc250 hx
        refine wc_seq ?_
        refine wc_region ?_
        refine wv rfl (r_eql rfl rfl) ?_
        refine wv rfl (r_assign rfl) ?_
        refine wl_nil ?_
        refine sq_n ?_
        refine wc_cond rfl (fun hc263 => ?_) (fun hc263 => ?_)
        · replace hx := xif_t hc263 hx
          refine wc_region ?_
          refine wv rfl (r_move rfl) ?_
          refine wv rfl (r_fld Try.underlying77 rfl rfl sz26 rfl) ?_
          refine wv rfl (r_ldB Try.underlying26 rfl rfl hM (.head _) rfl) ?_
          replace hM := hM.p3.p3.p3
          obtain ⟨r267, h268, hx⟩ := bind_some' hx
          refine w_call rfl rfl (hM.callO (l := [oBox b207 #[s222.v, s224.v, (.int .i64 n220)] 123, oC (cSl 3 fDPart l218) s222.v, oC (cSl 1 fI l219) s224.v]) fun X S oL hS hR hO => ct_spec_l02Put _ X S b207 (⟨l218, l219, n220⟩ : DL02B) s222 s224 ((el o k226).signs) s238 hS (hR _ (.head _)) oL h268) ?_
          rintro _ w269 ⟨⟨s270, s271⟩, rfl, hM⟩
          replace hM : St ⟨w, X, S⟩ [oBox b207 #[s270.v, s271.v, (.int .i64 r267.drop)] 123, oC (cSl 3 fDPart r267.list) s270.v, oC (cSl 1 fI r267.put) s271.v, oBox b241 #[(.int .i64 ((el o k226).kind)), (.int .i64 ((el o k226).n)), s238.v] 77] [rV s238.v (cSl 1 fI ((el o k226).signs)), rV s_o.v (cSl 3 fDPart o)] _ := hM
          refine wl_nil ?_
          refine bk_n ?_
          refine bk_n ?_
          refine sq_n ?_
          refine wc_region ?_
          refine wv rfl (r_add rfl rfl ⟨by omega, by omega⟩) ?_
          refine wv rfl (r_move rfl) ?_
          refine wl_nil ?_
          obtain rfl := Option.some.inj hx
          replace hM := hM.t3
          have hM := hM.fewer (rsC (.tail _ (.head _)) rsN)
          replace hM : St ⟨w, X, S⟩ [oBox b207 #[s270.v, s271.v, (.int .i64 r267.drop)] 123, oC (cSl 3 fDPart r267.list) s270.v, oC (cSl 1 fI r267.put) s271.v] [rV s_o.v (cSl 3 fDPart o)] _ := hM
          exact lp_end (m232, k226 + 1, r267.list, r267.put, r267.drop, s270, s271) (Nat.lt_succ_self _) ⟨rfl, rfl, rfl, rfl, trivial⟩ ⟨hM, hx234, hk227⟩
        · replace hx := xif_f hc263 hx
          refine wc_region ?_
          refine wv rfl (r_move rfl) ?_
          refine wv rfl (r_fld Try.underlying77 rfl rfl sz3 rfl) ?_
          refine wv rfl (r_ldB Try.underlying3 rfl rfl hM (.head _) rfl) ?_
          replace hM := hM.p3.p3.p3
          obtain ⟨r277, h278, hx⟩ := bind_some' hx
          refine w_call rfl rfl (hM.callO (l := [oBox b207 #[s222.v, s224.v, (.int .i64 n220)] 123, oC (cSl 3 fDPart l218) s222.v, oC (cSl 1 fI l219) s224.v]) fun X S oL hS hR hO => ct_spec_l02Drop _ X S b207 (⟨l218, l219, n220⟩ : DL02B) s222 s224 ((el o k226).n) hS  oL h278) ?_
          rintro _ w279 ⟨⟨s280, s281⟩, rfl, hM⟩
          replace hM : St ⟨w, X, S⟩ [oBox b207 #[s280.v, s281.v, (.int .i64 r277.drop)] 123, oC (cSl 3 fDPart r277.list) s280.v, oC (cSl 1 fI r277.put) s281.v, oBox b241 #[(.int .i64 ((el o k226).kind)), (.int .i64 ((el o k226).n)), s238.v] 77] [rV s238.v (cSl 1 fI ((el o k226).signs)), rV s_o.v (cSl 3 fDPart o)] _ := hM
          refine wl_nil ?_
          refine bk_n ?_
          refine bk_n ?_
          refine sq_n ?_
          refine wc_region ?_
          refine wv rfl (r_add rfl rfl ⟨by omega, by omega⟩) ?_
          refine wv rfl (r_move rfl) ?_
          refine wl_nil ?_
          obtain rfl := Option.some.inj hx
          replace hM := hM.t3
          have hM := hM.fewer (rsC (.tail _ (.head _)) rsN)
          replace hM : St ⟨w, X, S⟩ [oBox b207 #[s280.v, s281.v, (.int .i64 r277.drop)] 123, oC (cSl 3 fDPart r277.list) s280.v, oC (cSl 1 fI r277.put) s281.v] [rV s_o.v (cSl 3 fDPart o)] _ := hM
          exact lp_end (m232, k226 + 1, r277.list, r277.put, r277.drop, s280, s281) (Nat.lt_succ_self _) ⟨rfl, rfl, rfl, rfl, trivial⟩ ⟨hM, hx234, hk227⟩
    · replace hc231 := of_decide_eq_false hc231
      obtain rfl := eachN_end hx hk227 hc231
      refine wc_exit ?_
      refine sq_exit ?_
      refine lp1_exit ?_
      replace hx := hx215
      try dsimp only [Sum.elim_inl, Sum.elim_inr] at hx
      refine bk_here ?_
      refine sq_n ?_
      refine wc_seq ?_
      refine wc_region ?_
      refine wv rfl (r_move rfl) ?_
      obtain ⟨r285, h286, hx⟩ := bind_some' hx
      refine w_call rfl rfl (hM.callO (l := [oBox b207 #[s222.v, s224.v, (.int .i64 n220)] 123, oC (cSl 3 fDPart l218) s222.v, oC (cSl 1 fI l219) s224.v]) fun X S oL hS hR hO => ct_spec_l02Done _ X S b207 (⟨l218, l219, n220⟩ : DL02B) s222 s224 hS  oL h286) ?_
      rintro _ w287 ⟨⟨s288, s289, s290⟩, rfl, hM⟩
      replace hM : St ⟨w, X, S⟩ [oC (cSl 3 fDPart r285.1) s288.v, oBox b207 #[s289.v, s290.v, (.int .i64 r285.2.drop)] 123, oC (cSl 1 fI r285.2.put) s290.v] [rV s_o.v (cSl 3 fDPart o)] _ := hM
      refine wv rfl (r_assign rfl) ?_
      refine wl_nil ?_
      refine sq_n ?_
      refine wc_ret ?_
      obtain rfl := Option.some.inj hx
      refine fin_ret [s288.v] ⟨rfl, trivial⟩ ?_
      replace hM := hM.t1
      have hM := hM.fewer rsN
      exact ⟨s288, rfl, hM.gives⟩

noncomputable def x_spec_IsNorm (o : List DPart) : Option Bool :=
  Option.bind (x_spec_OpOk o) fun r3 => Option.bind (bif r3 then (Option.bind (x_spec_OpNorm o) fun r22 => Option.bind (x_spec_OpSame r22 o) fun r28 => some r28) else (some false)) fun c8 => some c8
theorem ct_spec_IsNorm (w : World) (X S : Bs) (o : List DPart) (s_o : Sv) (hS : ∀ b, S b → b < w.heap.size ∧ ¬ X b) (a_o_0 : (cSl 3 fDPart o).rd S w s_o.v) (oL : Sep [] X w) {r : Bool} (hx : x_spec_IsNorm o = some r) :
    Ret Try.prog 98 [s_o.v] w (fun u w' => ∃ _ : Unit, u = (.bool r) ∧ Gives X S w [] [] w') := by
  unfold x_spec_IsNorm at hx
  refine enter Try.func98 rfl Try.ntmps98 (by kernel_rfl) rfl ?_
  have hM := St.enter oL hS
  have hM := hM.addE (r := rV s_o.v (cSl 3 fDPart o)) a_o_0
  refine wc_seq ?_
  refine wc_region ?_
  refine wv rfl (r_assign rfl) ?_
  refine wl_nil ?_
  refine sq_n ?_
  refine wc_seq ?_
  refine wc_region ?_
  refine wv rfl (r_move rfl) ?_
  obtain ⟨r35, h36, hx⟩ := bind_some' hx
  refine w_call rfl rfl (hM.callV fun X S oL hS hR hO => ct_spec_OpOk _ X S o s_o hS (hR _ (.head _)) oL h36) ?_
  rintro _ w37 ⟨rfl, hR38⟩
  have hM := hM.call hR38
  refine wv rfl (r_move rfl) ?_
  obtain ⟨c40, hx, hx53⟩ := bind_some' hx
  refine wl_mid 5 (fun _ : Unit => [(10, (.bool c40))]) (fun _ w' => St ⟨w, X, S⟩ [] [rV s_o.v (cSl 3 fDPart o)] w') ?_ ?_
  · rcases Bool.eq_false_or_eq_true r35 with hg41 | hg41
    · replace hx := xif_t hg41 hx
      refine gv rfl hg41 rfl (r_move rfl) ?_
      obtain ⟨r55, h56, hx⟩ := bind_some' hx
      refine gc rfl hg41 rfl rfl (hM.callO (l := []) fun X S oL hS hR hO => ct_spec_OpNorm _ X S o s_o hS (hR _ (.head _)) oL h56) ?_
      rintro _ w57 ⟨s58, rfl, hM⟩
      replace hM : St ⟨w, X, S⟩ [oC (cSl 3 fDPart r55) s58.v] [rV s_o.v (cSl 3 fDPart o)] _ := hM
      refine gv rfl hg41 rfl (r_move rfl) ?_
      obtain ⟨r61, h62, hx⟩ := bind_some' hx
      refine gc rfl hg41 rfl rfl (hM.callV fun X S oL hS hR hO => ct_spec_OpSame _ X S r55 s58 o s_o hS (seeA hO (.head _)) (hR _ (.head _)) oL h62) ?_
      rintro _ w63 ⟨rfl, hR64⟩
      have hM := hM.call hR64
      refine wv rfl (p_t rfl hg41 rfl) ?_
      obtain rfl := Option.some.inj hx
      replace hM := hM.t0
      exact mid_nil () ⟨rfl, trivial⟩ hM
    · replace hx := xif_f hg41 hx
      refine gs rfl (isB_no hg41) rfl ?_
      refine gs rfl (isB_no hg41) rfl ?_
      refine gs rfl (isB_no hg41) rfl ?_
      refine gs rfl (isB_no hg41) rfl ?_
      refine wv rfl (p_f rfl hg41 rfl) ?_
      obtain rfl := Option.some.inj hx
      exact mid_nil () ⟨rfl, trivial⟩ hM
  rintro _ w65 hM
  replace hx := hx53
  refine wv rfl (r_assign rfl) ?_
  refine wl_nil ?_
  refine sq_n ?_
  refine wc_ret ?_
  obtain rfl := Option.some.inj hx
  refine fin_ret [(.bool c40)] ⟨rfl, trivial⟩ ?_
  replace hM := hM.t0
  have hM := hM.fewer rsN
  exact ⟨(), rfl, hM.gives⟩

noncomputable def x_impl_Apply_b0 (t : List Int) (_o : List DPart) (_k114 : Nat) (x237 : DPart) (out115 : List Int) (at116 : Int) : Option (Lr (List Int × Int) (List Int)) :=
  bif decide ((x237.kind) = 1) then (xg (inI (at116 + (x237.n))) <| xg (0 ≤ at116 ∧ at116 ≤ (at116 + (x237.n)) ∧ (at116 + (x237.n)) ≤ (t.length : Int)) <| xg (out115.length + ((t.take ((at116 + (x237.n)).toNat)).drop at116.toNat).length ≤ 1099511627776) <| xg (inI (at116 + (x237.n))) <| some (Lr.go (out115 ++ ((t.take ((at116 + (x237.n)).toNat)).drop at116.toNat), at116 + (x237.n)))) else (bif decide ((x237.kind) = 3) then (xg (inI (at116 + (x237.n))) <| some (Lr.go (out115, at116 + (x237.n)))) else (xg (out115.length + (x237.signs).length ≤ 1099511627776) <| some (Lr.go (out115 ++ (x237.signs), at116))))
noncomputable def x_impl_Apply_f0 (t : List Int) (o : List DPart) (k114 : Nat) (s238 : List Int × Int) : Option (Lr (List Int × Int) (List Int)) := x_impl_Apply_b0 t o k114 (el o k114) s238.1 s238.2
noncomputable def x_impl_Apply (o : List DPart) (t : List Int) : Option (List Int × Bool) :=
  Option.bind (x_impl_OpOk o) fun r4 => Option.bind (bif !r4 then (some true) else (Option.bind (x_impl_TextOk t) fun r19 => some (!r19))) fun c10 => Option.bind (bif c10 then (some true) else (Option.bind (x_impl_OpFrom o) fun r36 => some (!decide (r36 = (t.length : Int))))) fun c25 => bif c25 then (some ([], false)) else (Option.bind (eachN (x_impl_Apply_f0 t o) (fun (s238 : List Int × Int) => (s238.1 : List Int)) o.length 0 ([], 0)) fun (y239 : List Int) => some (y239, true))
theorem ct_impl_Apply (w : World) (X S : Bs) (o : List DPart) (s_o : Sv) (t : List Int) (s_t : Sv) (hS : ∀ b, S b → b < w.heap.size ∧ ¬ X b) (a_o_0 : (cSl 3 fDPart o).rd S w s_o.v) (a_t_0 : (cSl 1 fI t).rd S w s_t.v) (oL : Sep [] X w) {r : List Int × Bool} (hx : x_impl_Apply o t = some r) :
    Ret Try.prog 11 [s_o.v, s_t.v] w (fun u w' => ∃ y : Sv, u = .tuple #[y.v, (.bool r.2)] ∧ Gives X S w [oC (cSl 1 fI r.1) y.v] [] w') := by
  unfold x_impl_Apply at hx
  refine enter Try.func11 rfl Try.ntmps11 (by kernel_rfl) rfl ?_
  have hM := St.enter oL hS
  have hM := hM.addE (r := rV s_o.v (cSl 3 fDPart o)) a_o_0
  have hM := hM.addE (r := rV s_t.v (cSl 1 fI t)) a_t_0
  refine wc_seq ?_
  refine wc_region ?_
  refine wv rfl (r_assign rfl) ?_
  refine wv rfl (r_assign rfl) ?_
  refine wl_nil ?_
  refine sq_n ?_
  refine wc_seq ?_
  refine wc_seq ?_
  refine wc_region ?_
  refine wv rfl (r_move rfl) ?_
  obtain ⟨r248, h249, hx⟩ := bind_some' hx
  refine w_call rfl rfl (hM.callV fun X S oL hS hR hO => ct_impl_OpOk _ X S o s_o hS (hR _ (.tail _ (.head _))) oL h249) ?_
  rintro _ w250 ⟨rfl, hR251⟩
  have hM := hM.call hR251
  refine wv rfl (r_not rfl) ?_
  refine wv rfl (r_move rfl) ?_
  obtain ⟨c254, hx, hx262⟩ := bind_some' hx
  refine wl_mid 4 (fun _ : Unit => [(17, (.bool c254)), (0, s_o.v), (1, s_t.v)]) (fun _ w' => St ⟨w, X, S⟩ [] [rV s_t.v (cSl 1 fI t), rV s_o.v (cSl 3 fDPart o)] w') ?_ ?_
  · rcases Bool.eq_false_or_eq_true (!r248) with hg255 | hg255
    · replace hx := xif_t hg255 hx
      refine gs rfl (isB_no hg255) rfl ?_
      refine gs rfl (isB_no hg255) rfl ?_
      refine gs rfl (isB_no hg255) rfl ?_
      refine wv rfl (p_t rfl hg255 rfl) ?_
      obtain rfl := Option.some.inj hx
      exact mid_nil () ⟨rfl, rfl, rfl, trivial⟩ hM
    · replace hx := xif_f hg255 hx
      refine gv rfl hg255 rfl (r_move rfl) ?_
      obtain ⟨r264, h265, hx⟩ := bind_some' hx
      refine gc rfl hg255 rfl rfl (hM.callV fun X S oL hS hR hO => ct_impl_TextOk _ X S t s_t hS (hR _ (.head _)) oL h265) ?_
      rintro _ w266 ⟨rfl, hR267⟩
      have hM := hM.call hR267
      refine gv rfl hg255 rfl (r_not rfl) ?_
      refine wv rfl (p_f rfl hg255 rfl) ?_
      obtain rfl := Option.some.inj hx
      exact mid_nil () ⟨rfl, rfl, rfl, trivial⟩ hM
  rintro _ w269 hM
  replace hx := hx262
  refine wv rfl (r_move rfl) ?_
  obtain ⟨c271, hx, hx281⟩ := bind_some' hx
  refine wl_mid 6 (fun _ : Unit => [(24, (.bool c271)), (0, s_o.v), (1, s_t.v)]) (fun _ w' => St ⟨w, X, S⟩ [] [rV s_t.v (cSl 1 fI t), rV s_o.v (cSl 3 fDPart o)] w') ?_ ?_
  · rcases Bool.eq_false_or_eq_true c254 with hg272 | hg272
    · replace hx := xif_t hg272 hx
      refine gs rfl (isB_no hg272) rfl ?_
      refine gs rfl (isB_no hg272) rfl ?_
      refine gs rfl (isB_no hg272) rfl ?_
      refine gs rfl (isB_no hg272) rfl ?_
      refine gs rfl (isB_no hg272) rfl ?_
      refine wv rfl (p_t rfl hg272 rfl) ?_
      obtain rfl := Option.some.inj hx
      exact mid_nil () ⟨rfl, rfl, rfl, trivial⟩ hM
    · replace hx := xif_f hg272 hx
      refine gv rfl hg272 rfl (r_move rfl) ?_
      obtain ⟨r283, h284, hx⟩ := bind_some' hx
      refine gc rfl hg272 rfl rfl (hM.callV fun X S oL hS hR hO => ct_impl_OpFrom _ X S o s_o hS (hR _ (.tail _ (.head _))) oL h284) ?_
      rintro _ w285 ⟨rfl, hR286⟩
      have hM := hM.call hR286
      refine gv rfl hg272 rfl (r_move rfl) ?_
      refine gv rfl hg272 rfl (r_lenC Try.underlying26 rfl (hM.seeR (.head _))) ?_
      refine gv rfl hg272 rfl (r_neq rfl rfl) ?_
      refine wv rfl (p_f rfl hg272 rfl) ?_
      obtain rfl := Option.some.inj hx
      exact mid_nil () ⟨rfl, rfl, rfl, trivial⟩ hM
  rintro _ w290 hM
  replace hx := hx281
  refine wl_nil ?_
  refine sq_n ?_
  refine wc_cond rfl (fun hc291 => ?_) (fun hc291 => ?_)
  · replace hx := xif_t hc291 hx
    refine wc_seq ?_
    refine wc_region ?_
    refine wv rfl (r_assign rfl) ?_
    refine wv rfl (r_assign rfl) ?_
    refine wl_nil ?_
    refine sq_n ?_
    refine wc_ret ?_
    refine sq_ret ?_
    obtain rfl := Option.some.inj hx
    have hM := hM.nil0 (T := Int) 1 fI
    refine fin_ret [nS.v, (.bool false)] ⟨rfl, rfl, trivial⟩ ?_
    replace hM := hM.t1
    have hM := hM.fewer rsN
    exact ⟨nS, rfl, hM.gives⟩
  · replace hx := xif_f hc291 hx
    refine wc_skip ?_
    refine sq_n ?_
    refine wc_seq ?_
    refine wc_region ?_
    refine wv rfl (r_assign rfl) ?_
    refine wl_nil ?_
    refine sq_n ?_
    refine wc_seq ?_
    refine wc_region ?_
    refine wv rfl (r_assign rfl) ?_
    refine wl_nil ?_
    refine sq_n ?_
    refine wc_seq ?_
    refine wc_seq ?_
    refine wc_region ?_
    refine wv rfl (r_move rfl) ?_
    refine wv rfl (r_lenC Try.underlying29 rfl (hM.seeR (.tail _ (.head _)))) ?_
    refine wv rfl (r_move rfl) ?_
    refine wl_nil ?_
    refine sq_n ?_
    refine wc_block ?_
    obtain ⟨y300, hx, hx301⟩ := bind_some' hx
    have hM := hM.nil0 (T := Int) 1 fI
    have hl310 := Cs.le (hM.seeR (.tail _ (.head _)))
    refine wc_loop (un fun (m307 : Nat) => un fun (k308 : Nat) => un fun (out303 : List Int) => un fun (at304 : Int) => fun (s306 : Sv) => [(1, s_t.v), (6, s306.v), (7, (.int .i64 at304)), (25, s_o.v), (26, (.int .i64 (o.length : Int))), (27, (.int .i64 (k308 : Int)))]) (un fun (m307 : Nat) => un fun (k308 : Nat) => un fun (out303 : List Int) => un fun (at304 : Int) => fun (s306 : Sv) w' => St ⟨w, X, S⟩ [oC (cSl 1 fI out303) s306.v] [rV s_t.v (cSl 1 fI t), rV s_o.v (cSl 3 fDPart o)] w' ∧ eachN _ _ m307 k308 (out303, at304) = some y300 ∧ k308 + m307 = o.length) (fun p => p.1) (o.length, 0, [], 0, nS) ⟨rfl, rfl, rfl, rfl, rfl, rfl, trivial⟩ ⟨hM, hx, Nat.zero_add _⟩ ?_
    rintro ⟨m307, k308, out303, at304, s306⟩ w311 ⟨hM, hx, hk309⟩
    refine wc_seq ?_
    refine wc_region ?_
    refine wv rfl (r_lss rfl rfl) ?_
    refine wl_nil ?_
    refine sq_n ?_
    refine wc_seq ?_
    refine wc_cond rfl (fun hc313 => ?_) (fun hc313 => ?_)
    · replace hc313 := of_decide_eq_true hc313
      obtain ⟨m314, z315, rfl, hk309, hx, hx316⟩ := eachN_step hx hk309 hc313
      unfold x_impl_Apply_f0 x_impl_Apply_b0 at hx
      try dsimp only at hx
      refine wc_skip ?_
      refine sq_n ?_
      refine wc_seq ?_
      refine wc_block ?_
      refine wc_seq ?_
      refine wc_region ?_
      have hi318 : k308 < o.length := by omega
      refine wv rfl (r_ixC Try.underlying29 sz77 rfl rfl (hM.seeR (.tail _ (.head _))) ⟨by omega, hc313⟩) ?_
      obtain ⟨s320, hM, hc321⟩ := hM.leaf (i := k308) (j := 2) (.tail _ (.head _)) (fun _ => rfl) hi318 rfl
      refine wv rfl (r_ldC (o := k308 * 3) Try.underlying77 sz77 rfl (us := [(.int .i64 ((el o k308).kind)), (.int .i64 ((el o k308).n)), s320.v]) rfl (hM.seeR (.tail _ (.tail _ (.head _)))) hi318 ⟨(Cs.get (i := k308) (j := 0) (hM.seeR (.tail _ (.tail _ (.head _)))) (fun _ => rfl) hi318 rfl), (Cs.get (i := k308) (j := 1) (hM.seeR (.tail _ (.tail _ (.head _)))) (fun _ => rfl) hi318 rfl), (hc321 _ (Rel.refl _)), trivial⟩) ?_
      refine w_ex rfl (x_alloc sz77 hM ?_); intro b323 w322 hR324 hM
      replace hM : St ⟨w, X, S⟩ [oBox b323 #[(.int .i64 0), (.int .i64 0), (.slice none 0 0)] 77, oC (cSl 1 fI out303) s306.v] [rV s320.v (cSl 1 fI ((el o k308).signs)), rV s_t.v (cSl 1 fI t), rV s_o.v (cSl 3 fDPart o)] _ := hM
      refine w_exu (x_stB #[(.int .i64 ((el o k308).kind)), (.int .i64 ((el o k308).n)), s320.v] sz77 rfl rfl rfl rfl rfl rfl hM ?_); intro w326 hM
      refine wl_nil ?_
      refine sq_n ?_
      refine wc_seq ?_
      refine wc_region ?_
      refine wv rfl (r_fld Try.underlying77 rfl rfl sz3 rfl) ?_
      refine wv rfl (r_ldB Try.underlying3 rfl rfl hM (.head _) rfl) ?_
      refine wl_nil ?_
      refine sq_n ?_
      refine wc_block ?_
      refine wc_seq ?_
      refine wc_region ?_
      refine wv rfl (r_eql rfl rfl) ?_
      refine wv rfl (r_assign rfl) ?_
      refine wl_nil ?_
      refine sq_n ?_
      refine wc_cond rfl (fun hc332 => ?_) (fun hc332 => ?_)
      · replace hx := xif_t hc332 hx
        refine wc_seq ?_
        refine wc_region ?_
        refine wv rfl (r_move rfl) ?_
        refine wv rfl (r_move rfl) ?_
        refine wv rfl (r_move rfl) ?_
        refine wv rfl (r_move rfl) ?_
        refine wv rfl (r_fld Try.underlying77 rfl rfl sz3 rfl) ?_
        refine wv rfl (r_ldB Try.underlying3 rfl rfl hM (.head _) rfl) ?_
        obtain ⟨hg340, hx⟩ := xg_some hx
        refine wv rfl (r_add rfl rfl hg340) ?_
        obtain ⟨hg342, hx⟩ := xg_some hx
        have hM := hM.cutR (L := t) (f := fI) (lo := at304.toNat) (hi := ((at304 + ((el o k308).n)).toNat)) (fun _ => rfl) (by omega) (by omega) (.tail _ (.head _))
        refine wv rfl (r_slc Try.underlying26 sz3 rfl rfl rfl (hM.seeR (.tail _ (.tail _ (.head _)))) hg342) ?_
        replace hM := hM.p1
        obtain ⟨hg345, hx⟩ := xg_some hx
        refine w_ex rfl (x_append Try.underlying26 sz3 rfl rfl (hM.seeR (.head _)) flI hM hg345 rfl ?_); intro s344 w343 hM
        refine wv rfl (r_assign rfl) ?_
        refine wl_nil ?_
        refine sq_n ?_
        refine wc_region ?_
        refine wv rfl (r_move rfl) ?_
        refine wv rfl (r_fld Try.underlying77 rfl rfl sz3 rfl) ?_
        refine wv rfl (r_ldB Try.underlying3 rfl rfl hM (.tail _ (.head _)) rfl) ?_
        obtain ⟨hg352, hx⟩ := xg_some hx
        refine wv rfl (r_add rfl rfl hg352) ?_
        refine wv rfl (r_assign rfl) ?_
        refine wl_nil ?_
        refine bk_n ?_
        refine bk_n ?_
        refine sq_n ?_
        refine wc_region ?_
        refine wv rfl (r_add rfl rfl ⟨by omega, by omega⟩) ?_
        refine wv rfl (r_move rfl) ?_
        refine wl_nil ?_
        obtain rfl := Option.some.inj hx
        replace hM := hM.t1
        have hM := hM.fewer (rsC (.tail _ (.tail _ (.head _))) (rsC (.tail _ (.tail _ (.tail _ (.head _)))) rsN))
        replace hM : St ⟨w, X, S⟩ [oC (cSl 1 fI (out303 ++ ((t.take ((at304 + ((el o k308).n)).toNat)).drop at304.toNat))) s344.v] [rV s_t.v (cSl 1 fI t), rV s_o.v (cSl 3 fDPart o)] _ := hM
        exact lp_end (m314, k308 + 1, out303 ++ ((t.take ((at304 + ((el o k308).n)).toNat)).drop at304.toNat), at304 + ((el o k308).n), s344) (Nat.lt_succ_self _) ⟨rfl, rfl, rfl, rfl, rfl, rfl, trivial⟩ ⟨hM, hx316, hk309⟩
      · replace hx := xif_f hc332 hx
        refine wc_seq ?_
        refine wc_region ?_
        refine wv rfl (r_eql rfl rfl) ?_
        refine wv rfl (r_assign rfl) ?_
        refine wl_nil ?_
        refine sq_n ?_
        refine wc_cond rfl (fun hc358 => ?_) (fun hc358 => ?_)
        · replace hx := xif_t hc358 hx
          refine wc_region ?_
          refine wv rfl (r_move rfl) ?_
          refine wv rfl (r_fld Try.underlying77 rfl rfl sz3 rfl) ?_
          refine wv rfl (r_ldB Try.underlying3 rfl rfl hM (.head _) rfl) ?_
          obtain ⟨hg363, hx⟩ := xg_some hx
          refine wv rfl (r_add rfl rfl hg363) ?_
          refine wv rfl (r_assign rfl) ?_
          refine wl_nil ?_
          refine bk_n ?_
          refine bk_n ?_
          refine sq_n ?_
          refine wc_region ?_
          refine wv rfl (r_add rfl rfl ⟨by omega, by omega⟩) ?_
          refine wv rfl (r_move rfl) ?_
          refine wl_nil ?_
          obtain rfl := Option.some.inj hx
          replace hM := hM.p1
          replace hM := hM.t1
          have hM := hM.fewer (rsC (.tail _ (.head _)) (rsC (.tail _ (.tail _ (.head _))) rsN))
          replace hM : St ⟨w, X, S⟩ [oC (cSl 1 fI out303) s306.v] [rV s_t.v (cSl 1 fI t), rV s_o.v (cSl 3 fDPart o)] _ := hM
          exact lp_end (m314, k308 + 1, out303, at304 + ((el o k308).n), s306) (Nat.lt_succ_self _) ⟨rfl, rfl, rfl, rfl, rfl, rfl, trivial⟩ ⟨hM, hx316, hk309⟩
        · replace hx := xif_f hc358 hx
          refine wc_region ?_
          refine wv rfl (r_move rfl) ?_
          refine wv rfl (r_fld Try.underlying77 rfl rfl sz26 rfl) ?_
          refine wv rfl (r_ldB Try.underlying26 rfl rfl hM (.head _) rfl) ?_
          replace hM := hM.p1
          obtain ⟨hg372, hx⟩ := xg_some hx
          refine w_ex rfl (x_append Try.underlying26 sz3 rfl rfl (hM.seeR (.head _)) flI hM hg372 rfl ?_); intro s371 w370 hM
          refine wv rfl (r_assign rfl) ?_
          refine wl_nil ?_
          refine bk_n ?_
          refine bk_n ?_
          refine sq_n ?_
          refine wc_region ?_
          refine wv rfl (r_add rfl rfl ⟨by omega, by omega⟩) ?_
          refine wv rfl (r_move rfl) ?_
          refine wl_nil ?_
          obtain rfl := Option.some.inj hx
          replace hM := hM.t1
          have hM := hM.fewer (rsC (.tail _ (.head _)) (rsC (.tail _ (.tail _ (.head _))) rsN))
          replace hM : St ⟨w, X, S⟩ [oC (cSl 1 fI (out303 ++ ((el o k308).signs))) s371.v] [rV s_t.v (cSl 1 fI t), rV s_o.v (cSl 3 fDPart o)] _ := hM
          exact lp_end (m314, k308 + 1, out303 ++ ((el o k308).signs), at304, s371) (Nat.lt_succ_self _) ⟨rfl, rfl, rfl, rfl, rfl, rfl, trivial⟩ ⟨hM, hx316, hk309⟩
    · replace hc313 := of_decide_eq_false hc313
      obtain rfl := eachN_end hx hk309 hc313
      refine wc_exit ?_
      refine sq_exit ?_
      refine lp1_exit ?_
      replace hx := hx301
      try dsimp only [Sum.elim_inl, Sum.elim_inr] at hx
      refine bk_here ?_
      refine sq_n ?_
      refine wc_seq ?_
      refine wc_region ?_
      refine wv rfl (r_move rfl) ?_
      refine wv rfl (r_assign rfl) ?_
      refine wv rfl (r_assign rfl) ?_
      refine wl_nil ?_
      refine sq_n ?_
      refine wc_ret ?_
      obtain rfl := Option.some.inj hx
      refine fin_ret [s306.v, (.bool true)] ⟨rfl, rfl, trivial⟩ ?_
      replace hM := hM.t1
      have hM := hM.fewer rsN
      exact ⟨s306, rfl, hM.gives⟩

noncomputable def x_spec_l03Fits (o : List DPart) (t : List Int) : Option Bool :=
  Option.bind (x_spec_OpOk o) fun r3 => Option.bind (bif r3 then (Option.bind (x_spec_TextOk t) fun r16 => some r16) else (some false)) fun c8 => Option.bind (bif c8 then (Option.bind (x_spec_OpFrom o) fun r32 => some (decide (r32 = (t.length : Int)))) else (some false)) fun c21 => some c21
theorem ct_spec_l03Fits (w : World) (X S : Bs) (o : List DPart) (s_o : Sv) (t : List Int) (s_t : Sv) (hS : ∀ b, S b → b < w.heap.size ∧ ¬ X b) (a_o_0 : (cSl 3 fDPart o).rd S w s_o.v) (a_t_0 : (cSl 1 fI t).rd S w s_t.v) (oL : Sep [] X w) {r : Bool} (hx : x_spec_l03Fits o t = some r) :
    Ret Try.prog 122 [s_o.v, s_t.v] w (fun u w' => ∃ _ : Unit, u = (.bool r) ∧ Gives X S w [] [] w') := by
  unfold x_spec_l03Fits at hx
  refine enter Try.func122 rfl Try.ntmps122 (by kernel_rfl) rfl ?_
  have hM := St.enter oL hS
  have hM := hM.addE (r := rV s_o.v (cSl 3 fDPart o)) a_o_0
  have hM := hM.addE (r := rV s_t.v (cSl 1 fI t)) a_t_0
  refine wc_seq ?_
  refine wc_region ?_
  refine wv rfl (r_assign rfl) ?_
  refine wl_nil ?_
  refine sq_n ?_
  refine wc_seq ?_
  refine wc_region ?_
  refine wv rfl (r_move rfl) ?_
  obtain ⟨r42, h43, hx⟩ := bind_some' hx
  refine w_call rfl rfl (hM.callV fun X S oL hS hR hO => ct_spec_OpOk _ X S o s_o hS (hR _ (.tail _ (.head _))) oL h43) ?_
  rintro _ w44 ⟨rfl, hR45⟩
  have hM := hM.call hR45
  refine wv rfl (r_move rfl) ?_
  obtain ⟨c47, hx, hx54⟩ := bind_some' hx
  refine wl_mid 3 (fun _ : Unit => [(10, (.bool c47)), (0, s_o.v), (1, s_t.v)]) (fun _ w' => St ⟨w, X, S⟩ [] [rV s_t.v (cSl 1 fI t), rV s_o.v (cSl 3 fDPart o)] w') ?_ ?_
  · rcases Bool.eq_false_or_eq_true r42 with hg48 | hg48
    · replace hx := xif_t hg48 hx
      refine gv rfl hg48 rfl (r_move rfl) ?_
      obtain ⟨r56, h57, hx⟩ := bind_some' hx
      refine gc rfl hg48 rfl rfl (hM.callV fun X S oL hS hR hO => ct_spec_TextOk _ X S t s_t hS (hR _ (.head _)) oL h57) ?_
      rintro _ w58 ⟨rfl, hR59⟩
      have hM := hM.call hR59
      refine wv rfl (p_t rfl hg48 rfl) ?_
      obtain rfl := Option.some.inj hx
      exact mid_nil () ⟨rfl, rfl, rfl, trivial⟩ hM
    · replace hx := xif_f hg48 hx
      refine gs rfl (isB_no hg48) rfl ?_
      refine gs rfl (isB_no hg48) rfl ?_
      refine wv rfl (p_f rfl hg48 rfl) ?_
      obtain rfl := Option.some.inj hx
      exact mid_nil () ⟨rfl, rfl, rfl, trivial⟩ hM
  rintro _ w60 hM
  replace hx := hx54
  refine wv rfl (r_move rfl) ?_
  obtain ⟨c62, hx, hx72⟩ := bind_some' hx
  refine wl_mid 6 (fun _ : Unit => [(17, (.bool c62))]) (fun _ w' => St ⟨w, X, S⟩ [] [rV s_t.v (cSl 1 fI t), rV s_o.v (cSl 3 fDPart o)] w') ?_ ?_
  · rcases Bool.eq_false_or_eq_true c47 with hg63 | hg63
    · replace hx := xif_t hg63 hx
      refine gv rfl hg63 rfl (r_move rfl) ?_
      obtain ⟨r74, h75, hx⟩ := bind_some' hx
      refine gc rfl hg63 rfl rfl (hM.callV fun X S oL hS hR hO => ct_spec_OpFrom _ X S o s_o hS (hR _ (.tail _ (.head _))) oL h75) ?_
      rintro _ w76 ⟨rfl, hR77⟩
      have hM := hM.call hR77
      refine gv rfl hg63 rfl (r_move rfl) ?_
      refine gv rfl hg63 rfl (r_lenC Try.underlying26 rfl (hM.seeR (.head _))) ?_
      refine gv rfl hg63 rfl (r_eql rfl rfl) ?_
      refine wv rfl (p_t rfl hg63 rfl) ?_
      obtain rfl := Option.some.inj hx
      exact mid_nil () ⟨rfl, trivial⟩ hM
    · replace hx := xif_f hg63 hx
      refine gs rfl (isB_no hg63) rfl ?_
      refine gs rfl (isB_no hg63) rfl ?_
      refine gs rfl (isB_no hg63) rfl ?_
      refine gs rfl (isB_no hg63) rfl ?_
      refine gs rfl (isB_no hg63) rfl ?_
      refine wv rfl (p_f rfl hg63 rfl) ?_
      obtain rfl := Option.some.inj hx
      exact mid_nil () ⟨rfl, trivial⟩ hM
  rintro _ w81 hM
  replace hx := hx72
  refine wv rfl (r_assign rfl) ?_
  refine wl_nil ?_
  refine sq_n ?_
  refine wc_ret ?_
  obtain rfl := Option.some.inj hx
  refine fin_ret [(.bool c62)] ⟨rfl, trivial⟩ ?_
  replace hM := hM.t0
  have hM := hM.fewer rsN
  exact ⟨(), rfl, hM.gives⟩

noncomputable def x_spec_Apply_b0 (t : List Int) (_o : List DPart) (_k21 : Nat) (x144 : DPart) (out22 : List Int) (at23 : Int) : Option (Lr (List Int × Int) (List Int)) :=
  bif decide ((x144.kind) = 1) then (xg (inI (at23 + (x144.n))) <| xg (0 ≤ at23 ∧ at23 ≤ (at23 + (x144.n)) ∧ (at23 + (x144.n)) ≤ (t.length : Int)) <| xg (out22.length + ((t.take ((at23 + (x144.n)).toNat)).drop at23.toNat).length ≤ 1099511627776) <| xg (inI (at23 + (x144.n))) <| some (Lr.go (out22 ++ ((t.take ((at23 + (x144.n)).toNat)).drop at23.toNat), at23 + (x144.n)))) else (bif decide ((x144.kind) = 2) then (xg (out22.length + (x144.signs).length ≤ 1099511627776) <| some (Lr.go (out22 ++ (x144.signs), at23))) else (xg (inI (at23 + (x144.n))) <| some (Lr.go (out22, at23 + (x144.n)))))
noncomputable def x_spec_Apply_f0 (t : List Int) (o : List DPart) (k21 : Nat) (s145 : List Int × Int) : Option (Lr (List Int × Int) (List Int)) := x_spec_Apply_b0 t o k21 (el o k21) s145.1 s145.2
noncomputable def x_spec_Apply (o : List DPart) (t : List Int) : Option (List Int × Bool) :=
  Option.bind (x_spec_l03Fits o t) fun r5 => bif !r5 then (some ([], false)) else (Option.bind (eachN (x_spec_Apply_f0 t o) (fun (s145 : List Int × Int) => (s145.1 : List Int)) o.length 0 ([], 0)) fun (y146 : List Int) => some (y146, true))
theorem ct_spec_Apply (w : World) (X S : Bs) (o : List DPart) (s_o : Sv) (t : List Int) (s_t : Sv) (hS : ∀ b, S b → b < w.heap.size ∧ ¬ X b) (a_o_0 : (cSl 3 fDPart o).rd S w s_o.v) (a_t_0 : (cSl 1 fI t).rd S w s_t.v) (oL : Sep [] X w) {r : List Int × Bool} (hx : x_spec_Apply o t = some r) :
    Ret Try.prog 85 [s_o.v, s_t.v] w (fun u w' => ∃ y : Sv, u = .tuple #[y.v, (.bool r.2)] ∧ Gives X S w [oC (cSl 1 fI r.1) y.v] [] w') := by
  unfold x_spec_Apply at hx
  refine enter Try.func85 rfl Try.ntmps85 (by kernel_rfl) rfl ?_
  have hM := St.enter oL hS
  have hM := hM.addE (r := rV s_o.v (cSl 3 fDPart o)) a_o_0
  have hM := hM.addE (r := rV s_t.v (cSl 1 fI t)) a_t_0
  refine wc_seq ?_
  refine wc_region ?_
  refine wv rfl (r_assign rfl) ?_
  refine wv rfl (r_assign rfl) ?_
  refine wl_nil ?_
  refine sq_n ?_
  refine wc_seq ?_
  refine wc_seq ?_
  refine wc_region ?_
  refine wv rfl (r_move rfl) ?_
  refine wv rfl (r_move rfl) ?_
  obtain ⟨r156, h157, hx⟩ := bind_some' hx
  refine w_call rfl rfl (hM.callV fun X S oL hS hR hO => ct_spec_l03Fits _ X S o s_o t s_t hS (hR _ (.tail _ (.head _))) (hR _ (.head _)) oL h157) ?_
  rintro _ w158 ⟨rfl, hR159⟩
  have hM := hM.call hR159
  refine wv rfl (r_not rfl) ?_
  refine wl_nil ?_
  refine sq_n ?_
  refine wc_cond rfl (fun hc161 => ?_) (fun hc161 => ?_)
  · replace hx := xif_t hc161 hx
    refine wc_seq ?_
    refine wc_region ?_
    refine wv rfl (r_assign rfl) ?_
    refine wv rfl (r_assign rfl) ?_
    refine wl_nil ?_
    refine sq_n ?_
    refine wc_ret ?_
    refine sq_ret ?_
    obtain rfl := Option.some.inj hx
    have hM := hM.nil0 (T := Int) 1 fI
    refine fin_ret [nS.v, (.bool false)] ⟨rfl, rfl, trivial⟩ ?_
    replace hM := hM.t1
    have hM := hM.fewer rsN
    exact ⟨nS, rfl, hM.gives⟩
  · replace hx := xif_f hc161 hx
    refine wc_skip ?_
    refine sq_n ?_
    refine wc_seq ?_
    refine wc_region ?_
    refine w_ex rfl (x_empty (f := fI) Try.underlying26 sz3 (fun _ => rfl) hM ?_); intro s166 w165 hR167 hM
    refine wv rfl (r_assign rfl) ?_
    refine wl_nil ?_
    refine sq_n ?_
    refine wc_seq ?_
    refine wc_region ?_
    refine wv rfl (r_assign rfl) ?_
    refine wl_nil ?_
    refine sq_n ?_
    refine wc_seq ?_
    refine wc_seq ?_
    refine wc_region ?_
    refine wv rfl (r_move rfl) ?_
    refine wv rfl (r_lenC Try.underlying29 rfl (hM.seeR (.tail _ (.head _)))) ?_
    refine wv rfl (r_move rfl) ?_
    refine wl_nil ?_
    refine sq_n ?_
    refine wc_block ?_
    obtain ⟨y174, hx, hx175⟩ := bind_some' hx
    have hl183 := Cs.le (hM.seeR (.tail _ (.head _)))
    refine wc_loop (un fun (m180 : Nat) => un fun (k181 : Nat) => un fun (out176 : List Int) => un fun (at177 : Int) => fun (s179 : Sv) => [(1, s_t.v), (6, s179.v), (7, (.int .i64 at177)), (15, s_o.v), (16, (.int .i64 (o.length : Int))), (17, (.int .i64 (k181 : Int)))]) (un fun (m180 : Nat) => un fun (k181 : Nat) => un fun (out176 : List Int) => un fun (at177 : Int) => fun (s179 : Sv) w' => St ⟨w, X, S⟩ [oC (cSl 1 fI out176) s179.v] [rV s_t.v (cSl 1 fI t), rV s_o.v (cSl 3 fDPart o)] w' ∧ eachN _ _ m180 k181 (out176, at177) = some y174 ∧ k181 + m180 = o.length) (fun p => p.1) (o.length, 0, [], 0, s166) ⟨rfl, rfl, rfl, rfl, rfl, rfl, trivial⟩ ⟨hM, hx, Nat.zero_add _⟩ ?_
    rintro ⟨m180, k181, out176, at177, s179⟩ w184 ⟨hM, hx, hk182⟩
    refine wc_seq ?_
    refine wc_region ?_
    refine wv rfl (r_lss rfl rfl) ?_
    refine wl_nil ?_
    refine sq_n ?_
    refine wc_seq ?_
    refine wc_cond rfl (fun hc186 => ?_) (fun hc186 => ?_)
    · replace hc186 := of_decide_eq_true hc186
      obtain ⟨m187, z188, rfl, hk182, hx, hx189⟩ := eachN_step hx hk182 hc186
      unfold x_spec_Apply_f0 x_spec_Apply_b0 at hx
      try dsimp only at hx
      refine wc_skip ?_
      refine sq_n ?_
      refine wc_seq ?_
      refine wc_block ?_
      refine wc_seq ?_
      refine wc_region ?_
      have hi191 : k181 < o.length := by omega
      refine wv rfl (r_ixC Try.underlying29 sz77 rfl rfl (hM.seeR (.tail _ (.head _))) ⟨by omega, hc186⟩) ?_
      obtain ⟨s193, hM, hc194⟩ := hM.leaf (i := k181) (j := 2) (.tail _ (.head _)) (fun _ => rfl) hi191 rfl
      refine wv rfl (r_ldC (o := k181 * 3) Try.underlying77 sz77 rfl (us := [(.int .i64 ((el o k181).kind)), (.int .i64 ((el o k181).n)), s193.v]) rfl (hM.seeR (.tail _ (.tail _ (.head _)))) hi191 ⟨(Cs.get (i := k181) (j := 0) (hM.seeR (.tail _ (.tail _ (.head _)))) (fun _ => rfl) hi191 rfl), (Cs.get (i := k181) (j := 1) (hM.seeR (.tail _ (.tail _ (.head _)))) (fun _ => rfl) hi191 rfl), (hc194 _ (Rel.refl _)), trivial⟩) ?_
      refine w_ex rfl (x_alloc sz77 hM ?_); intro b196 w195 hR197 hM
      replace hM : St ⟨w, X, S⟩ [oBox b196 #[(.int .i64 0), (.int .i64 0), (.slice none 0 0)] 77, oC (cSl 1 fI out176) s179.v] [rV s193.v (cSl 1 fI ((el o k181).signs)), rV s_t.v (cSl 1 fI t), rV s_o.v (cSl 3 fDPart o)] _ := hM
      refine w_exu (x_stB #[(.int .i64 ((el o k181).kind)), (.int .i64 ((el o k181).n)), s193.v] sz77 rfl rfl rfl rfl rfl rfl hM ?_); intro w199 hM
      refine wl_nil ?_
      refine sq_n ?_
      refine wc_seq ?_
      refine wc_region ?_
      refine wv rfl (r_fld Try.underlying77 rfl rfl sz3 rfl) ?_
      refine wv rfl (r_ldB Try.underlying3 rfl rfl hM (.head _) rfl) ?_
      refine wl_nil ?_
      refine sq_n ?_
      refine wc_block ?_
      refine wc_seq ?_
      refine wc_region ?_
      refine wv rfl (r_eql rfl rfl) ?_
      refine wv rfl (r_assign rfl) ?_
      refine wl_nil ?_
      refine sq_n ?_
      refine wc_cond rfl (fun hc205 => ?_) (fun hc205 => ?_)
      · replace hx := xif_t hc205 hx
        refine wc_seq ?_
        refine wc_region ?_
        refine wv rfl (r_move rfl) ?_
        refine wv rfl (r_move rfl) ?_
        refine wv rfl (r_move rfl) ?_
        refine wv rfl (r_move rfl) ?_
        refine wv rfl (r_fld Try.underlying77 rfl rfl sz3 rfl) ?_
        refine wv rfl (r_ldB Try.underlying3 rfl rfl hM (.head _) rfl) ?_
        obtain ⟨hg213, hx⟩ := xg_some hx
        refine wv rfl (r_add rfl rfl hg213) ?_
        obtain ⟨hg215, hx⟩ := xg_some hx
        have hM := hM.cutR (L := t) (f := fI) (lo := at177.toNat) (hi := ((at177 + ((el o k181).n)).toNat)) (fun _ => rfl) (by omega) (by omega) (.tail _ (.head _))
        refine wv rfl (r_slc Try.underlying26 sz3 rfl rfl rfl (hM.seeR (.tail _ (.tail _ (.head _)))) hg215) ?_
        replace hM := hM.p1
        obtain ⟨hg218, hx⟩ := xg_some hx
        refine w_ex rfl (x_append Try.underlying26 sz3 rfl rfl (hM.seeR (.head _)) flI hM hg218 rfl ?_); intro s217 w216 hM
        refine wv rfl (r_assign rfl) ?_
        refine wl_nil ?_
        refine sq_n ?_
        refine wc_region ?_
        refine wv rfl (r_move rfl) ?_
        refine wv rfl (r_fld Try.underlying77 rfl rfl sz3 rfl) ?_
        refine wv rfl (r_ldB Try.underlying3 rfl rfl hM (.tail _ (.head _)) rfl) ?_
        obtain ⟨hg225, hx⟩ := xg_some hx
        refine wv rfl (r_add rfl rfl hg225) ?_
        refine wv rfl (r_assign rfl) ?_
        refine wl_nil ?_
        refine bk_n ?_
        refine bk_n ?_
        refine sq_n ?_
        refine wc_region ?_
        refine wv rfl (r_add rfl rfl ⟨by omega, by omega⟩) ?_
        refine wv rfl (r_move rfl) ?_
        refine wl_nil ?_
        obtain rfl := Option.some.inj hx
        replace hM := hM.t1
        have hM := hM.fewer (rsC (.tail _ (.tail _ (.head _))) (rsC (.tail _ (.tail _ (.tail _ (.head _)))) rsN))
        replace hM : St ⟨w, X, S⟩ [oC (cSl 1 fI (out176 ++ ((t.take ((at177 + ((el o k181).n)).toNat)).drop at177.toNat))) s217.v] [rV s_t.v (cSl 1 fI t), rV s_o.v (cSl 3 fDPart o)] _ := hM
        exact lp_end (m187, k181 + 1, out176 ++ ((t.take ((at177 + ((el o k181).n)).toNat)).drop at177.toNat), at177 + ((el o k181).n), s217) (Nat.lt_succ_self _) ⟨rfl, rfl, rfl, rfl, rfl, rfl, trivial⟩ ⟨hM, hx189, hk182⟩
      · replace hx := xif_f hc205 hx
        refine wc_seq ?_
        refine wc_region ?_
        refine wv rfl (r_eql rfl rfl) ?_
        refine wv rfl (r_assign rfl) ?_
        refine wl_nil ?_
        refine sq_n ?_
        refine wc_cond rfl (fun hc231 => ?_) (fun hc231 => ?_)
        · replace hx := xif_t hc231 hx
          refine wc_region ?_
          refine wv rfl (r_move rfl) ?_
          refine wv rfl (r_fld Try.underlying77 rfl rfl sz26 rfl) ?_
          refine wv rfl (r_ldB Try.underlying26 rfl rfl hM (.head _) rfl) ?_
          replace hM := hM.p1
          obtain ⟨hg237, hx⟩ := xg_some hx
          refine w_ex rfl (x_append Try.underlying26 sz3 rfl rfl (hM.seeR (.head _)) flI hM hg237 rfl ?_); intro s236 w235 hM
          refine wv rfl (r_assign rfl) ?_
          refine wl_nil ?_
          refine bk_n ?_
          refine bk_n ?_
          refine sq_n ?_
          refine wc_region ?_
          refine wv rfl (r_add rfl rfl ⟨by omega, by omega⟩) ?_
          refine wv rfl (r_move rfl) ?_
          refine wl_nil ?_
          obtain rfl := Option.some.inj hx
          replace hM := hM.t1
          have hM := hM.fewer (rsC (.tail _ (.head _)) (rsC (.tail _ (.tail _ (.head _))) rsN))
          replace hM : St ⟨w, X, S⟩ [oC (cSl 1 fI (out176 ++ ((el o k181).signs))) s236.v] [rV s_t.v (cSl 1 fI t), rV s_o.v (cSl 3 fDPart o)] _ := hM
          exact lp_end (m187, k181 + 1, out176 ++ ((el o k181).signs), at177, s236) (Nat.lt_succ_self _) ⟨rfl, rfl, rfl, rfl, rfl, rfl, trivial⟩ ⟨hM, hx189, hk182⟩
        · replace hx := xif_f hc231 hx
          refine wc_region ?_
          refine wv rfl (r_move rfl) ?_
          refine wv rfl (r_fld Try.underlying77 rfl rfl sz3 rfl) ?_
          refine wv rfl (r_ldB Try.underlying3 rfl rfl hM (.head _) rfl) ?_
          obtain ⟨hg246, hx⟩ := xg_some hx
          refine wv rfl (r_add rfl rfl hg246) ?_
          refine wv rfl (r_assign rfl) ?_
          refine wl_nil ?_
          refine bk_n ?_
          refine bk_n ?_
          refine sq_n ?_
          refine wc_region ?_
          refine wv rfl (r_add rfl rfl ⟨by omega, by omega⟩) ?_
          refine wv rfl (r_move rfl) ?_
          refine wl_nil ?_
          obtain rfl := Option.some.inj hx
          replace hM := hM.p1
          replace hM := hM.t1
          have hM := hM.fewer (rsC (.tail _ (.head _)) (rsC (.tail _ (.tail _ (.head _))) rsN))
          replace hM : St ⟨w, X, S⟩ [oC (cSl 1 fI out176) s179.v] [rV s_t.v (cSl 1 fI t), rV s_o.v (cSl 3 fDPart o)] _ := hM
          exact lp_end (m187, k181 + 1, out176, at177 + ((el o k181).n), s179) (Nat.lt_succ_self _) ⟨rfl, rfl, rfl, rfl, rfl, rfl, trivial⟩ ⟨hM, hx189, hk182⟩
    · replace hc186 := of_decide_eq_false hc186
      obtain rfl := eachN_end hx hk182 hc186
      refine wc_exit ?_
      refine sq_exit ?_
      refine lp1_exit ?_
      replace hx := hx175
      try dsimp only [Sum.elim_inl, Sum.elim_inr] at hx
      refine bk_here ?_
      refine sq_n ?_
      refine wc_seq ?_
      refine wc_region ?_
      refine wv rfl (r_move rfl) ?_
      refine wv rfl (r_assign rfl) ?_
      refine wv rfl (r_assign rfl) ?_
      refine wl_nil ?_
      refine sq_n ?_
      refine wc_ret ?_
      obtain rfl := Option.some.inj hx
      refine fin_ret [s179.v, (.bool true)] ⟨rfl, rfl, trivial⟩ ?_
      replace hM := hM.t1
      have hM := hM.fewer rsN
      exact ⟨s179, rfl, hM.gives⟩

noncomputable def x_impl_Invert_b0 (t : List Int) (k103 : Nat) (out104 : List DPart) (at105 : Int) (l106 : List DPart) : Option (Lr (List DPart × Int × List DPart) (List DPart)) :=
  xg (0 ≤ (k103 : Int) ∧ (k103 : Int) < (l106.length : Int)) <| bif decide (((el l106 k103).kind) = 1) then (xg (out104.length < 1099511627776) <| xg (inI (at105 + ((el l106 k103).n))) <| some (Lr.go (out104 ++ [el l106 k103], at105 + ((el l106 k103).n), l106))) else (bif decide (((el l106 k103).kind) = 3) then (xg (inI (at105 + ((el l106 k103).n))) <| xg (0 ≤ at105 ∧ at105 ≤ (at105 + ((el l106 k103).n)) ∧ (at105 + ((el l106 k103).n)) ≤ (t.length : Int)) <| xg (out104.length < 1099511627776) <| xg (inI (at105 + ((el l106 k103).n))) <| some (Lr.go (out104 ++ [(⟨2, 0, (t.take ((at105 + ((el l106 k103).n)).toNat)).drop at105.toNat⟩ : DPart)], at105 + ((el l106 k103).n), l106))) else (xg (out104.length < 1099511627776) <| some (Lr.go (out104 ++ [(⟨3, (((el l106 k103).signs).length : Int), []⟩ : DPart)], at105, l106))))
noncomputable def x_impl_Invert_f0 (t : List Int) (k103 : Nat) (s258 : List DPart × Int × List DPart) : Option (Lr (List DPart × Int × List DPart) (List DPart)) := x_impl_Invert_b0 t k103 s258.1 s258.2.1 s258.2.2
noncomputable def x_impl_Invert (o : List DPart) (t : List Int) : Option (List DPart × Bool) :=
  Option.bind (x_impl_Apply o t) fun r5 => bif !r5.2 then (some ([], false)) else (Option.bind (x_impl_OpNorm o) fun r22 => Option.bind (eachN (x_impl_Invert_f0 t) (fun (s258 : List DPart × Int × List DPart) => (s258.1 : List DPart)) r22.length 0 ([], 0, r22)) fun (y259 : List DPart) => Option.bind (x_impl_OpNorm y259) fun r264 => some (r264, true))
theorem ct_impl_Invert (w : World) (X S : Bs) (o : List DPart) (s_o : Sv) (t : List Int) (s_t : Sv) (hS : ∀ b, S b → b < w.heap.size ∧ ¬ X b) (a_o_0 : (cSl 3 fDPart o).rd S w s_o.v) (a_t_0 : (cSl 1 fI t).rd S w s_t.v) (oL : Sep [] X w) {r : List DPart × Bool} (hx : x_impl_Invert o t = some r) :
    Ret Try.prog 20 [s_o.v, s_t.v] w (fun u w' => ∃ y : Sv, u = .tuple #[y.v, (.bool r.2)] ∧ Gives X S w [oC (cSl 3 fDPart r.1) y.v] [] w') := by
  unfold x_impl_Invert at hx
  refine enter Try.func20 rfl Try.ntmps20 (by kernel_rfl) rfl ?_
  have hM := St.enter oL hS
  have hM := hM.addE (r := rV s_o.v (cSl 3 fDPart o)) a_o_0
  have hM := hM.addE (r := rV s_t.v (cSl 1 fI t)) a_t_0
  refine wc_seq ?_
  refine wc_region ?_
  refine wv rfl (r_assign rfl) ?_
  refine wv rfl (r_assign rfl) ?_
  refine wl_nil ?_
  refine sq_n ?_
  refine wc_seq ?_
  refine wc_seq ?_
  refine wc_region ?_
  refine wv rfl (r_move rfl) ?_
  refine wv rfl (r_move rfl) ?_
  obtain ⟨r275, h276, hx⟩ := bind_some' hx
  refine w_call rfl rfl (hM.callO (l := []) fun X S oL hS hR hO => ct_impl_Apply _ X S o s_o t s_t hS (hR _ (.tail _ (.head _))) (hR _ (.head _)) oL h276) ?_
  rintro _ w277 ⟨s278, rfl, hM⟩
  replace hM : St ⟨w, X, S⟩ [oC (cSl 1 fI r275.1) s278.v] [rV s_t.v (cSl 1 fI t), rV s_o.v (cSl 3 fDPart o)] _ := hM
  refine wv rfl (r_move rfl) ?_
  refine wv rfl (r_extract rfl rfl) ?_
  refine wv rfl (r_extract rfl rfl) ?_
  refine wv rfl (r_assign rfl) ?_
  refine wv rfl (r_assign rfl) ?_
  refine wl_nil ?_
  refine sq_n ?_
  refine wc_seq ?_
  refine wc_region ?_
  refine wv rfl (r_move rfl) ?_
  refine wv rfl (r_not rfl) ?_
  refine wl_nil ?_
  refine sq_n ?_
  refine wc_cond rfl (fun hc287 => ?_) (fun hc287 => ?_)
  · replace hx := xif_t hc287 hx
    refine wc_seq ?_
    refine wc_region ?_
    refine wv rfl (r_assign rfl) ?_
    refine wv rfl (r_assign rfl) ?_
    refine wl_nil ?_
    refine sq_n ?_
    refine wc_ret ?_
    refine sq_ret ?_
    obtain rfl := Option.some.inj hx
    have hM := hM.nil0 (T := DPart) 3 fDPart
    refine fin_ret [nS.v, (.bool false)] ⟨rfl, rfl, trivial⟩ ?_
    replace hM := hM.t1
    have hM := hM.fewer rsN
    exact ⟨nS, rfl, hM.gives⟩
  · replace hx := xif_f hc287 hx
    refine wc_skip ?_
    refine sq_n ?_
    refine wc_seq ?_
    refine wc_region ?_
    refine wv rfl (r_assign rfl) ?_
    refine wl_nil ?_
    refine sq_n ?_
    refine wc_seq ?_
    refine wc_region ?_
    refine wv rfl (r_assign rfl) ?_
    refine wl_nil ?_
    refine sq_n ?_
    refine wc_seq ?_
    refine wc_seq ?_
    refine wc_region ?_
    refine wv rfl (r_move rfl) ?_
    obtain ⟨r294, h295, hx⟩ := bind_some' hx
    refine w_call rfl rfl (hM.callO (l := []) fun X S oL hS hR hO => ct_impl_OpNorm _ X S o s_o hS (hR _ (.tail _ (.head _))) oL h295) ?_
    rintro _ w296 ⟨s297, rfl, hM⟩
    replace hM : St ⟨w, X, S⟩ [oC (cSl 3 fDPart r294) s297.v, oC (cSl 1 fI r275.1) s278.v] [rV s_t.v (cSl 1 fI t), rV s_o.v (cSl 3 fDPart o)] _ := hM
    refine wv rfl (r_lenC Try.underlying29 rfl (hM.seeO (.head _))) ?_
    refine wv rfl (r_move rfl) ?_
    refine wl_nil ?_
    refine sq_n ?_
    refine wc_block ?_
    obtain ⟨y301, hx, hx302⟩ := bind_some' hx
    have hM := hM.nilS0 (T := DPart) 3 fDPart
    replace hM := hM.p1
    have hM := hM.selO
    replace hM := hM.t1
    have hM := hM.fewer (rsC (.tail _ (.head _)) (rsC (.head _) (rsC (.tail _ (.tail _ (.head _))) rsN)))
    replace hM : St ⟨w, X, S⟩ [oRow 3 nS.v ([] : List DPart).length ([] : List Value)] [rX ([] : List Value) (([] : List DPart).flatMap fDPart), rV s297.v (cSl 3 fDPart r294), rV s_t.v (cSl 1 fI t)] _ := hM
    have hl314 := Cs.le (hM.seeR (.tail _ (.head _)))
    refine wc_loop (un fun (m311 : Nat) => un fun (k312 : Nat) => un fun (out304 : List DPart) => un fun (at305 : Int) => un fun (l306 : List DPart) => un fun (s308 : Sv) => un fun (xs309 : List Value) => fun (s310 : Sv) => [(1, s_t.v), (8, s308.v), (9, (.int .i64 at305)), (21, s310.v), (22, (.int .i64 (r294.length : Int))), (23, (.int .i64 (k312 : Int)))]) (un fun (m311 : Nat) => un fun (k312 : Nat) => un fun (out304 : List DPart) => un fun (at305 : Int) => un fun (l306 : List DPart) => un fun (s308 : Sv) => un fun (xs309 : List Value) => fun (s310 : Sv) w' => St ⟨w, X, S⟩ [oRow 3 s308.v out304.length xs309] [rX xs309 (out304.flatMap fDPart), rV s310.v (cSl 3 fDPart l306), rV s_t.v (cSl 1 fI t)] w' ∧ eachN _ _ m311 k312 (out304, at305, l306) = some y301 ∧ k312 + m311 = r294.length) (fun p => p.1) (r294.length, 0, [], 0, r294, nS, ([] : List Value), s297) ⟨rfl, rfl, rfl, rfl, rfl, rfl, trivial⟩ ⟨hM, hx, Nat.zero_add _⟩ ?_
    rintro ⟨m311, k312, out304, at305, l306, s308, xs309, s310⟩ w315 ⟨hM, hx, hk313⟩
    refine wc_seq ?_
    refine wc_region ?_
    refine wv rfl (r_lss rfl rfl) ?_
    refine wl_nil ?_
    refine sq_n ?_
    refine wc_seq ?_
    refine wc_cond rfl (fun hc317 => ?_) (fun hc317 => ?_)
    · replace hc317 := of_decide_eq_true hc317
      obtain ⟨m318, z319, rfl, hk313, hx, hx320⟩ := eachN_step hx hk313 hc317
      unfold x_impl_Invert_f0 x_impl_Invert_b0 at hx
      try dsimp only at hx
      refine wc_skip ?_
      refine sq_n ?_
      refine wc_seq ?_
      refine wc_block ?_
      refine wc_seq ?_
      refine wc_region ?_
      obtain ⟨hg323, hx⟩ := xg_some hx
      have hi322 : k312 < l306.length := by omega
      refine wv rfl (r_ixC Try.underlying29 sz77 rfl rfl (hM.seeR (.tail _ (.head _))) hg323) ?_
      obtain ⟨s325, hM, hc326⟩ := hM.leaf (i := k312) (j := 2) (.tail _ (.head _)) (fun _ => rfl) hi322 rfl
      refine wv rfl (r_ldC (o := k312 * 3) Try.underlying77 sz77 rfl (us := [(.int .i64 ((el l306 k312).kind)), (.int .i64 ((el l306 k312).n)), s325.v]) rfl (hM.seeR (.tail _ (.tail _ (.head _)))) hi322 ⟨(Cs.get (i := k312) (j := 0) (hM.seeR (.tail _ (.tail _ (.head _)))) (fun _ => rfl) hi322 rfl), (Cs.get (i := k312) (j := 1) (hM.seeR (.tail _ (.tail _ (.head _)))) (fun _ => rfl) hi322 rfl), (hc326 _ (Rel.refl _)), trivial⟩) ?_
      refine w_ex rfl (x_alloc sz77 hM ?_); intro b328 w327 hR329 hM
      replace hM : St ⟨w, X, S⟩ [oBox b328 #[(.int .i64 0), (.int .i64 0), (.slice none 0 0)] 77, oRow 3 s308.v out304.length xs309] [rV s325.v (cSl 1 fI ((el l306 k312).signs)), rX xs309 (out304.flatMap fDPart), rV s310.v (cSl 3 fDPart l306), rV s_t.v (cSl 1 fI t)] _ := hM
      refine w_exu (x_stB #[(.int .i64 ((el l306 k312).kind)), (.int .i64 ((el l306 k312).n)), s325.v] sz77 rfl rfl rfl rfl rfl rfl hM ?_); intro w331 hM
      refine wl_nil ?_
      refine sq_n ?_
      refine wc_seq ?_
      refine wc_region ?_
      refine wv rfl (r_fld Try.underlying77 rfl rfl sz3 rfl) ?_
      refine wv rfl (r_ldB Try.underlying3 rfl rfl hM (.head _) rfl) ?_
      refine wl_nil ?_
      refine sq_n ?_
      refine wc_block ?_
      refine wc_seq ?_
      refine wc_region ?_
      refine wv rfl (r_eql rfl rfl) ?_
      refine wv rfl (r_assign rfl) ?_
      refine wl_nil ?_
      refine sq_n ?_
      refine wc_cond rfl (fun hc337 => ?_) (fun hc337 => ?_)
      · replace hx := xif_t hc337 hx
        refine wc_seq ?_
        refine wc_region ?_
        refine wv rfl (r_move rfl) ?_
        refine wv rfl (r_ldBS Try.underlying77 sz77 rfl (us := [(.int .i64 ((el l306 k312).kind)), (.int .i64 ((el l306 k312).n)), s325.v]) rfl hM (.head _) rfl) ?_
        replace hM := hM.p1
        obtain ⟨hg343, hx⟩ := xg_some hx
        refine w_pushS (f := fDPart) (L := out304) (el l306 k312) rfl rfl Try.underlying29 sz77 rfl rfl rfl (fun _ => rfl) hM (.tail _ (.head _)) (fun S w hR => ⟨_, _, rfl, rfl, ⟨_, _, rfl, rfl, ⟨_, _, rfl, hR _ (.head _), rfl⟩⟩⟩) rfl hg343 rfl ?_; intro u341 s342 xs344 w340 hM
        refine wv rfl (r_assign rfl) ?_
        refine wl_nil ?_
        refine sq_n ?_
        refine wc_region ?_
        refine wv rfl (r_move rfl) ?_
        refine wv rfl (r_fld Try.underlying77 rfl rfl sz3 rfl) ?_
        refine wv rfl (r_ldB Try.underlying3 rfl rfl hM (.tail _ (.head _)) rfl) ?_
        obtain ⟨hg350, hx⟩ := xg_some hx
        refine wv rfl (r_add rfl rfl hg350) ?_
        refine wv rfl (r_assign rfl) ?_
        refine wl_nil ?_
        refine bk_n ?_
        refine bk_n ?_
        refine sq_n ?_
        refine wc_region ?_
        refine wv rfl (r_add rfl rfl ⟨by omega, by omega⟩) ?_
        refine wv rfl (r_move rfl) ?_
        refine wl_nil ?_
        obtain rfl := Option.some.inj hx
        replace hM := hM.t1
        have hM := hM.fewer (rsC (.head _) (rsC (.tail _ (.tail _ (.tail _ (.head _)))) (rsC (.tail _ (.tail _ (.tail _ (.tail _ (.head _))))) rsN)))
        replace hM : St ⟨w, X, S⟩ [oRow 3 s342.v (out304 ++ [el l306 k312]).length xs344] [rX xs344 ((out304 ++ [el l306 k312]).flatMap fDPart), rV s310.v (cSl 3 fDPart l306), rV s_t.v (cSl 1 fI t)] _ := hM
        exact lp_end (m318, k312 + 1, out304 ++ [el l306 k312], at305 + ((el l306 k312).n), l306, s342, xs344, s310) (Nat.lt_succ_self _) ⟨rfl, rfl, rfl, rfl, rfl, rfl, trivial⟩ ⟨hM, hx320, hk313⟩
      · replace hx := xif_f hc337 hx
        refine wc_seq ?_
        refine wc_region ?_
        refine wv rfl (r_eql rfl rfl) ?_
        refine wv rfl (r_assign rfl) ?_
        refine wl_nil ?_
        refine sq_n ?_
        refine wc_cond rfl (fun hc356 => ?_) (fun hc356 => ?_)
        · replace hx := xif_t hc356 hx
          refine wc_seq ?_
          refine wc_region ?_
          refine wv rfl (r_move rfl) ?_
          refine wv rfl (r_move rfl) ?_
          refine wv rfl (r_move rfl) ?_
          refine wv rfl (r_move rfl) ?_
          refine wv rfl (r_fld Try.underlying77 rfl rfl sz3 rfl) ?_
          refine wv rfl (r_ldB Try.underlying3 rfl rfl hM (.head _) rfl) ?_
          obtain ⟨hg364, hx⟩ := xg_some hx
          refine wv rfl (r_add rfl rfl hg364) ?_
          obtain ⟨hg366, hx⟩ := xg_some hx
          have hM := hM.cutR (L := t) (f := fI) (lo := at305.toNat) (hi := ((at305 + ((el l306 k312).n)).toNat)) (fun _ => rfl) (by omega) (by omega) (.tail _ (.tail _ (.tail _ (.head _))))
          refine wv rfl (r_slc Try.underlying26 sz3 rfl rfl rfl (hM.seeR (.tail _ (.tail _ (.tail _ (.tail _ (.head _)))))) hg366) ?_
          refine wv rfl (r_build (cells := #[(.int .i64 2), (.int .i64 0), (s_t.cut 1 at305.toNat ((at305 + ((el l306 k312).n)).toNat)).v]) rfl (by kernel_rfl)) ?_
          replace hM := hM.p1
          obtain ⟨hg371, hx⟩ := xg_some hx
          refine w_pushS (f := fDPart) (L := out304) (⟨2, 0, (t.take ((at305 + ((el l306 k312).n)).toNat)).drop at305.toNat⟩ : DPart) rfl rfl Try.underlying29 sz77 rfl rfl rfl (fun _ => rfl) hM (.tail _ (.tail _ (.head _))) (fun S w hR => ⟨_, _, rfl, rfl, ⟨_, _, rfl, rfl, ⟨_, _, rfl, hR _ (.head _), rfl⟩⟩⟩) rfl hg371 rfl ?_; intro u369 s370 xs372 w368 hM
          refine wv rfl (r_assign rfl) ?_
          refine wl_nil ?_
          refine sq_n ?_
          refine wc_region ?_
          refine wv rfl (r_move rfl) ?_
          refine wv rfl (r_fld Try.underlying77 rfl rfl sz3 rfl) ?_
          refine wv rfl (r_ldB Try.underlying3 rfl rfl hM (.tail _ (.head _)) rfl) ?_
          obtain ⟨hg378, hx⟩ := xg_some hx
          refine wv rfl (r_add rfl rfl hg378) ?_
          refine wv rfl (r_assign rfl) ?_
          refine wl_nil ?_
          refine bk_n ?_
          refine bk_n ?_
          refine sq_n ?_
          refine wc_region ?_
          refine wv rfl (r_add rfl rfl ⟨by omega, by omega⟩) ?_
          refine wv rfl (r_move rfl) ?_
          refine wl_nil ?_
          obtain rfl := Option.some.inj hx
          replace hM := hM.t1
          have hM := hM.fewer (rsC (.head _) (rsC (.tail _ (.tail _ (.tail _ (.tail _ (.head _))))) (rsC (.tail _ (.tail _ (.tail _ (.tail _ (.tail _ (.head _)))))) rsN)))
          replace hM : St ⟨w, X, S⟩ [oRow 3 s370.v (out304 ++ [(⟨2, 0, (t.take ((at305 + ((el l306 k312).n)).toNat)).drop at305.toNat⟩ : DPart)]).length xs372] [rX xs372 ((out304 ++ [(⟨2, 0, (t.take ((at305 + ((el l306 k312).n)).toNat)).drop at305.toNat⟩ : DPart)]).flatMap fDPart), rV s310.v (cSl 3 fDPart l306), rV s_t.v (cSl 1 fI t)] _ := hM
          exact lp_end (m318, k312 + 1, out304 ++ [(⟨2, 0, (t.take ((at305 + ((el l306 k312).n)).toNat)).drop at305.toNat⟩ : DPart)], at305 + ((el l306 k312).n), l306, s370, xs372, s310) (Nat.lt_succ_self _) ⟨rfl, rfl, rfl, rfl, rfl, rfl, trivial⟩ ⟨hM, hx320, hk313⟩
        · replace hx := xif_f hc356 hx
          refine wc_region ?_
          refine wv rfl (r_move rfl) ?_
          refine wv rfl (r_fld Try.underlying77 rfl rfl sz26 rfl) ?_
          refine wv rfl (r_ldB Try.underlying26 rfl rfl hM (.head _) rfl) ?_
          refine wv rfl (r_lenC Try.underlying26 rfl (hM.seeR (.head _))) ?_
          refine wv rfl (r_build (cells := #[(.int .i64 3), (.int .i64 (((el l306 k312).signs).length : Int)), (.slice none 0 0)]) rfl (by kernel_rfl)) ?_
          replace hM := hM.p1
          obtain ⟨hg390, hx⟩ := xg_some hx
          refine w_pushS (f := fDPart) (L := out304) (⟨3, (((el l306 k312).signs).length : Int), []⟩ : DPart) rfl rfl Try.underlying29 sz77 rfl rfl rfl (fun _ => rfl) hM (.tail _ (.head _)) (fun S w hR => ⟨_, _, rfl, rfl, ⟨_, _, rfl, rfl, ⟨_, _, rfl, rd_nil _ _, rfl⟩⟩⟩) rfl hg390 rfl ?_; intro u388 s389 xs391 w387 hM
          refine wv rfl (r_assign rfl) ?_
          refine wl_nil ?_
          refine bk_n ?_
          refine bk_n ?_
          refine sq_n ?_
          refine wc_region ?_
          refine wv rfl (r_add rfl rfl ⟨by omega, by omega⟩) ?_
          refine wv rfl (r_move rfl) ?_
          refine wl_nil ?_
          obtain rfl := Option.some.inj hx
          replace hM := hM.t1
          have hM := hM.fewer (rsC (.head _) (rsC (.tail _ (.tail _ (.tail _ (.head _)))) (rsC (.tail _ (.tail _ (.tail _ (.tail _ (.head _))))) rsN)))
          replace hM : St ⟨w, X, S⟩ [oRow 3 s389.v (out304 ++ [(⟨3, (((el l306 k312).signs).length : Int), []⟩ : DPart)]).length xs391] [rX xs391 ((out304 ++ [(⟨3, (((el l306 k312).signs).length : Int), []⟩ : DPart)]).flatMap fDPart), rV s310.v (cSl 3 fDPart l306), rV s_t.v (cSl 1 fI t)] _ := hM
          exact lp_end (m318, k312 + 1, out304 ++ [(⟨3, (((el l306 k312).signs).length : Int), []⟩ : DPart)], at305, l306, s389, xs391, s310) (Nat.lt_succ_self _) ⟨rfl, rfl, rfl, rfl, rfl, rfl, trivial⟩ ⟨hM, hx320, hk313⟩
    · replace hc317 := of_decide_eq_false hc317
      obtain rfl := eachN_end hx hk313 hc317
      refine wc_exit ?_
      refine sq_exit ?_
      refine lp1_exit ?_
      replace hx := hx302
      try dsimp only [Sum.elim_inl, Sum.elim_inr] at hx
      refine bk_here ?_
      refine sq_n ?_
      refine wc_seq ?_
      refine wc_region ?_
      refine wv rfl (r_move rfl) ?_
      have hM := hM.sealS (fun _ => rfl) (.head _)
      obtain ⟨r396, h397, hx⟩ := bind_some' hx
      refine w_call rfl rfl (hM.callO (l := []) fun X S oL hS hR hO => ct_impl_OpNorm _ X S out304 s308 hS (hR _ (.head _)) oL h397) ?_
      rintro _ w398 ⟨s399, rfl, hM⟩
      replace hM : St ⟨w, X, S⟩ [oC (cSl 3 fDPart r396) s399.v] [rV s308.v (cSl 3 fDPart out304), rX xs309 (out304.flatMap fDPart), rV s310.v (cSl 3 fDPart l306), rV s_t.v (cSl 1 fI t)] _ := hM
      refine wv rfl (r_assign rfl) ?_
      refine wv rfl (r_assign rfl) ?_
      refine wl_nil ?_
      refine sq_n ?_
      refine wc_ret ?_
      obtain rfl := Option.some.inj hx
      refine fin_ret [s399.v, (.bool true)] ⟨rfl, rfl, trivial⟩ ?_
      replace hM := hM.t1
      have hM := hM.fewer rsN
      exact ⟨s399, rfl, hM.gives⟩

noncomputable def x_spec_Invert_b0 (t : List Int) (_r20 : List DPart) (_k105 : Nat) (x250 : DPart) (at106 : Int) (l107 : List DPart) (l108 : List Int) (n109 : Int) : Option (Lr (Int × List DPart × List Int × Int) (List DPart × List Int × Int)) :=
  bif decide ((x250.kind) = 1) then (Option.bind (x_spec_l02Keep (⟨l107, l108, n109⟩ : DL02B) (x250.n)) fun r201 => xg (inI (at106 + (x250.n))) <| some (Lr.go (at106 + (x250.n), r201.list, r201.put, r201.drop))) else (bif decide ((x250.kind) = 2) then (Option.bind (x_spec_l02Drop (⟨l107, l108, n109⟩ : DL02B) ((x250.signs).length : Int)) fun r220 => some (Lr.go (at106, r220.list, r220.put, r220.drop))) else (xg (inI (at106 + (x250.n))) <| xg (0 ≤ at106 ∧ at106 ≤ (at106 + (x250.n)) ∧ (at106 + (x250.n)) ≤ (t.length : Int)) <| Option.bind (x_spec_l02Put (⟨l107, l108, n109⟩ : DL02B) ((t.take ((at106 + (x250.n)).toNat)).drop at106.toNat)) fun r237 => xg (inI (at106 + (x250.n))) <| some (Lr.go (at106 + (x250.n), r237.list, r237.put, r237.drop))))
noncomputable def x_spec_Invert_f0 (t : List Int) (r20 : List DPart) (k105 : Nat) (s251 : Int × List DPart × List Int × Int) : Option (Lr (Int × List DPart × List Int × Int) (List DPart × List Int × Int)) := x_spec_Invert_b0 t r20 k105 (el r20 k105) s251.1 s251.2.1 s251.2.2.1 s251.2.2.2
noncomputable def x_spec_Invert (o : List DPart) (t : List Int) : Option (List DPart × Bool) :=
  Option.bind (x_spec_l03Fits o t) fun r5 => bif !r5 then (some ([], false)) else (Option.bind (x_spec_OpNorm o) fun r20 => Option.bind (eachN (x_spec_Invert_f0 t r20) (fun (s251 : Int × List DPart × List Int × Int) => ((s251.2.1, s251.2.2.1, s251.2.2.2) : List DPart × List Int × Int)) r20.length 0 (0, [], [], 0)) fun (y252 : List DPart × List Int × Int) => Option.bind (x_spec_l02Done (⟨y252.1, y252.2.1, y252.2.2⟩ : DL02B)) fun r258 => some (r258.1, true))
theorem ct_spec_Invert (w : World) (X S : Bs) (o : List DPart) (s_o : Sv) (t : List Int) (s_t : Sv) (hS : ∀ b, S b → b < w.heap.size ∧ ¬ X b) (a_o_0 : (cSl 3 fDPart o).rd S w s_o.v) (a_t_0 : (cSl 1 fI t).rd S w s_t.v) (oL : Sep [] X w) {r : List DPart × Bool} (hx : x_spec_Invert o t = some r) :
    Ret Try.prog 118 [s_o.v, s_t.v] w (fun u w' => ∃ y : Sv, u = .tuple #[y.v, (.bool r.2)] ∧ Gives X S w [oC (cSl 3 fDPart r.1) y.v] [] w') := by
  unfold x_spec_Invert at hx
  refine enter Try.func118 rfl Try.ntmps118 (by kernel_rfl) rfl ?_
  have hM := St.enter oL hS
  have hM := hM.addE (r := rV s_o.v (cSl 3 fDPart o)) a_o_0
  have hM := hM.addE (r := rV s_t.v (cSl 1 fI t)) a_t_0
  refine wc_seq ?_
  refine wc_region ?_
  refine wv rfl (r_assign rfl) ?_
  refine wv rfl (r_assign rfl) ?_
  refine wl_nil ?_
  refine sq_n ?_
  refine wc_seq ?_
  refine wc_seq ?_
  refine wc_region ?_
  refine wv rfl (r_move rfl) ?_
  refine wv rfl (r_move rfl) ?_
  obtain ⟨r271, h272, hx⟩ := bind_some' hx
  refine w_call rfl rfl (hM.callV fun X S oL hS hR hO => ct_spec_l03Fits _ X S o s_o t s_t hS (hR _ (.tail _ (.head _))) (hR _ (.head _)) oL h272) ?_
  rintro _ w273 ⟨rfl, hR274⟩
  have hM := hM.call hR274
  refine wv rfl (r_not rfl) ?_
  refine wl_nil ?_
  refine sq_n ?_
  refine wc_cond rfl (fun hc276 => ?_) (fun hc276 => ?_)
  · replace hx := xif_t hc276 hx
    refine wc_seq ?_
    refine wc_region ?_
    refine wv rfl (r_assign rfl) ?_
    refine wv rfl (r_assign rfl) ?_
    refine wl_nil ?_
    refine sq_n ?_
    refine wc_ret ?_
    refine sq_ret ?_
    obtain rfl := Option.some.inj hx
    have hM := hM.nil0 (T := DPart) 3 fDPart
    refine fin_ret [nS.v, (.bool false)] ⟨rfl, rfl, trivial⟩ ?_
    replace hM := hM.t1
    have hM := hM.fewer rsN
    exact ⟨nS, rfl, hM.gives⟩
  · replace hx := xif_f hc276 hx
    refine wc_skip ?_
    refine sq_n ?_
    refine wc_seq ?_
    refine wc_region ?_
    refine wv rfl (r_build (cells := #[(.slice none 0 0), (.slice none 0 0), (.int .i64 0)]) rfl (by kernel_rfl)) ?_
    refine w_ex rfl (x_box rfl hM ?_); intro b282 w281 hR283 hM
    replace hM : St ⟨w, X, S⟩ [oBox b282 #[(.slice none 0 0), (.slice none 0 0), (.int .i64 0)] 123] [rV s_t.v (cSl 1 fI t), rV s_o.v (cSl 3 fDPart o)] _ := hM
    refine wv rfl (r_assign rfl) ?_
    refine wl_nil ?_
    refine sq_n ?_
    refine wc_seq ?_
    refine wc_region ?_
    refine wv rfl (r_assign rfl) ?_
    refine wl_nil ?_
    refine sq_n ?_
    refine wc_seq ?_
    refine wc_seq ?_
    refine wc_region ?_
    refine wv rfl (r_move rfl) ?_
    obtain ⟨r288, h289, hx⟩ := bind_some' hx
    refine w_call rfl rfl (hM.callO (l := []) fun X S oL hS hR hO => ct_spec_OpNorm _ X S o s_o hS (hR _ (.tail _ (.head _))) oL h289) ?_
    rintro _ w290 ⟨s291, rfl, hM⟩
    replace hM : St ⟨w, X, S⟩ [oC (cSl 3 fDPart r288) s291.v, oBox b282 #[(.slice none 0 0), (.slice none 0 0), (.int .i64 0)] 123] [rV s_t.v (cSl 1 fI t), rV s_o.v (cSl 3 fDPart o)] _ := hM
    refine wv rfl (r_lenC Try.underlying29 rfl (hM.seeO (.head _))) ?_
    refine wv rfl (r_move rfl) ?_
    refine wl_nil ?_
    refine sq_n ?_
    refine wc_block ?_
    obtain ⟨y295, hx, hx296⟩ := bind_some' hx
    have hM := hM.nil0 (T := DPart) 3 fDPart
    have hM := hM.nil0 (T := Int) 1 fI
    replace hM := hM.p1.p2.p3
    have hM := hM.fewer (rsC (.head _) rsN)
    replace hM : St ⟨w, X, S⟩ [oBox b282 #[nS.v, nS.v, (.int .i64 0)] 123, oC (cSl 3 fDPart r288) s291.v, oC (cSl 3 fDPart ([] : List DPart)) nS.v, oC (cSl 1 fI ([] : List Int)) nS.v] [rV s_t.v (cSl 1 fI t)] _ := hM
    have hl310 := Cs.le (hM.seeO (.tail _ (.head _)))
    refine wc_loop (un fun (m307 : Nat) => un fun (k308 : Nat) => un fun (at299 : Int) => un fun (l300 : List DPart) => un fun (l301 : List Int) => un fun (n302 : Int) => un fun (s304 : Sv) => fun (s306 : Sv) => [(1, s_t.v), (6, (.pointer (some ⟨b282, 0, none⟩))), (7, (.int .i64 at299)), (17, s291.v), (18, (.int .i64 (r288.length : Int))), (19, (.int .i64 (k308 : Int)))]) (un fun (m307 : Nat) => un fun (k308 : Nat) => un fun (at299 : Int) => un fun (l300 : List DPart) => un fun (l301 : List Int) => un fun (n302 : Int) => un fun (s304 : Sv) => fun (s306 : Sv) w' => St ⟨w, X, S⟩ [oBox b282 #[s304.v, s306.v, (.int .i64 n302)] 123, oC (cSl 3 fDPart r288) s291.v, oC (cSl 3 fDPart l300) s304.v, oC (cSl 1 fI l301) s306.v] [rV s_t.v (cSl 1 fI t)] w' ∧ eachN _ _ m307 k308 (at299, l300, l301, n302) = some y295 ∧ k308 + m307 = r288.length) (fun p => p.1) (r288.length, 0, 0, [], [], 0, nS, nS) ⟨rfl, rfl, rfl, rfl, rfl, rfl, trivial⟩ ⟨hM, hx, Nat.zero_add _⟩ ?_
    rintro ⟨m307, k308, at299, l300, l301, n302, s304, s306⟩ w311 ⟨hM, hx, hk309⟩
    refine wc_seq ?_
    refine wc_region ?_
    refine wv rfl (r_lss rfl rfl) ?_
    refine wl_nil ?_
    refine sq_n ?_
    refine wc_seq ?_
    refine wc_cond rfl (fun hc313 => ?_) (fun hc313 => ?_)
    · replace hc313 := of_decide_eq_true hc313
      obtain ⟨m314, z315, rfl, hk309, hx, hx316⟩ := eachN_step hx hk309 hc313
      unfold x_spec_Invert_f0 x_spec_Invert_b0 at hx
      try dsimp only at hx
      refine wc_skip ?_
      refine sq_n ?_
      refine wc_seq ?_
      refine wc_block ?_
      refine wc_seq ?_
      refine wc_region ?_
      have hi318 : k308 < r288.length := by omega
      refine wv rfl (r_ixC Try.underlying29 sz77 rfl rfl (hM.seeO (.tail _ (.head _))) ⟨by omega, hc313⟩) ?_
      replace hM := hM.p1
      obtain ⟨s320, hM, hc321⟩ := hM.leafO (i := k308) (j := 2) (fun _ => rfl) hi318 rfl
      refine wv rfl (r_ldC (o := k308 * 3) Try.underlying77 sz77 rfl (us := [(.int .i64 ((el r288 k308).kind)), (.int .i64 ((el r288 k308).n)), s320.v]) rfl (hM.seeOV (.head _)) hi318 ⟨(Cs.get (i := k308) (j := 0) (hM.seeOV (.head _)) (fun _ => rfl) hi318 rfl), (Cs.get (i := k308) (j := 1) (hM.seeOV (.head _)) (fun _ => rfl) hi318 rfl), (hc321 _ (Rel.refl _)), trivial⟩) ?_
      refine w_ex rfl (x_alloc sz77 hM ?_); intro b323 w322 hR324 hM
      replace hM : St ⟨w, X, S⟩ [oBox b323 #[(.int .i64 0), (.int .i64 0), (.slice none 0 0)] 77, oV (oC (cSl 3 fDPart r288) s291.v) [vR s320.v (cSl 1 fI ((el r288 k308).signs)), vC (eaddr s291.v (k308 * 3 + 2)) s320.v], oBox b282 #[s304.v, s306.v, (.int .i64 n302)] 123, oC (cSl 3 fDPart l300) s304.v, oC (cSl 1 fI l301) s306.v] [rV s_t.v (cSl 1 fI t)] _ := hM
      refine w_exu (x_stB #[(.int .i64 ((el r288 k308).kind)), (.int .i64 ((el r288 k308).n)), s320.v] sz77 rfl rfl rfl rfl rfl rfl hM ?_); intro w326 hM
      refine wl_nil ?_
      refine sq_n ?_
      refine wc_seq ?_
      refine wc_region ?_
      refine wv rfl (r_fld Try.underlying77 rfl rfl sz3 rfl) ?_
      refine wv rfl (r_ldB Try.underlying3 rfl rfl hM (.head _) rfl) ?_
      refine wl_nil ?_
      refine sq_n ?_
      refine wc_block ?_
      refine wc_seq ?_
      refine wc_region ?_
      refine wv rfl (r_eql rfl rfl) ?_
      refine wv rfl (r_assign rfl) ?_
      refine wl_nil ?_
      refine sq_n ?_
      refine wc_cond rfl (fun hc332 => ?_) (fun hc332 => ?_)
      · replace hx := xif_t hc332 hx
        refine wc_seq ?_
        refine wc_region ?_
        refine wv rfl (r_move rfl) ?_
        refine wv rfl (r_fld Try.underlying77 rfl rfl sz3 rfl) ?_
        refine wv rfl (r_ldB Try.underlying3 rfl rfl hM (.head _) rfl) ?_
        replace hM := hM.p4.p4.p4
        obtain ⟨r336, h337, hx⟩ := bind_some' hx
        refine w_call rfl rfl (hM.callO (l := [oBox b282 #[s304.v, s306.v, (.int .i64 n302)] 123, oC (cSl 3 fDPart l300) s304.v, oC (cSl 1 fI l301) s306.v]) fun X S oL hS hR hO => ct_spec_l02Keep _ X S b282 (⟨l300, l301, n302⟩ : DL02B) s304 s306 ((el r288 k308).n) hS  oL h337) ?_
        rintro _ w338 ⟨⟨s339, s340⟩, rfl, hM⟩
        replace hM : St ⟨w, X, S⟩ [oBox b282 #[s339.v, s340.v, (.int .i64 r336.drop)] 123, oC (cSl 3 fDPart r336.list) s339.v, oC (cSl 1 fI r336.put) s340.v, oBox b323 #[(.int .i64 ((el r288 k308).kind)), (.int .i64 ((el r288 k308).n)), s320.v] 77, oV (oC (cSl 3 fDPart r288) s291.v) [vR s320.v (cSl 1 fI ((el r288 k308).signs)), vC (eaddr s291.v (k308 * 3 + 2)) s320.v]] [rV s_t.v (cSl 1 fI t)] _ := hM
        refine wl_nil ?_
        refine sq_n ?_
        refine wc_region ?_
        refine wv rfl (r_move rfl) ?_
        refine wv rfl (r_fld Try.underlying77 rfl rfl sz3 rfl) ?_
        refine wv rfl (r_ldB Try.underlying3 rfl rfl hM (.tail _ (.tail _ (.tail _ (.head _)))) rfl) ?_
        obtain ⟨hg345, hx⟩ := xg_some hx
        refine wv rfl (r_add rfl rfl hg345) ?_
        refine wv rfl (r_assign rfl) ?_
        refine wl_nil ?_
        refine bk_n ?_
        refine bk_n ?_
        refine sq_n ?_
        refine wc_region ?_
        refine wv rfl (r_add rfl rfl ⟨by omega, by omega⟩) ?_
        refine wv rfl (r_move rfl) ?_
        refine wl_nil ?_
        obtain rfl := Option.some.inj hx
        replace hM := hM.p4
        replace hM : St ⟨w, X, S⟩ [oC (cSl 3 fDPart r288) s291.v, oBox b282 #[s339.v, s340.v, (.int .i64 r336.drop)] 123, oC (cSl 3 fDPart r336.list) s339.v, oC (cSl 1 fI r336.put) s340.v, oBox b323 #[(.int .i64 ((el r288 k308).kind)), (.int .i64 ((el r288 k308).n)), s320.v] 77] [rV s_t.v (cSl 1 fI t)] _ := hM.unview
        replace hM := hM.p3.p3.p2.p3
        replace hM := hM.t4
        exact lp_end (m314, k308 + 1, at299 + ((el r288 k308).n), r336.list, r336.put, r336.drop, s339, s340) (Nat.lt_succ_self _) ⟨rfl, rfl, rfl, rfl, rfl, rfl, trivial⟩ ⟨hM, hx316, hk309⟩
      · replace hx := xif_f hc332 hx
        refine wc_seq ?_
        refine wc_region ?_
        refine wv rfl (r_eql rfl rfl) ?_
        refine wv rfl (r_assign rfl) ?_
        refine wl_nil ?_
        refine sq_n ?_
        refine wc_cond rfl (fun hc351 => ?_) (fun hc351 => ?_)
        · replace hx := xif_t hc351 hx
          refine wc_region ?_
          refine wv rfl (r_move rfl) ?_
          refine wv rfl (r_fld Try.underlying77 rfl rfl sz26 rfl) ?_
          refine wv rfl (r_ldB Try.underlying26 rfl rfl hM (.head _) rfl) ?_
          refine wv rfl (r_lenC Try.underlying26 rfl (hM.seeV (.tail _ (.head _)) (.head _))) ?_
          replace hM := hM.p4.p4.p4
          obtain ⟨r356, h357, hx⟩ := bind_some' hx
          refine w_call rfl rfl (hM.callO (l := [oBox b282 #[s304.v, s306.v, (.int .i64 n302)] 123, oC (cSl 3 fDPart l300) s304.v, oC (cSl 1 fI l301) s306.v]) fun X S oL hS hR hO => ct_spec_l02Drop _ X S b282 (⟨l300, l301, n302⟩ : DL02B) s304 s306 (((el r288 k308).signs).length : Int) hS  oL h357) ?_
          rintro _ w358 ⟨⟨s359, s360⟩, rfl, hM⟩
          replace hM : St ⟨w, X, S⟩ [oBox b282 #[s359.v, s360.v, (.int .i64 r356.drop)] 123, oC (cSl 3 fDPart r356.list) s359.v, oC (cSl 1 fI r356.put) s360.v, oBox b323 #[(.int .i64 ((el r288 k308).kind)), (.int .i64 ((el r288 k308).n)), s320.v] 77, oV (oC (cSl 3 fDPart r288) s291.v) [vR s320.v (cSl 1 fI ((el r288 k308).signs)), vC (eaddr s291.v (k308 * 3 + 2)) s320.v]] [rV s_t.v (cSl 1 fI t)] _ := hM
          refine wl_nil ?_
          refine bk_n ?_
          refine bk_n ?_
          refine sq_n ?_
          refine wc_region ?_
          refine wv rfl (r_add rfl rfl ⟨by omega, by omega⟩) ?_
          refine wv rfl (r_move rfl) ?_
          refine wl_nil ?_
          obtain rfl := Option.some.inj hx
          replace hM := hM.p4
          replace hM : St ⟨w, X, S⟩ [oC (cSl 3 fDPart r288) s291.v, oBox b282 #[s359.v, s360.v, (.int .i64 r356.drop)] 123, oC (cSl 3 fDPart r356.list) s359.v, oC (cSl 1 fI r356.put) s360.v, oBox b323 #[(.int .i64 ((el r288 k308).kind)), (.int .i64 ((el r288 k308).n)), s320.v] 77] [rV s_t.v (cSl 1 fI t)] _ := hM.unview
          replace hM := hM.p3.p3.p2.p3
          replace hM := hM.t4
          exact lp_end (m314, k308 + 1, at299, r356.list, r356.put, r356.drop, s359, s360) (Nat.lt_succ_self _) ⟨rfl, rfl, rfl, rfl, rfl, rfl, trivial⟩ ⟨hM, hx316, hk309⟩
        · replace hx := xif_f hc351 hx
          refine wc_seq ?_
          refine wc_region ?_
          refine wv rfl (r_move rfl) ?_
          refine wv rfl (r_move rfl) ?_
          refine wv rfl (r_move rfl) ?_
          refine wv rfl (r_move rfl) ?_
          refine wv rfl (r_fld Try.underlying77 rfl rfl sz3 rfl) ?_
          refine wv rfl (r_ldB Try.underlying3 rfl rfl hM (.head _) rfl) ?_
          obtain ⟨hg370, hx⟩ := xg_some hx
          refine wv rfl (r_add rfl rfl hg370) ?_
          obtain ⟨hg372, hx⟩ := xg_some hx
          have hM := hM.cutR (L := t) (f := fI) (lo := at299.toNat) (hi := ((at299 + ((el r288 k308).n)).toNat)) (fun _ => rfl) (by omega) (by omega) (.head _)
          refine wv rfl (r_slc Try.underlying26 sz3 rfl rfl rfl (hM.seeR (.tail _ (.head _))) hg372) ?_
          replace hM := hM.p4.p4.p4
          obtain ⟨r373, h374, hx⟩ := bind_some' hx
          refine w_call rfl rfl (hM.callO (l := [oBox b282 #[s304.v, s306.v, (.int .i64 n302)] 123, oC (cSl 3 fDPart l300) s304.v, oC (cSl 1 fI l301) s306.v]) fun X S oL hS hR hO => ct_spec_l02Put _ X S b282 (⟨l300, l301, n302⟩ : DL02B) s304 s306 ((t.take ((at299 + ((el r288 k308).n)).toNat)).drop at299.toNat) (s_t.cut 1 at299.toNat ((at299 + ((el r288 k308).n)).toNat)) hS (hR _ (.head _)) oL h374) ?_
          rintro _ w375 ⟨⟨s376, s377⟩, rfl, hM⟩
          replace hM : St ⟨w, X, S⟩ [oBox b282 #[s376.v, s377.v, (.int .i64 r373.drop)] 123, oC (cSl 3 fDPart r373.list) s376.v, oC (cSl 1 fI r373.put) s377.v, oBox b323 #[(.int .i64 ((el r288 k308).kind)), (.int .i64 ((el r288 k308).n)), s320.v] 77, oV (oC (cSl 3 fDPart r288) s291.v) [vR s320.v (cSl 1 fI ((el r288 k308).signs)), vC (eaddr s291.v (k308 * 3 + 2)) s320.v]] [rV (s_t.cut 1 at299.toNat ((at299 + ((el r288 k308).n)).toNat)).v (cSl 1 fI ((t.take ((at299 + ((el r288 k308).n)).toNat)).drop at299.toNat)), rV s_t.v (cSl 1 fI t)] _ := hM
          refine wl_nil ?_
          refine sq_n ?_
          refine wc_region ?_
          refine wv rfl (r_move rfl) ?_
          refine wv rfl (r_fld Try.underlying77 rfl rfl sz3 rfl) ?_
          refine wv rfl (r_ldB Try.underlying3 rfl rfl hM (.tail _ (.tail _ (.tail _ (.head _)))) rfl) ?_
          obtain ⟨hg382, hx⟩ := xg_some hx
          refine wv rfl (r_add rfl rfl hg382) ?_
          refine wv rfl (r_assign rfl) ?_
          refine wl_nil ?_
          refine bk_n ?_
          refine bk_n ?_
          refine sq_n ?_
          refine wc_region ?_
          refine wv rfl (r_add rfl rfl ⟨by omega, by omega⟩) ?_
          refine wv rfl (r_move rfl) ?_
          refine wl_nil ?_
          obtain rfl := Option.some.inj hx
          replace hM := hM.p4
          replace hM : St ⟨w, X, S⟩ [oC (cSl 3 fDPart r288) s291.v, oBox b282 #[s376.v, s377.v, (.int .i64 r373.drop)] 123, oC (cSl 3 fDPart r373.list) s376.v, oC (cSl 1 fI r373.put) s377.v, oBox b323 #[(.int .i64 ((el r288 k308).kind)), (.int .i64 ((el r288 k308).n)), s320.v] 77] [rV (s_t.cut 1 at299.toNat ((at299 + ((el r288 k308).n)).toNat)).v (cSl 1 fI ((t.take ((at299 + ((el r288 k308).n)).toNat)).drop at299.toNat)), rV s_t.v (cSl 1 fI t)] _ := hM.unview
          replace hM := hM.p3.p3.p2.p3
          replace hM := hM.t4
          have hM := hM.fewer (rsC (.tail _ (.head _)) rsN)
          replace hM : St ⟨w, X, S⟩ [oBox b282 #[s376.v, s377.v, (.int .i64 r373.drop)] 123, oC (cSl 3 fDPart r288) s291.v, oC (cSl 3 fDPart r373.list) s376.v, oC (cSl 1 fI r373.put) s377.v] [rV s_t.v (cSl 1 fI t)] _ := hM
          exact lp_end (m314, k308 + 1, at299 + ((el r288 k308).n), r373.list, r373.put, r373.drop, s376, s377) (Nat.lt_succ_self _) ⟨rfl, rfl, rfl, rfl, rfl, rfl, trivial⟩ ⟨hM, hx316, hk309⟩
    · replace hc313 := of_decide_eq_false hc313
      obtain rfl := eachN_end hx hk309 hc313
      refine wc_exit ?_
      refine sq_exit ?_
      refine lp1_exit ?_
      replace hx := hx296
      try dsimp only [Sum.elim_inl, Sum.elim_inr] at hx
      refine bk_here ?_
      refine sq_n ?_
      refine wc_seq ?_
      refine wc_region ?_
      refine wv rfl (r_move rfl) ?_
      replace hM := hM.p3.p3.p2
      obtain ⟨r387, h388, hx⟩ := bind_some' hx
      refine w_call rfl rfl (hM.callO (l := [oBox b282 #[s304.v, s306.v, (.int .i64 n302)] 123, oC (cSl 3 fDPart l300) s304.v, oC (cSl 1 fI l301) s306.v]) fun X S oL hS hR hO => ct_spec_l02Done _ X S b282 (⟨l300, l301, n302⟩ : DL02B) s304 s306 hS  oL h388) ?_
      rintro _ w389 ⟨⟨s390, s391, s392⟩, rfl, hM⟩
      replace hM : St ⟨w, X, S⟩ [oC (cSl 3 fDPart r387.1) s390.v, oBox b282 #[s391.v, s392.v, (.int .i64 r387.2.drop)] 123, oC (cSl 1 fI r387.2.put) s392.v, oC (cSl 3 fDPart r288) s291.v] [rV s_t.v (cSl 1 fI t)] _ := hM
      refine wv rfl (r_assign rfl) ?_
      refine wv rfl (r_assign rfl) ?_
      refine wl_nil ?_
      refine sq_n ?_
      refine wc_ret ?_
      obtain rfl := Option.some.inj hx
      refine fin_ret [s390.v, (.bool true)] ⟨rfl, rfl, trivial⟩ ?_
      replace hM := hM.t1
      have hM := hM.fewer rsN
      exact ⟨s390, rfl, hM.gives⟩

end Go.Proofs.Ythfkcpdechjmnaa
