/- Walks of functions of this program (printed by a program of ours, by the rules of the layer). No condition. -/
import Derived.Test.YthfkcpdechjmnaaGU
import Derived.Test.YthfkcpdechjmnaaNs
namespace Go.Proofs.Ythfkcpdechjmnaa
open Go.RowKit

noncomputable def x_impl_copyEntries_b0 (_list : List DEntry) (_k39 : Nat) (x105 : DEntry) (out40 : List DEntry) : Option (Lr (List DEntry) (List DEntry)) :=
  Option.bind (x_impl_copyOp (x105.o)) fun r88 => xg (out40.length < 1099511627776) <| some (Lr.go (out40 ++ [(⟨x105.client, x105.seq, r88⟩ : DEntry)]))
noncomputable def x_impl_copyEntries_f0 (list : List DEntry) (k39 : Nat) (s106 : List DEntry) : Option (Lr (List DEntry) (List DEntry)) := x_impl_copyEntries_b0 list k39 (el list k39) s106
noncomputable def x_impl_copyEntries (list : List DEntry) : Option (List DEntry) :=
  Option.bind (eachN (x_impl_copyEntries_f0 list) (fun (s106 : List DEntry) => (s106 : List DEntry)) list.length 0 []) fun (y107 : List DEntry) => some y107
theorem ct_impl_copyEntries (w : World) (X S : Bs) (list : List DEntry) (s_list : Sv) (hS : ∀ b, S b → b < w.heap.size ∧ ¬ X b) (a_list_0 : (cSl 3 fDEntry list).rd S w s_list.v) (oL : Sep [] X w) {r : List DEntry} (hx : x_impl_copyEntries list = some r) :
    Ret Try.prog 74 [s_list.v] w (fun u w' => ∃ y : Sv, u = y.v ∧ Gives X S w [oC (cSl 3 fDEntry r) y.v] [] w') := by
  unfold x_impl_copyEntries at hx
  refine enter Try.func74 rfl Try.ntmps74 (by kernel_rfl) rfl ?_
  have hM := St.enter oL hS
  have hM := hM.addE (r := rV s_list.v (cSl 3 fDEntry list)) a_list_0
  refine wc_seq ?_
  refine wc_region ?_
  refine wv rfl (r_assign rfl) ?_
  refine wl_nil ?_
  refine sq_n ?_
  refine wc_seq ?_
  refine wc_region ?_
  refine wv rfl (r_assign rfl) ?_
  refine wl_nil ?_
  refine sq_n ?_
  refine wc_seq ?_
  refine wc_seq ?_
  refine wc_region ?_
  refine wv rfl (r_move rfl) ?_
  refine wv rfl (r_lenC Try.underlying60 rfl (hM.seeR (.head _))) ?_
  refine wv rfl (r_move rfl) ?_
  refine wl_nil ?_
  refine sq_n ?_
  refine wc_block ?_
  obtain ⟨y117, hx, hx118⟩ := bind_some' hx
  have hM := hM.nil0 (T := DEntry) 3 fDEntry
  have hl126 := Cs.le (hM.seeR (.head _))
  refine wc_loop (un fun (m123 : Nat) => un fun (k124 : Nat) => un fun (out120 : List DEntry) => fun (s122 : Sv) => [(3, s122.v), (6, s_list.v), (7, (.int .i64 (list.length : Int))), (8, (.int .i64 (k124 : Int)))]) (un fun (m123 : Nat) => un fun (k124 : Nat) => un fun (out120 : List DEntry) => fun (s122 : Sv) w' => St ⟨w, X, S⟩ [oC (cSl 3 fDEntry out120) s122.v] [rV s_list.v (cSl 3 fDEntry list)] w' ∧ eachN _ _ m123 k124 out120 = some y117 ∧ k124 + m123 = list.length) (fun p => p.1) (list.length, 0, [], nS) ⟨rfl, rfl, rfl, rfl, trivial⟩ ⟨hM, hx, Nat.zero_add _⟩ ?_
  rintro ⟨m123, k124, out120, s122⟩ w127 ⟨hM, hx, hk125⟩
  refine wc_seq ?_
  refine wc_region ?_
  refine wv rfl (r_lss rfl rfl) ?_
  refine wl_nil ?_
  refine sq_n ?_
  refine wc_seq ?_
  refine wc_cond rfl (fun hc129 => ?_) (fun hc129 => ?_)
  · replace hc129 := of_decide_eq_true hc129
    obtain ⟨m130, z131, rfl, hk125, hx, hx132⟩ := eachN_step hx hk125 hc129
    unfold x_impl_copyEntries_f0 x_impl_copyEntries_b0 at hx
    try dsimp only at hx
    refine wc_skip ?_
    refine sq_n ?_
    refine wc_seq ?_
    refine wc_block ?_
    refine wc_seq ?_
    refine wc_region ?_
    have hi134 : k124 < list.length := by omega
    refine wv rfl (r_ixC Try.underlying60 sz104 rfl rfl (hM.seeR (.head _)) ⟨by omega, hc129⟩) ?_
    obtain ⟨s136, hM, hc137⟩ := hM.leaf (i := k124) (j := 2) (.head _) (fun _ => rfl) hi134 rfl
    refine wv rfl (r_ldC (o := k124 * 3) Try.underlying104 sz104 rfl (us := [(.int .i64 ((el list k124).client)), (.int .i64 ((el list k124).seq)), s136.v]) rfl (hM.seeR (.tail _ (.head _))) hi134 ⟨(Cs.get (i := k124) (j := 0) (hM.seeR (.tail _ (.head _))) (fun _ => rfl) hi134 rfl), (Cs.get (i := k124) (j := 1) (hM.seeR (.tail _ (.head _))) (fun _ => rfl) hi134 rfl), (hc137 _ (Rel.refl _)), trivial⟩) ?_
    refine w_ex rfl (x_alloc sz104 hM ?_); intro b139 w138 hR140 hM
    replace hM : St ⟨w, X, S⟩ [oBox b139 #[(.int .i64 0), (.int .i64 0), (.slice none 0 0)] 104, oC (cSl 3 fDEntry out120) s122.v] [rV s136.v (cSl 3 fDPart ((el list k124).o)), rV s_list.v (cSl 3 fDEntry list)] _ := hM
    refine w_exu (x_stB #[(.int .i64 ((el list k124).client)), (.int .i64 ((el list k124).seq)), s136.v] sz104 rfl rfl rfl rfl rfl rfl hM ?_); intro w142 hM
    refine wl_nil ?_
    refine sq_n ?_
    refine wc_seq ?_
    refine wc_region ?_
    refine wv rfl (r_fld Try.underlying104 rfl rfl sz29 rfl) ?_
    refine wv rfl (r_ldB Try.underlying29 rfl rfl hM (.head _) rfl) ?_
    obtain ⟨r146, h147, hx⟩ := bind_some' hx
    refine w_call rfl rfl (hM.callO (l := []) fun X S oL hS hR hO => ct_impl_copyOp _ X S ((el list k124).o) s136 hS (hR _ (.head _)) oL h147) ?_
    rintro _ w148 ⟨s149, rfl, hM⟩
    replace hM : St ⟨w, X, S⟩ [oC (cSl 3 fDPart r146) s149.v, oBox b139 #[(.int .i64 ((el list k124).client)), (.int .i64 ((el list k124).seq)), s136.v] 104, oC (cSl 3 fDEntry out120) s122.v] [rV s136.v (cSl 3 fDPart ((el list k124).o)), rV s_list.v (cSl 3 fDEntry list)] _ := hM
    refine wv rfl (r_fld Try.underlying104 rfl rfl sz29 rfl) ?_
    replace hM := hM.p1
    refine w_exu (x_stB #[(.int .i64 ((el list k124).client)), (.int .i64 ((el list k124).seq)), s149.v] sz29 rfl rfl rfl rfl rfl rfl hM ?_); intro w152 hM
    refine wl_nil ?_
    refine sq_n ?_
    refine wc_region ?_
    refine wv rfl (r_move rfl) ?_
    refine wv rfl (r_ldBS Try.underlying104 sz104 rfl (us := [(.int .i64 ((el list k124).client)), (.int .i64 ((el list k124).seq)), s149.v]) rfl hM (.head _) rfl) ?_
    replace hM := hM.p1.p2
    obtain ⟨hg159, hx⟩ := xg_some hx
    refine w_push (f := fDEntry) (⟨(el list k124).client, (el list k124).seq, r146⟩ : DEntry) rfl rfl Try.underlying60 sz104 rfl rfl rfl rfl (fun _ => rfl) hM (fun _ => zP (pV _ rfl) (zP (pV _ rfl) (zO zN))) rfl hg159 rfl ?_; intro u157 s158 w156 hM
    refine wv rfl (r_assign rfl) ?_
    refine wl_nil ?_
    refine bk_n ?_
    refine sq_n ?_
    refine wc_region ?_
    refine wv rfl (r_add rfl rfl ⟨by omega, by omega⟩) ?_
    refine wv rfl (r_move rfl) ?_
    refine wl_nil ?_
    obtain rfl := Option.some.inj hx
    replace hM := hM.t1
    have hM := hM.fewer (rsC (.tail _ (.head _)) rsN)
    replace hM : St ⟨w, X, S⟩ [oC (cSl 3 fDEntry (out120 ++ [(⟨(el list k124).client, (el list k124).seq, r146⟩ : DEntry)])) s158.v] [rV s_list.v (cSl 3 fDEntry list)] _ := hM
    exact lp_end (m130, k124 + 1, out120 ++ [(⟨(el list k124).client, (el list k124).seq, r146⟩ : DEntry)], s158) (Nat.lt_succ_self _) ⟨rfl, rfl, rfl, rfl, trivial⟩ ⟨hM, hx132, hk125⟩
  · replace hc129 := of_decide_eq_false hc129
    obtain rfl := eachN_end hx hk125 hc129
    refine wc_exit ?_
    refine sq_exit ?_
    refine lp1_exit ?_
    replace hx := hx118
    try dsimp only [Sum.elim_inl, Sum.elim_inr] at hx
    refine bk_here ?_
    refine sq_n ?_
    refine wc_seq ?_
    refine wc_region ?_
    refine wv rfl (r_move rfl) ?_
    refine wv rfl (r_assign rfl) ?_
    refine wl_nil ?_
    refine sq_n ?_
    refine wc_ret ?_
    obtain rfl := Option.some.inj hx
    refine fin_ret [s122.v] ⟨rfl, trivial⟩ ?_
    replace hM := hM.t1
    have hM := hM.fewer rsN
    exact ⟨s122, rfl, hM.gives⟩

noncomputable def x_impl_EntryOk (e : DEntry) : Option Bool :=
  Option.bind (x_impl_within e.client 1 8) fun r8 => Option.bind (bif r8 then (Option.bind (x_impl_within e.seq 1 1000000000) fun r23 => some r23) else (some false)) fun c13 => Option.bind (bif c13 then (Option.bind (x_impl_IsNorm e.o) fun r38 => some r38) else (some false)) fun c28 => some c28
theorem ct_impl_EntryOk (w : World) (X S : Bs) (e : DEntry) (s_e_2 : Sv) (hS : ∀ b, S b → b < w.heap.size ∧ ¬ X b) (a_e_2 : (cSl 3 fDPart e.o).rd S w s_e_2.v) (oL : Sep [] X w) {r : Bool} (hx : x_impl_EntryOk e = some r) :
    Ret Try.prog 75 [(.agg #[(.int .i64 e.client), (.int .i64 e.seq), s_e_2.v])] w (fun u w' => ∃ _ : Unit, u = (.bool r) ∧ Gives X S w [] [] w') := by
  unfold x_impl_EntryOk at hx
  refine enter Try.func75 rfl Try.ntmps75 (by kernel_rfl) rfl ?_
  have hM := St.enter oL hS
  have hM := hM.addE (r := rV s_e_2.v (cSl 3 fDPart e.o)) a_e_2
  refine wc_seq ?_
  refine wc_region ?_
  refine w_ex rfl (x_box rfl hM ?_); intro b44 w43 hR45 hM
  replace hM : St ⟨w, X, S⟩ [oBox b44 #[(.int .i64 e.client), (.int .i64 e.seq), s_e_2.v] 104] [rV s_e_2.v (cSl 3 fDPart e.o)] _ := hM
  refine wv rfl (r_assign rfl) ?_
  refine wl_nil ?_
  refine sq_n ?_
  refine wc_seq ?_
  refine wc_region ?_
  refine wv rfl (r_fld Try.underlying104 rfl rfl sz3 rfl) ?_
  refine wv rfl (r_ldB Try.underlying3 rfl rfl hM (.head _) rfl) ?_
  obtain ⟨r50, h51, hx⟩ := bind_some' hx
  refine w_call rfl rfl (hM.callV fun X S oL hS hR hO => ct_impl_within _ X S e.client (1 : Int) (8 : Int) hS  oL h51) ?_
  rintro _ w52 ⟨rfl, hR53⟩
  have hM := hM.call hR53
  refine wv rfl (r_move rfl) ?_
  obtain ⟨c55, hx, hx63⟩ := bind_some' hx
  refine wl_mid 4 (fun _ : Unit => [(10, (.bool c55)), (1, (.pointer (some ⟨b44, 0, none⟩)))]) (fun _ w' => St ⟨w, X, S⟩ [oBox b44 #[(.int .i64 e.client), (.int .i64 e.seq), s_e_2.v] 104] [rV s_e_2.v (cSl 3 fDPart e.o)] w') ?_ ?_
  · rcases Bool.eq_false_or_eq_true r50 with hg56 | hg56
    · replace hx := xif_t hg56 hx
      refine gv rfl hg56 rfl (r_fld Try.underlying104 rfl rfl sz3 rfl) ?_
      refine gv rfl hg56 rfl (r_ldB Try.underlying3 rfl rfl hM (.head _) rfl) ?_
      obtain ⟨r66, h67, hx⟩ := bind_some' hx
      refine gc rfl hg56 rfl rfl (hM.callV fun X S oL hS hR hO => ct_impl_within _ X S e.seq (1 : Int) (1000000000 : Int) hS  oL h67) ?_
      rintro _ w68 ⟨rfl, hR69⟩
      have hM := hM.call hR69
      refine wv rfl (p_t rfl hg56 rfl) ?_
      obtain rfl := Option.some.inj hx
      exact mid_nil () ⟨rfl, rfl, trivial⟩ hM
    · replace hx := xif_f hg56 hx
      refine gs rfl (isB_no hg56) rfl ?_
      refine gs rfl (isB_no hg56) rfl ?_
      refine gs rfl (isB_no hg56) rfl ?_
      refine wv rfl (p_f rfl hg56 rfl) ?_
      obtain rfl := Option.some.inj hx
      exact mid_nil () ⟨rfl, rfl, trivial⟩ hM
  rintro _ w70 hM
  replace hx := hx63
  refine wv rfl (r_move rfl) ?_
  obtain ⟨c72, hx, hx80⟩ := bind_some' hx
  refine wl_mid 4 (fun _ : Unit => [(15, (.bool c72))]) (fun _ w' => St ⟨w, X, S⟩ [oBox b44 #[(.int .i64 e.client), (.int .i64 e.seq), s_e_2.v] 104] [rV s_e_2.v (cSl 3 fDPart e.o)] w') ?_ ?_
  · rcases Bool.eq_false_or_eq_true c55 with hg73 | hg73
    · replace hx := xif_t hg73 hx
      refine gv rfl hg73 rfl (r_fld Try.underlying104 rfl rfl sz29 rfl) ?_
      refine gv rfl hg73 rfl (r_ldB Try.underlying29 rfl rfl hM (.head _) rfl) ?_
      obtain ⟨r83, h84, hx⟩ := bind_some' hx
      refine gc rfl hg73 rfl rfl (hM.callV fun X S oL hS hR hO => ct_impl_IsNorm _ X S e.o s_e_2 hS (hR _ (.head _)) oL h84) ?_
      rintro _ w85 ⟨rfl, hR86⟩
      have hM := hM.call hR86
      refine wv rfl (p_t rfl hg73 rfl) ?_
      obtain rfl := Option.some.inj hx
      exact mid_nil () ⟨rfl, trivial⟩ hM
    · replace hx := xif_f hg73 hx
      refine gs rfl (isB_no hg73) rfl ?_
      refine gs rfl (isB_no hg73) rfl ?_
      refine gs rfl (isB_no hg73) rfl ?_
      refine wv rfl (p_f rfl hg73 rfl) ?_
      obtain rfl := Option.some.inj hx
      exact mid_nil () ⟨rfl, trivial⟩ hM
  rintro _ w87 hM
  replace hx := hx80
  refine wv rfl (r_assign rfl) ?_
  refine wl_nil ?_
  refine sq_n ?_
  refine wc_ret ?_
  obtain rfl := Option.some.inj hx
  refine fin_ret [(.bool c72)] ⟨rfl, trivial⟩ ?_
  replace hM := hM.t0
  have hM := hM.fewer rsN
  exact ⟨(), rfl, hM.gives⟩

noncomputable def x_impl_Squash_b0 (_r5 : List DEntry) (_k56 : Nat) (x300 : DEntry) (out57 : List DEntry) : Option (Lr (List DEntry) (Sum (List DEntry) Unit)) :=
  Option.bind (x_impl_EntryOk x300) fun r202 => bif !r202 then (some (Lr.out (Sum.inr (())))) else (Option.bind (bif decide ((out57.length : Int) = 0) then (some true) else (xg (inI ((out57.length : Int) - 1)) <| xg (0 ≤ ((out57.length : Int) - 1) ∧ ((out57.length : Int) - 1) < (out57.length : Int)) <| some (!decide (((el out57 (((out57.length : Int) - 1).toNat)).client) = (x300.client))))) fun c215 => bif c215 then (xg (out57.length < 1099511627776) <| some (Lr.go (out57 ++ [x300]))) else (xg (inI ((out57.length : Int) - 1)) <| xg (0 ≤ ((out57.length : Int) - 1) ∧ ((out57.length : Int) - 1) < (out57.length : Int)) <| Option.bind (x_impl_Compose ((el out57 (((out57.length : Int) - 1).toNat)).o) (x300.o)) fun r265 => bif !r265.2 then (some (Lr.out (Sum.inr (())))) else (xg (inI ((out57.length : Int) - 1)) <| xg (0 ≤ ((out57.length : Int) - 1) ∧ ((out57.length : Int) - 1) < (out57.length : Int)) <| some (Lr.go (out57.set (((out57.length : Int) - 1).toNat) (⟨x300.client, x300.seq, r265.1⟩ : DEntry))))))
noncomputable def x_impl_Squash_f0 (r5 : List DEntry) (k56 : Nat) (s301 : List DEntry) : Option (Lr (List DEntry) (Sum (List DEntry) Unit)) := x_impl_Squash_b0 r5 k56 (el r5 k56) s301
noncomputable def x_impl_Squash (l : List DEntry) : Option (List DEntry × Bool) :=
  Option.bind (x_impl_copyEntries l) fun r5 => Option.bind (eachN (x_impl_Squash_f0 r5) (fun (s301 : List DEntry) => (Sum.inl s301 : Sum (List DEntry) Unit)) r5.length 0 []) fun (y302 : Sum (List DEntry) Unit) => Sum.elim (fun y303 => some (y303, true)) (fun _y304 => some ([], false)) y302
theorem ct_impl_Squash (w : World) (X S : Bs) (l : List DEntry) (s_l : Sv) (hS : ∀ b, S b → b < w.heap.size ∧ ¬ X b) (a_l_0 : (cSl 3 fDEntry l).rd S w s_l.v) (oL : Sep [] X w) {r : List DEntry × Bool} (hx : x_impl_Squash l = some r) :
    Ret Try.prog 35 [s_l.v] w (fun u w' => ∃ y : Sv, u = .tuple #[y.v, (.bool r.2)] ∧ Gives X S w [oC (cSl 3 fDEntry r.1) y.v] [] w') := by
  unfold x_impl_Squash at hx
  refine enter Try.func35 rfl Try.ntmps35 (by kernel_rfl) rfl ?_
  have hM := St.enter oL hS
  have hM := hM.addE (r := rV s_l.v (cSl 3 fDEntry l)) a_l_0
  refine wc_seq ?_
  refine wc_region ?_
  refine wv rfl (r_assign rfl) ?_
  refine wv rfl (r_assign rfl) ?_
  refine wl_nil ?_
  refine sq_n ?_
  refine wc_seq ?_
  refine wc_region ?_
  refine wv rfl (r_assign rfl) ?_
  refine wl_nil ?_
  refine sq_n ?_
  refine wc_seq ?_
  refine wc_seq ?_
  refine wc_region ?_
  refine wv rfl (r_move rfl) ?_
  obtain ⟨r314, h315, hx⟩ := bind_some' hx
  refine w_call rfl rfl (hM.callO (l := []) fun X S oL hS hR hO => ct_impl_copyEntries _ X S l s_l hS (hR _ (.head _)) oL h315) ?_
  rintro _ w316 ⟨s317, rfl, hM⟩
  replace hM : St ⟨w, X, S⟩ [oC (cSl 3 fDEntry r314) s317.v] [rV s_l.v (cSl 3 fDEntry l)] _ := hM
  refine wv rfl (r_lenC Try.underlying60 rfl (hM.seeO (.head _))) ?_
  refine wv rfl (r_move rfl) ?_
  refine wl_nil ?_
  refine sq_n ?_
  refine wc_block ?_
  obtain ⟨y321, hx, hx322⟩ := bind_some' hx
  replace hM := hM.toEat
  have hM := hM.nil0 (T := DEntry) 3 fDEntry
  replace hM := hM.p1
  have hM := hM.fewer rsN
  replace hM : St ⟨w, X, S⟩ [oEat 3 fDEntry r314 s317.v 0, oC (cSl 3 fDEntry ([] : List DEntry)) nS.v] [] _ := hM
  have hl330 := hM.eatLe (.head _)
  refine wc_loop (un fun (m327 : Nat) => un fun (k328 : Nat) => un fun (out324 : List DEntry) => fun (s326 : Sv) => [(4, s326.v), (11, s317.v), (12, (.int .i64 (r314.length : Int))), (13, (.int .i64 (k328 : Int)))]) (un fun (m327 : Nat) => un fun (k328 : Nat) => un fun (out324 : List DEntry) => fun (s326 : Sv) w' => St ⟨w, X, S⟩ [oEat 3 fDEntry r314 s317.v k328, oC (cSl 3 fDEntry out324) s326.v] [] w' ∧ eachN _ _ m327 k328 out324 = some y321 ∧ k328 + m327 = r314.length) (fun p => p.1) (r314.length, 0, [], nS) ⟨rfl, rfl, rfl, rfl, trivial⟩ ⟨hM, hx, Nat.zero_add _⟩ ?_
  rintro ⟨m327, k328, out324, s326⟩ w331 ⟨hM, hx, hk329⟩
  refine wc_seq ?_
  refine wc_region ?_
  refine wv rfl (r_lss rfl rfl) ?_
  refine wl_nil ?_
  refine sq_n ?_
  refine wc_seq ?_
  refine wc_cond rfl (fun hc333 => ?_) (fun hc333 => ?_)
  · replace hc333 := of_decide_eq_true hc333
    obtain ⟨m334, z335, rfl, hk329, hx, hx336⟩ := eachN_step hx hk329 hc333
    unfold x_impl_Squash_f0 x_impl_Squash_b0 at hx
    try dsimp only at hx
    refine wc_skip ?_
    refine sq_n ?_
    refine wc_seq ?_
    refine wc_block ?_
    refine wc_seq ?_
    refine wc_region ?_
    have hi338 : k328 < r314.length := by omega
    refine wv rfl (r_ixE Try.underlying60 sz104 rfl rfl (hM.eatP (.head _) hi338) ⟨by omega, hc333⟩) ?_
    obtain ⟨us340, hl341, hM, hC342⟩ := hM.bite (fun _ => rfl) hi338
    obtain ⟨u343, u344, u345, rfl⟩ := lst3 hl341
    have hu346 := hM.valV.1
    replace hM := hM.valV.2
    have hu347 := hM.valV.1
    replace hM := hM.valV.2
    obtain ⟨s349, hu348, hMs⟩ := hM.valS
    replace hM := hMs
    clear hMs
    subst hu346 hu347 hu348
    replace hM : St ⟨w, X, S⟩ [oC (cSl 3 fDPart ((el r314 k328).o)) s349.v, oEat 3 fDEntry r314 s317.v (k328 + 1), oC (cSl 3 fDEntry out324) s326.v] [] _ := hM
    refine wv rfl (r_ldE Try.underlying104 sz104 rfl (us := [(.int .i64 ((el r314 k328).client)), (.int .i64 ((el r314 k328).seq)), s349.v]) rfl (hM.eatP (.tail _ (.head _)) hi338) (hC342 _ (Rel.refl _))) ?_
    refine w_ex rfl (x_alloc sz104 hM ?_); intro b352 w351 hR353 hM
    replace hM : St ⟨w, X, S⟩ [oBox b352 #[(.int .i64 0), (.int .i64 0), (.slice none 0 0)] 104, oC (cSl 3 fDPart ((el r314 k328).o)) s349.v, oEat 3 fDEntry r314 s317.v (k328 + 1), oC (cSl 3 fDEntry out324) s326.v] [] _ := hM
    refine w_exu (x_stB #[(.int .i64 ((el r314 k328).client)), (.int .i64 ((el r314 k328).seq)), s349.v] sz104 rfl rfl rfl rfl rfl rfl hM ?_); intro w355 hM
    refine wl_nil ?_
    refine sq_n ?_
    refine wc_seq ?_
    refine wc_seq ?_
    refine wc_region ?_
    refine wv rfl (r_ldBS Try.underlying104 sz104 rfl (us := [(.int .i64 ((el r314 k328).client)), (.int .i64 ((el r314 k328).seq)), s349.v]) rfl hM (.head _) rfl) ?_
    obtain ⟨r358, h359, hx⟩ := bind_some' hx
    refine w_call rfl rfl (hM.callV fun X S oL hS hR hO => ct_impl_EntryOk _ X S (el r314 k328) s349 hS (seeA hO (.tail _ (.head _))) oL h359) ?_
    rintro _ w360 ⟨rfl, hR361⟩
    have hM := hM.call hR361
    refine wv rfl (r_not rfl) ?_
    refine wl_nil ?_
    refine sq_n ?_
    refine wc_cond rfl (fun hc363 => ?_) (fun hc363 => ?_)
    · replace hx := xif_t hc363 hx
      refine wc_seq ?_
      refine wc_region ?_
      refine wv rfl (r_assign rfl) ?_
      refine wv rfl (r_assign rfl) ?_
      refine wl_nil ?_
      refine sq_n ?_
      refine wc_ret ?_
      refine sq_ret ?_
      refine bk_ret ?_
      refine sq_ret ?_
      refine lp1_ret ?_
      obtain rfl := Option.some.inj hx
      obtain rfl := Option.some.inj hx336
      replace hx := hx322
      try dsimp only [Sum.elim_inl, Sum.elim_inr] at hx
      refine bk_ret ?_
      refine sq_ret ?_
      obtain rfl := Option.some.inj hx
      have hM := hM.nil0 (T := DEntry) 3 fDEntry
      refine fin_ret [nS.v, (.bool false)] ⟨rfl, rfl, trivial⟩ ?_
      replace hM := hM.t1
      have hM := hM.fewer rsN
      exact ⟨nS, rfl, hM.gives⟩
    · replace hx := xif_f hc363 hx
      refine wc_skip ?_
      refine sq_n ?_
      refine wc_seq ?_
      refine wc_region ?_
      refine wv rfl (r_move rfl) ?_
      refine wv rfl (r_lenC Try.underlying60 rfl (hM.seeO (.tail _ (.tail _ (.tail _ (.head _)))))) ?_
      refine wv rfl (r_assign rfl) ?_
      refine wl_nil ?_
      refine sq_n ?_
      refine wc_seq ?_
      refine wc_seq ?_
      refine wc_draw [(0, 0), (1, 0), (2, 0), (3, 0), (4, 0), (5, 0), (6, 0), (7, 0), (8, 0), (9, 0), (10, 0), (11, 0), (12, 0)] Try_mixed (by kernel_rfl) rfl (by kernel_rfl) rfl ?_
      refine ov rfl (fun w' h' => r_move rfl) ?_
      refine ov rfl (fun w' h' => r_eql rfl rfl) ?_
      refine ov rfl (fun w' h' => r_move rfl) ?_
      obtain ⟨c373, hx, hx387⟩ := bind_some' hx
      refine wo_mid 10 [(34, (.bool c373)), (4, s326.v), (6, (.pointer (some ⟨b352, 0, none⟩))), (7, (.int .i64 (out324.length : Int))), (11, s317.v), (12, (.int .i64 (r314.length : Int))), (13, (.int .i64 (k328 : Int)))] rfl ?_ ?_
      · rcases Bool.eq_false_or_eq_true (decide ((out324.length : Int) = 0)) with hg374 | hg374
        · replace hx := xif_t hg374 hx
          refine ogs rfl (isB_no hg374) rfl ?_
          refine ogs rfl (isB_no hg374) rfl ?_
          refine ogs rfl (isB_no hg374) rfl ?_
          refine ogs rfl (isB_no hg374) rfl ?_
          refine ogs rfl (isB_no hg374) rfl ?_
          refine ogs rfl (isB_no hg374) rfl ?_
          refine ogs rfl (isB_no hg374) rfl ?_
          refine ogs rfl (isB_no hg374) rfl ?_
          refine ogs rfl (isB_no hg374) rfl ?_
          refine ov rfl (fun w' h' => p_t rfl hg374 rfl) ?_
          obtain rfl := Option.some.inj hx
          exact mid_onil ⟨rfl, rfl, rfl, rfl, rfl, rfl, rfl, trivial⟩
        · replace hx := xif_f hg374 hx
          refine ogv rfl hg374 rfl (fun w' h' => r_move rfl) ?_
          refine ogv rfl hg374 rfl (fun w' h' => r_move rfl) ?_
          obtain ⟨hg391, hx⟩ := xg_some hx
          refine ogv rfl hg374 rfl (fun w' h' => r_sub rfl rfl hg391) ?_
          obtain ⟨hg394, hx⟩ := xg_some hx
          have hi393 : (((out324.length : Int) - 1).toNat) < out324.length := by omega
          refine ogv rfl hg374 rfl (fun w' h' => r_ixC Try.underlying60 sz104 rfl rfl ((hM.call h').seeO (.tail _ (.tail _ (.tail _ (.head _))))) hg394) ?_
          refine ogv rfl hg374 rfl (fun w' h' => r_fldC (i := (((out324.length : Int) - 1).toNat)) Try.underlying104 rfl rfl sz3 rfl ((hM.call h').seeO (.tail _ (.tail _ (.tail _ (.head _))))) hi393) ?_
          refine ogv rfl hg374 rfl (fun w' h' => r_ld Try.underlying3 rfl rfl (Cs.get (i := (((out324.length : Int) - 1).toNat)) (j := 0) ((hM.call h').seeO (.tail _ (.tail _ (.tail _ (.head _))))) (fun _ => rfl) hi393 rfl)) ?_
          refine ogv rfl hg374 rfl (fun w' h' => r_fld Try.underlying104 rfl rfl sz3 rfl) ?_
          refine ogv rfl hg374 rfl (fun w' h' => r_ldB Try.underlying3 rfl rfl (hM.call h') (.head _) rfl) ?_
          refine ogv rfl hg374 rfl (fun w' h' => r_neq rfl rfl) ?_
          refine ov rfl (fun w' h' => p_f rfl hg374 rfl) ?_
          obtain rfl := Option.some.inj hx
          exact mid_onil ⟨rfl, rfl, rfl, rfl, rfl, rfl, rfl, trivial⟩
      replace hx := hx387
      refine o_nil fun w400 hw401 => ?_
      have hM := hM.call hw401
      refine sq_n ?_
      refine wc_cond rfl (fun hc402 => ?_) (fun hc402 => ?_)
      · replace hx := xif_t hc402 hx
        refine wc_seq ?_
        refine wc_region ?_
        refine wv rfl (r_move rfl) ?_
        refine wv rfl (r_ldBS Try.underlying104 sz104 rfl (us := [(.int .i64 ((el r314 k328).client)), (.int .i64 ((el r314 k328).seq)), s349.v]) rfl hM (.head _) rfl) ?_
        replace hM := hM.p1.p3
        obtain ⟨hg408, hx⟩ := xg_some hx
        refine w_push (f := fDEntry) (el r314 k328) rfl rfl Try.underlying60 sz104 rfl rfl rfl rfl (fun _ => rfl) hM (fun _ => zP (pV _ rfl) (zP (pV _ rfl) (zO zN))) rfl hg408 rfl ?_; intro u406 s407 w405 hM
        refine wv rfl (r_assign rfl) ?_
        refine wl_nil ?_
        refine sq_n ?_
        refine wc_exit ?_
        refine sq_exit ?_
        refine bk_here ?_
        refine sq_n ?_
        refine wc_region ?_
        refine wv rfl (r_add rfl rfl ⟨by omega, by omega⟩) ?_
        refine wv rfl (r_move rfl) ?_
        refine wl_nil ?_
        obtain rfl := Option.some.inj hx
        replace hM := hM.p2
        replace hM := hM.t2
        exact lp_end (m334, k328 + 1, out324 ++ [el r314 k328], s407) (Nat.lt_succ_self _) ⟨rfl, rfl, rfl, rfl, trivial⟩ ⟨hM, hx336, hk329⟩
      · replace hx := xif_f hc402 hx
        refine wc_skip ?_
        refine sq_n ?_
        refine wc_seq ?_
        refine wc_draw [(0, 0), (1, 0), (2, 0), (3, 0), (4, 0), (5, 0), (6, 0), (7, 0), (8, 2), (9, 0), (10, 0), (11, 0), (12, 0), (13, 0)] Try_mixed (by kernel_rfl) rfl (by kernel_rfl) rfl ?_
        refine ov rfl (fun w' h' => r_move rfl) ?_
        refine ov rfl (fun w' h' => r_move rfl) ?_
        obtain ⟨hg415, hx⟩ := xg_some hx
        refine ov rfl (fun w' h' => r_sub rfl rfl hg415) ?_
        obtain ⟨hg418, hx⟩ := xg_some hx
        have hi417 : (((out324.length : Int) - 1).toNat) < out324.length := by omega
        refine ov rfl (fun w' h' => r_ixC Try.underlying60 sz104 rfl rfl ((hM.call h').seeO (.tail _ (.tail _ (.tail _ (.head _))))) hg418) ?_
        refine ov rfl (fun w' h' => r_fldC (i := (((out324.length : Int) - 1).toNat)) Try.underlying104 rfl rfl sz29 rfl ((hM.call h').seeO (.tail _ (.tail _ (.tail _ (.head _))))) hi417) ?_
        replace hM := hM.p3
        obtain ⟨s421, hM, hc422⟩ := hM.leafO (i := (((out324.length : Int) - 1).toNat)) (j := 2) (fun _ => rfl) hi417 rfl
        refine ov rfl (fun w' h' => r_ld Try.underlying29 rfl rfl (hc422 w' h')) ?_
        refine ov rfl (fun w' h' => r_fld Try.underlying104 rfl rfl sz29 rfl) ?_
        refine ov rfl (fun w' h' => r_ldB Try.underlying29 rfl rfl (hM.call h') (.tail _ (.head _)) rfl) ?_
        obtain ⟨r425, h426, hx⟩ := bind_some' hx
        refine o_call rfl rfl (fun w' h' => (hM.call h').callO (l := []) fun X S oL hS hR hO => ct_impl_Compose _ X S ((el out324 (((out324.length : Int) - 1).toNat)).o) s421 ((el r314 k328).o) s349 hS (seeAW hO (.head _) (.head _)) (seeA hO (.tail _ (.tail _ (.head _)))) oL h426) ?_
        rintro w429 h430 _ w427 ⟨s428, rfl, hM⟩
        replace hM : St ⟨w, X, S⟩ [oC (cSl 3 fDPart r425.1) s428.v, oV (oC (cSl 3 fDEntry out324) s326.v) [vR s421.v (cSl 3 fDPart ((el out324 (((out324.length : Int) - 1).toNat)).o)), vC (eaddr s326.v ((((out324.length : Int) - 1).toNat) * 3 + 2)) s421.v], oBox b352 #[(.int .i64 ((el r314 k328).client)), (.int .i64 ((el r314 k328).seq)), s349.v] 104, oC (cSl 3 fDPart ((el r314 k328).o)) s349.v, oEat 3 fDEntry r314 s317.v (k328 + 1)] [] _ := hM
        refine ov rfl (fun w' h' => r_move rfl) ?_
        refine ov rfl (fun w' h' => r_extract rfl rfl) ?_
        refine ov rfl (fun w' h' => r_extract rfl rfl) ?_
        refine ov rfl (fun w' h' => r_assign rfl) ?_
        refine ov rfl (fun w' h' => r_assign rfl) ?_
        refine o_nil fun w437 hw438 => ?_
        have hM := hM.call hw438
        refine sq_n ?_
        refine wc_seq ?_
        refine wc_seq ?_
        refine wc_region ?_
        refine wv rfl (r_move rfl) ?_
        refine wv rfl (r_not rfl) ?_
        refine wl_nil ?_
        refine sq_n ?_
        refine wc_cond rfl (fun hc441 => ?_) (fun hc441 => ?_)
        · replace hx := xif_t hc441 hx
          refine wc_seq ?_
          refine wc_region ?_
          refine wv rfl (r_assign rfl) ?_
          refine wv rfl (r_assign rfl) ?_
          refine wl_nil ?_
          refine sq_n ?_
          refine wc_ret ?_
          refine sq_ret ?_
          refine bk_ret ?_
          refine sq_ret ?_
          refine lp1_ret ?_
          obtain rfl := Option.some.inj hx
          obtain rfl := Option.some.inj hx336
          replace hx := hx322
          try dsimp only [Sum.elim_inl, Sum.elim_inr] at hx
          refine bk_ret ?_
          refine sq_ret ?_
          obtain rfl := Option.some.inj hx
          have hM := hM.nil0 (T := DEntry) 3 fDEntry
          refine fin_ret [nS.v, (.bool false)] ⟨rfl, rfl, trivial⟩ ?_
          replace hM := hM.t1
          have hM := hM.fewer rsN
          exact ⟨nS, rfl, hM.gives⟩
        · replace hx := xif_f hc441 hx
          refine wc_skip ?_
          refine sq_n ?_
          refine wc_region ?_
          refine wv rfl (r_move rfl) ?_
          refine wv rfl (r_move rfl) ?_
          obtain ⟨hg448, hx⟩ := xg_some hx
          refine wv rfl (r_sub rfl rfl hg448) ?_
          refine wv rfl (r_fld Try.underlying104 rfl rfl sz3 rfl) ?_
          refine wv rfl (r_ldB Try.underlying3 rfl rfl hM (.tail _ (.tail _ (.head _))) rfl) ?_
          refine wv rfl (r_fld Try.underlying104 rfl rfl sz3 rfl) ?_
          refine wv rfl (r_ldB Try.underlying3 rfl rfl hM (.tail _ (.tail _ (.head _))) rfl) ?_
          refine wv rfl (r_move rfl) ?_
          refine wv rfl (r_build (cells := #[(.int .i64 ((el r314 k328).client)), (.int .i64 ((el r314 k328).seq)), s428.v]) rfl (by kernel_rfl)) ?_
          obtain ⟨hg457, hx⟩ := xg_some hx
          have hi456 : (((out324.length : Int) - 1).toNat) < out324.length := by omega
          refine wv rfl (r_ixC Try.underlying60 sz104 rfl rfl (hM.seeOV (.tail _ (.head _))) hg457) ?_
          replace hM := hM.p1
          replace hM : St ⟨w, X, S⟩ [oC (cSl 3 fDEntry out324) s326.v, oC (cSl 3 fDPart r425.1) s428.v, oBox b352 #[(.int .i64 ((el r314 k328).client)), (.int .i64 ((el r314 k328).seq)), s349.v] 104, oC (cSl 3 fDPart ((el r314 k328).o)) s349.v, oEat 3 fDEntry r314 s317.v (k328 + 1)] [] _ := hM.unview
          refine w_exu (x_stE (f := fDEntry) (k := 3) (L := out324) (i := (((out324.length : Int) - 1).toNat)) (j := 0) (⟨(el r314 k328).client, (el r314 k328).seq, r425.1⟩ : DEntry) [cI ((el r314 k328).client), cI ((el r314 k328).seq), cSl 3 fDPart r425.1] sz104 (fun _ => rfl) rfl rfl hi456 rfl rfl rfl rfl rfl (fun _ => zP (pV _ rfl) (zP (pV _ rfl) (zO zN))) hM ?_); intro w458 hM
          refine wl_nil ?_
          refine bk_n ?_
          refine sq_n ?_
          refine wc_region ?_
          refine wv rfl (r_add rfl rfl ⟨by omega, by omega⟩) ?_
          refine wv rfl (r_move rfl) ?_
          refine wl_nil ?_
          obtain rfl := Option.some.inj hx
          replace hM := hM.p3
          replace hM := hM.t2
          exact lp_end (m334, k328 + 1, out324.set (((out324.length : Int) - 1).toNat) (⟨(el r314 k328).client, (el r314 k328).seq, r425.1⟩ : DEntry), s326) (Nat.lt_succ_self _) ⟨rfl, rfl, rfl, rfl, trivial⟩ ⟨hM, hx336, hk329⟩
  · replace hc333 := of_decide_eq_false hc333
    obtain rfl := eachN_end hx hk329 hc333
    refine wc_exit ?_
    refine sq_exit ?_
    refine lp1_exit ?_
    replace hx := hx322
    try dsimp only [Sum.elim_inl, Sum.elim_inr] at hx
    refine bk_here ?_
    refine sq_n ?_
    refine wc_seq ?_
    refine wc_region ?_
    refine wv rfl (r_move rfl) ?_
    refine wv rfl (r_assign rfl) ?_
    refine wv rfl (r_assign rfl) ?_
    refine wl_nil ?_
    refine sq_n ?_
    refine wc_ret ?_
    obtain rfl := Option.some.inj hx
    refine fin_ret [s326.v, (.bool true)] ⟨rfl, rfl, trivial⟩ ?_
    replace hM := hM.p1
    replace hM := hM.t1
    have hM := hM.fewer rsN
    exact ⟨s326, rfl, hM.gives⟩

noncomputable def x_spec_EntryOk (e : DEntry) : Option Bool :=
  Option.bind (x_spec_l01In e.client 1 8) fun r8 => Option.bind (bif r8 then (Option.bind (x_spec_l01In e.seq 1 1000000000) fun r23 => some r23) else (some false)) fun c13 => Option.bind (bif c13 then (Option.bind (x_spec_IsNorm e.o) fun r38 => some r38) else (some false)) fun c28 => some c28
theorem ct_spec_EntryOk (w : World) (X S : Bs) (e : DEntry) (s_e_2 : Sv) (hS : ∀ b, S b → b < w.heap.size ∧ ¬ X b) (a_e_2 : (cSl 3 fDPart e.o).rd S w s_e_2.v) (oL : Sep [] X w) {r : Bool} (hx : x_spec_EntryOk e = some r) :
    Ret Try.prog 70 [(.agg #[(.int .i64 e.client), (.int .i64 e.seq), s_e_2.v])] w (fun u w' => ∃ _ : Unit, u = (.bool r) ∧ Gives X S w [] [] w') := by
  unfold x_spec_EntryOk at hx
  refine enter Try.func70 rfl Try.ntmps70 (by kernel_rfl) rfl ?_
  have hM := St.enter oL hS
  have hM := hM.addE (r := rV s_e_2.v (cSl 3 fDPart e.o)) a_e_2
  refine wc_seq ?_
  refine wc_region ?_
  refine w_ex rfl (x_box rfl hM ?_); intro b44 w43 hR45 hM
  replace hM : St ⟨w, X, S⟩ [oBox b44 #[(.int .i64 e.client), (.int .i64 e.seq), s_e_2.v] 104] [rV s_e_2.v (cSl 3 fDPart e.o)] _ := hM
  refine wv rfl (r_assign rfl) ?_
  refine wl_nil ?_
  refine sq_n ?_
  refine wc_seq ?_
  refine wc_region ?_
  refine wv rfl (r_fld Try.underlying104 rfl rfl sz3 rfl) ?_
  refine wv rfl (r_ldB Try.underlying3 rfl rfl hM (.head _) rfl) ?_
  obtain ⟨r50, h51, hx⟩ := bind_some' hx
  refine w_call rfl rfl (hM.callV fun X S oL hS hR hO => ct_spec_l01In _ X S e.client (1 : Int) (8 : Int) hS  oL h51) ?_
  rintro _ w52 ⟨rfl, hR53⟩
  have hM := hM.call hR53
  refine wv rfl (r_move rfl) ?_
  obtain ⟨c55, hx, hx63⟩ := bind_some' hx
  refine wl_mid 4 (fun _ : Unit => [(10, (.bool c55)), (1, (.pointer (some ⟨b44, 0, none⟩)))]) (fun _ w' => St ⟨w, X, S⟩ [oBox b44 #[(.int .i64 e.client), (.int .i64 e.seq), s_e_2.v] 104] [rV s_e_2.v (cSl 3 fDPart e.o)] w') ?_ ?_
  · rcases Bool.eq_false_or_eq_true r50 with hg56 | hg56
    · replace hx := xif_t hg56 hx
      refine gv rfl hg56 rfl (r_fld Try.underlying104 rfl rfl sz3 rfl) ?_
      refine gv rfl hg56 rfl (r_ldB Try.underlying3 rfl rfl hM (.head _) rfl) ?_
      obtain ⟨r66, h67, hx⟩ := bind_some' hx
      refine gc rfl hg56 rfl rfl (hM.callV fun X S oL hS hR hO => ct_spec_l01In _ X S e.seq (1 : Int) (1000000000 : Int) hS  oL h67) ?_
      rintro _ w68 ⟨rfl, hR69⟩
      have hM := hM.call hR69
      refine wv rfl (p_t rfl hg56 rfl) ?_
      obtain rfl := Option.some.inj hx
      exact mid_nil () ⟨rfl, rfl, trivial⟩ hM
    · replace hx := xif_f hg56 hx
      refine gs rfl (isB_no hg56) rfl ?_
      refine gs rfl (isB_no hg56) rfl ?_
      refine gs rfl (isB_no hg56) rfl ?_
      refine wv rfl (p_f rfl hg56 rfl) ?_
      obtain rfl := Option.some.inj hx
      exact mid_nil () ⟨rfl, rfl, trivial⟩ hM
  rintro _ w70 hM
  replace hx := hx63
  refine wv rfl (r_move rfl) ?_
  obtain ⟨c72, hx, hx80⟩ := bind_some' hx
  refine wl_mid 4 (fun _ : Unit => [(15, (.bool c72))]) (fun _ w' => St ⟨w, X, S⟩ [oBox b44 #[(.int .i64 e.client), (.int .i64 e.seq), s_e_2.v] 104] [rV s_e_2.v (cSl 3 fDPart e.o)] w') ?_ ?_
  · rcases Bool.eq_false_or_eq_true c55 with hg73 | hg73
    · replace hx := xif_t hg73 hx
      refine gv rfl hg73 rfl (r_fld Try.underlying104 rfl rfl sz29 rfl) ?_
      refine gv rfl hg73 rfl (r_ldB Try.underlying29 rfl rfl hM (.head _) rfl) ?_
      obtain ⟨r83, h84, hx⟩ := bind_some' hx
      refine gc rfl hg73 rfl rfl (hM.callV fun X S oL hS hR hO => ct_spec_IsNorm _ X S e.o s_e_2 hS (hR _ (.head _)) oL h84) ?_
      rintro _ w85 ⟨rfl, hR86⟩
      have hM := hM.call hR86
      refine wv rfl (p_t rfl hg73 rfl) ?_
      obtain rfl := Option.some.inj hx
      exact mid_nil () ⟨rfl, trivial⟩ hM
    · replace hx := xif_f hg73 hx
      refine gs rfl (isB_no hg73) rfl ?_
      refine gs rfl (isB_no hg73) rfl ?_
      refine gs rfl (isB_no hg73) rfl ?_
      refine wv rfl (p_f rfl hg73 rfl) ?_
      obtain rfl := Option.some.inj hx
      exact mid_nil () ⟨rfl, trivial⟩ hM
  rintro _ w87 hM
  replace hx := hx80
  refine wv rfl (r_assign rfl) ?_
  refine wl_nil ?_
  refine sq_n ?_
  refine wc_ret ?_
  obtain rfl := Option.some.inj hx
  refine fin_ret [(.bool c72)] ⟨rfl, trivial⟩ ?_
  replace hM := hM.t0
  have hM := hM.fewer rsN
  exact ⟨(), rfl, hM.gives⟩

noncomputable def x_spec_l02Copy_b0 (_o : List DPart) (_k10 : Nat) (x112 : DPart) (out11 : List DPart) : Option (Lr (List DPart) (List DPart)) :=
  xg (0 + (x112.signs).length ≤ 1099511627776) <| xg (out11.length + [(⟨x112.kind, x112.n, [] ++ (x112.signs)⟩ : DPart)].length ≤ 1099511627776) <| some (Lr.go (out11 ++ [(⟨x112.kind, x112.n, [] ++ (x112.signs)⟩ : DPart)]))
noncomputable def x_spec_l02Copy_f0 (o : List DPart) (k10 : Nat) (s113 : List DPart) : Option (Lr (List DPart) (List DPart)) := x_spec_l02Copy_b0 o k10 (el o k10) s113
noncomputable def x_spec_l02Copy (o : List DPart) : Option (List DPart) :=
  Option.bind (eachN (x_spec_l02Copy_f0 o) (fun (s113 : List DPart) => (s113 : List DPart)) o.length 0 []) fun (y114 : List DPart) => some y114
theorem ct_spec_l02Copy (w : World) (X S : Bs) (o : List DPart) (s_o : Sv) (hS : ∀ b, S b → b < w.heap.size ∧ ¬ X b) (a_o_0 : (cSl 3 fDPart o).rd S w s_o.v) (oL : Sep [] X w) {r : List DPart} (hx : x_spec_l02Copy o = some r) :
    Ret Try.prog 99 [s_o.v] w (fun u w' => ∃ y : Sv, u = y.v ∧ Gives X S w [oC (cSl 3 fDPart r) y.v] [] w') := by
  unfold x_spec_l02Copy at hx
  refine enter Try.func99 rfl Try.ntmps99 (by kernel_rfl) rfl ?_
  have hM := St.enter oL hS
  have hM := hM.addE (r := rV s_o.v (cSl 3 fDPart o)) a_o_0
  refine wc_seq ?_
  refine wc_region ?_
  refine wv rfl (r_assign rfl) ?_
  refine wl_nil ?_
  refine sq_n ?_
  refine wc_seq ?_
  refine wc_region ?_
  refine w_ex rfl (x_empty (f := fDPart) Try.underlying29 sz77 (fun _ => rfl) hM ?_); intro s121 w120 hR122 hM
  refine wv rfl (r_assign rfl) ?_
  refine wl_nil ?_
  refine sq_n ?_
  refine wc_seq ?_
  refine wc_seq ?_
  refine wc_region ?_
  refine wv rfl (r_move rfl) ?_
  refine wv rfl (r_lenC Try.underlying29 rfl (hM.seeR (.head _))) ?_
  refine wv rfl (r_move rfl) ?_
  refine wl_nil ?_
  refine sq_n ?_
  refine wc_block ?_
  obtain ⟨y128, hx, hx129⟩ := bind_some' hx
  have hl136 := Cs.le (hM.seeR (.head _))
  refine wc_loop (un fun (m133 : Nat) => un fun (k134 : Nat) => un fun (out130 : List DPart) => fun (s132 : Sv) => [(3, s132.v), (7, s_o.v), (8, (.int .i64 (o.length : Int))), (9, (.int .i64 (k134 : Int)))]) (un fun (m133 : Nat) => un fun (k134 : Nat) => un fun (out130 : List DPart) => fun (s132 : Sv) w' => St ⟨w, X, S⟩ [oC (cSl 3 fDPart out130) s132.v] [rV s_o.v (cSl 3 fDPart o)] w' ∧ eachN _ _ m133 k134 out130 = some y128 ∧ k134 + m133 = o.length) (fun p => p.1) (o.length, 0, [], s121) ⟨rfl, rfl, rfl, rfl, trivial⟩ ⟨hM, hx, Nat.zero_add _⟩ ?_
  rintro ⟨m133, k134, out130, s132⟩ w137 ⟨hM, hx, hk135⟩
  refine wc_seq ?_
  refine wc_region ?_
  refine wv rfl (r_lss rfl rfl) ?_
  refine wl_nil ?_
  refine sq_n ?_
  refine wc_seq ?_
  refine wc_cond rfl (fun hc139 => ?_) (fun hc139 => ?_)
  · replace hc139 := of_decide_eq_true hc139
    obtain ⟨m140, z141, rfl, hk135, hx, hx142⟩ := eachN_step hx hk135 hc139
    unfold x_spec_l02Copy_f0 x_spec_l02Copy_b0 at hx
    try dsimp only at hx
    refine wc_skip ?_
    refine sq_n ?_
    refine wc_seq ?_
    refine wc_block ?_
    refine wc_seq ?_
    refine wc_region ?_
    have hi144 : k134 < o.length := by omega
    refine wv rfl (r_ixC Try.underlying29 sz77 rfl rfl (hM.seeR (.head _)) ⟨by omega, hc139⟩) ?_
    obtain ⟨s146, hM, hc147⟩ := hM.leaf (i := k134) (j := 2) (.head _) (fun _ => rfl) hi144 rfl
    refine wv rfl (r_ldC (o := k134 * 3) Try.underlying77 sz77 rfl (us := [(.int .i64 ((el o k134).kind)), (.int .i64 ((el o k134).n)), s146.v]) rfl (hM.seeR (.tail _ (.head _))) hi144 ⟨(Cs.get (i := k134) (j := 0) (hM.seeR (.tail _ (.head _))) (fun _ => rfl) hi144 rfl), (Cs.get (i := k134) (j := 1) (hM.seeR (.tail _ (.head _))) (fun _ => rfl) hi144 rfl), (hc147 _ (Rel.refl _)), trivial⟩) ?_
    refine w_ex rfl (x_alloc sz77 hM ?_); intro b149 w148 hR150 hM
    replace hM : St ⟨w, X, S⟩ [oBox b149 #[(.int .i64 0), (.int .i64 0), (.slice none 0 0)] 77, oC (cSl 3 fDPart out130) s132.v] [rV s146.v (cSl 1 fI ((el o k134).signs)), rV s_o.v (cSl 3 fDPart o)] _ := hM
    refine w_exu (x_stB #[(.int .i64 ((el o k134).kind)), (.int .i64 ((el o k134).n)), s146.v] sz77 rfl rfl rfl rfl rfl rfl hM ?_); intro w152 hM
    refine wl_nil ?_
    refine sq_n ?_
    refine wc_draw [(0, 0), (1, 0), (2, 0), (3, 0), (4, 0), (6, 0), (7, 0), (5, 1), (8, 1), (9, 0), (10, 2), (11, 2), (12, 0)] Try_mixed (by kernel_rfl) rfl (by kernel_rfl) rfl ?_
    refine ov rfl (fun w' h' => r_move rfl) ?_
    refine ov rfl (fun w' h' => r_fld Try.underlying77 rfl rfl sz3 rfl) ?_
    refine ov rfl (fun w' h' => r_ldB Try.underlying3 rfl rfl (hM.call h') (.head _) rfl) ?_
    refine ov rfl (fun w' h' => r_fld Try.underlying77 rfl rfl sz3 rfl) ?_
    refine ov rfl (fun w' h' => r_ldB Try.underlying3 rfl rfl (hM.call h') (.head _) rfl) ?_
    refine ov rfl (fun w' h' => r_fld Try.underlying77 rfl rfl sz26 rfl) ?_
    refine ov rfl (fun w' h' => r_ldB Try.underlying26 rfl rfl (hM.call h') (.head _) rfl) ?_
    refine o_ex1 rfl fun w164 h165 => ?_
    have hM := hM.call h165
    refine x_empty0 (f := fI) Try.underlying26 sz3 (fun _ => rfl) hM ?_; intro b162 w161 hR163 hM
    refine ⟨hR163, ?_⟩
    replace hM : St ⟨w, X, S⟩ [oC (cSl 1 fI ([] : List Int)) (⟨some ⟨b162, 0, none⟩, 0, 0⟩ : Sv).v, oBox b149 #[(.int .i64 ((el o k134).kind)), (.int .i64 ((el o k134).n)), s146.v] 77, oC (cSl 3 fDPart out130) s132.v] [rV s146.v (cSl 1 fI ((el o k134).signs)), rV s_o.v (cSl 3 fDPart o)] _ := hM
    obtain ⟨hg169, hx⟩ := xg_some hx
    refine o_ex1 rfl fun w171 h172 => ?_
    have hM := hM.call h172
    refine x_append0 (f := fI) Try.underlying26 sz3 rfl rfl (hM.seeR (.head _)) flI hM hg169 rfl ?_; intro s168 w167 hR170 hM
    refine ⟨hR170, ?_⟩
    refine ov rfl (fun w' h' => r_build (cells := #[(.int .i64 ((el o k134).kind)), (.int .i64 ((el o k134).n)), s168.v]) rfl (by kernel_rfl)) ?_
    refine o_ex rfl fun w177 h178 => ?_
    have hM := hM.call h178
    refine x_lit (f := fDPart) (own := [oC (cSl 1 fI ([] ++ ((el o k134).signs))) s168.v]) [(⟨(el o k134).kind, (el o k134).n, [] ++ ((el o k134).signs)⟩ : DPart)] [(.int .i64 ((el o k134).kind)), (.int .i64 ((el o k134).n)), s168.v] 1 Try.underlying29 sz77 (fun _ => rfl) rfl rfl rfl rfl rfl (by kernel_rfl) (fun _ => zP (pV _ rfl) (zP (pV _ rfl) (zO zN))) hM ?_; intro s175 w174 hR176 hM
    replace hM := hM.p2
    obtain ⟨hg182, hx⟩ := xg_some hx
    refine o_ex rfl fun w184 h185 => ?_
    have hM := hM.call h185
    refine x_appendO Try.underlying29 sz77 rfl rfl hM hg182 rfl ?_; intro s181 w180 hM
    refine ov rfl (fun w' h' => r_assign rfl) ?_
    refine o_nil fun w187 hw188 => ?_
    have hM := hM.call hw188
    refine bk_n ?_
    refine sq_n ?_
    refine wc_region ?_
    refine wv rfl (r_add rfl rfl ⟨by omega, by omega⟩) ?_
    refine wv rfl (r_move rfl) ?_
    refine wl_nil ?_
    obtain rfl := Option.some.inj hx
    replace hM := hM.t1
    have hM := hM.fewer (rsC (.tail _ (.head _)) rsN)
    replace hM : St ⟨w, X, S⟩ [oC (cSl 3 fDPart (out130 ++ [(⟨(el o k134).kind, (el o k134).n, [] ++ ((el o k134).signs)⟩ : DPart)])) s181.v] [rV s_o.v (cSl 3 fDPart o)] _ := hM
    exact lp_end (m140, k134 + 1, out130 ++ [(⟨(el o k134).kind, (el o k134).n, [] ++ ((el o k134).signs)⟩ : DPart)], s181) (Nat.lt_succ_self _) ⟨rfl, rfl, rfl, rfl, trivial⟩ ⟨hM, hx142, hk135⟩
  · replace hc139 := of_decide_eq_false hc139
    obtain rfl := eachN_end hx hk135 hc139
    refine wc_exit ?_
    refine sq_exit ?_
    refine lp1_exit ?_
    replace hx := hx129
    try dsimp only [Sum.elim_inl, Sum.elim_inr] at hx
    refine bk_here ?_
    refine sq_n ?_
    refine wc_seq ?_
    refine wc_region ?_
    refine wv rfl (r_move rfl) ?_
    refine wv rfl (r_assign rfl) ?_
    refine wl_nil ?_
    refine sq_n ?_
    refine wc_ret ?_
    obtain rfl := Option.some.inj hx
    refine fin_ret [s132.v] ⟨rfl, trivial⟩ ?_
    replace hM := hM.t1
    have hM := hM.fewer rsN
    exact ⟨s132, rfl, hM.gives⟩

noncomputable def x_spec_l08Entry (e : DEntry) : Option DEntry :=
  Option.bind (x_spec_l02Copy e.o) fun r15 => some (⟨e.client, e.seq, r15⟩ : DEntry)
theorem ct_spec_l08Entry (w : World) (X S : Bs) (e : DEntry) (s_e_2 : Sv) (hS : ∀ b, S b → b < w.heap.size ∧ ¬ X b) (a_e_2 : (cSl 3 fDPart e.o).rd S w s_e_2.v) (oL : Sep [] X w) {r : DEntry} (hx : x_spec_l08Entry e = some r) :
    Ret Try.prog 71 [(.agg #[(.int .i64 e.client), (.int .i64 e.seq), s_e_2.v])] w (fun u w' => ∃ y : Sv, u = .agg #[(.int .i64 r.client), (.int .i64 r.seq), y.v] ∧ Gives X S w [oC (cSl 3 fDPart r.o) y.v] [] w') := by
  unfold x_spec_l08Entry at hx
  refine enter Try.func71 rfl Try.ntmps71 (by kernel_rfl) rfl ?_
  have hM := St.enter oL hS
  have hM := hM.addE (r := rV s_e_2.v (cSl 3 fDPart e.o)) a_e_2
  refine wc_seq ?_
  refine wc_region ?_
  refine w_ex rfl (x_box rfl hM ?_); intro b31 w30 hR32 hM
  replace hM : St ⟨w, X, S⟩ [oBox b31 #[(.int .i64 e.client), (.int .i64 e.seq), s_e_2.v] 104] [rV s_e_2.v (cSl 3 fDPart e.o)] _ := hM
  refine w_ex rfl (x_alloc sz104 hM ?_); intro b35 w34 hR36 hM
  replace hM : St ⟨w, X, S⟩ [oBox b35 #[(.int .i64 0), (.int .i64 0), (.slice none 0 0)] 104, oBox b31 #[(.int .i64 e.client), (.int .i64 e.seq), s_e_2.v] 104] [rV s_e_2.v (cSl 3 fDPart e.o)] _ := hM
  refine wl_nil ?_
  refine sq_n ?_
  refine wc_seq ?_
  refine wc_draw [(0, 0), (1, 0), (2, 0), (3, 0), (4, 0), (5, 0), (6, 1), (7, 0), (8, 2)] Try_mixed (by kernel_rfl) rfl (by kernel_rfl) rfl ?_
  refine ov rfl (fun w' h' => r_fld Try.underlying104 rfl rfl sz3 rfl) ?_
  refine ov rfl (fun w' h' => r_ldB Try.underlying3 rfl rfl (hM.call h') (.tail _ (.head _)) rfl) ?_
  refine ov rfl (fun w' h' => r_fld Try.underlying104 rfl rfl sz3 rfl) ?_
  refine ov rfl (fun w' h' => r_ldB Try.underlying3 rfl rfl (hM.call h') (.tail _ (.head _)) rfl) ?_
  refine ov rfl (fun w' h' => r_fld Try.underlying104 rfl rfl sz29 rfl) ?_
  refine ov rfl (fun w' h' => r_ldB Try.underlying29 rfl rfl (hM.call h') (.tail _ (.head _)) rfl) ?_
  obtain ⟨r44, h45, hx⟩ := bind_some' hx
  refine o_forced rfl rfl (fun w' h' => (hM.call h').callF fun X S oL hS hR hO => ct_spec_l02Copy _ X S e.o s_e_2 hS (hR _ (.head _)) oL h45) ?_
  rintro w48 h49 _ w46 ⟨hR50, s47, rfl, hM⟩
  refine ⟨hR50, ?_⟩
  replace hM : St ⟨w, X, S⟩ [oC (cSl 3 fDPart r44) s47.v, oBox b35 #[(.int .i64 0), (.int .i64 0), (.slice none 0 0)] 104, oBox b31 #[(.int .i64 e.client), (.int .i64 e.seq), s_e_2.v] 104] [rV s_e_2.v (cSl 3 fDPart e.o)] _ := hM
  refine ov rfl (fun w' h' => r_build (cells := #[(.int .i64 e.client), (.int .i64 e.seq), s47.v]) rfl (by kernel_rfl)) ?_
  replace hM := hM.p1
  refine o_exu fun w55 h56 => ?_
  have hM := hM.call h56
  refine x_stB #[(.int .i64 e.client), (.int .i64 e.seq), s47.v] sz104 rfl rfl rfl rfl rfl rfl hM ?_; intro w53 hM
  refine o_nil fun w57 hw58 => ?_
  have hM := hM.call hw58
  refine sq_n ?_
  refine wc_ret ?_
  obtain rfl := Option.some.inj hx
  refine fin_ret [(.agg #[(.int .i64 e.client), (.int .i64 e.seq), s47.v])] ⟨rv_box Try.underlying104 sz104 rfl rfl hM (.head _), trivial⟩ ?_
  replace hM := hM.p1
  replace hM := hM.t1
  have hM := hM.fewer rsN
  exact ⟨s47, rfl, hM.gives⟩

noncomputable def x_spec_Squash_b0 (_l : List DEntry) (_k11 : Nat) (x235 : DEntry) (out12 : List DEntry) : Option (Lr (List DEntry) (Sum (List DEntry) Unit)) :=
  Option.bind (x_spec_EntryOk x235) fun r138 => bif !r138 then (some (Lr.out (Sum.inr (())))) else (xg (inI ((out12.length : Int) - 1)) <| Option.bind (bif decide (((out12.length : Int) - 1) < 0) then (some true) else (xg (0 ≤ ((out12.length : Int) - 1) ∧ ((out12.length : Int) - 1) < (out12.length : Int)) <| some (!decide (((el out12 (((out12.length : Int) - 1).toNat)).client) = (x235.client))))) fun c153 => bif c153 then (Option.bind (x_spec_l08Entry x235) fun r179 => xg (out12.length < 1099511627776) <| some (Lr.go (out12 ++ [r179]))) else (xg (0 ≤ ((out12.length : Int) - 1) ∧ ((out12.length : Int) - 1) < (out12.length : Int)) <| Option.bind (x_spec_Compose ((el out12 (((out12.length : Int) - 1).toNat)).o) (x235.o)) fun r202 => bif !r202.2 then (some (Lr.out (Sum.inr (())))) else (xg (0 ≤ ((out12.length : Int) - 1) ∧ ((out12.length : Int) - 1) < (out12.length : Int)) <| some (Lr.go (out12.set (((out12.length : Int) - 1).toNat) (⟨x235.client, x235.seq, r202.1⟩ : DEntry))))))
noncomputable def x_spec_Squash_f0 (l : List DEntry) (k11 : Nat) (s236 : List DEntry) : Option (Lr (List DEntry) (Sum (List DEntry) Unit)) := x_spec_Squash_b0 l k11 (el l k11) s236
noncomputable def x_spec_Squash (l : List DEntry) : Option (List DEntry × Bool) :=
  Option.bind (eachN (x_spec_Squash_f0 l) (fun (s236 : List DEntry) => (Sum.inl s236 : Sum (List DEntry) Unit)) l.length 0 []) fun (y237 : Sum (List DEntry) Unit) => Sum.elim (fun y238 => some (y238, true)) (fun _y239 => some ([], false)) y237
theorem ct_spec_Squash (w : World) (X S : Bs) (l : List DEntry) (s_l : Sv) (hS : ∀ b, S b → b < w.heap.size ∧ ¬ X b) (a_l_0 : (cSl 3 fDEntry l).rd S w s_l.v) (oL : Sep [] X w) {r : List DEntry × Bool} (hx : x_spec_Squash l = some r) :
    Ret Try.prog 33 [s_l.v] w (fun u w' => ∃ y : Sv, u = .tuple #[y.v, (.bool r.2)] ∧ Gives X S w [oC (cSl 3 fDEntry r.1) y.v] [] w') := by
  unfold x_spec_Squash at hx
  refine enter Try.func33 rfl Try.ntmps33 (by kernel_rfl) rfl ?_
  have hM := St.enter oL hS
  have hM := hM.addE (r := rV s_l.v (cSl 3 fDEntry l)) a_l_0
  refine wc_seq ?_
  refine wc_region ?_
  refine wv rfl (r_assign rfl) ?_
  refine wv rfl (r_assign rfl) ?_
  refine wl_nil ?_
  refine sq_n ?_
  refine wc_seq ?_
  refine wc_region ?_
  refine w_ex rfl (x_empty (f := fDEntry) Try.underlying60 sz104 (fun _ => rfl) hM ?_); intro s248 w247 hR249 hM
  refine wv rfl (r_assign rfl) ?_
  refine wl_nil ?_
  refine sq_n ?_
  refine wc_seq ?_
  refine wc_seq ?_
  refine wc_region ?_
  refine wv rfl (r_move rfl) ?_
  refine wv rfl (r_lenC Try.underlying60 rfl (hM.seeR (.head _))) ?_
  refine wv rfl (r_move rfl) ?_
  refine wl_nil ?_
  refine sq_n ?_
  refine wc_block ?_
  obtain ⟨y255, hx, hx256⟩ := bind_some' hx
  have hl263 := Cs.le (hM.seeR (.head _))
  refine wc_loop (un fun (m260 : Nat) => un fun (k261 : Nat) => un fun (out257 : List DEntry) => fun (s259 : Sv) => [(4, s259.v), (11, s_l.v), (12, (.int .i64 (l.length : Int))), (13, (.int .i64 (k261 : Int)))]) (un fun (m260 : Nat) => un fun (k261 : Nat) => un fun (out257 : List DEntry) => fun (s259 : Sv) w' => St ⟨w, X, S⟩ [oC (cSl 3 fDEntry out257) s259.v] [rV s_l.v (cSl 3 fDEntry l)] w' ∧ eachN _ _ m260 k261 out257 = some y255 ∧ k261 + m260 = l.length) (fun p => p.1) (l.length, 0, [], s248) ⟨rfl, rfl, rfl, rfl, trivial⟩ ⟨hM, hx, Nat.zero_add _⟩ ?_
  rintro ⟨m260, k261, out257, s259⟩ w264 ⟨hM, hx, hk262⟩
  refine wc_seq ?_
  refine wc_region ?_
  refine wv rfl (r_lss rfl rfl) ?_
  refine wl_nil ?_
  refine sq_n ?_
  refine wc_seq ?_
  refine wc_cond rfl (fun hc266 => ?_) (fun hc266 => ?_)
  · replace hc266 := of_decide_eq_true hc266
    obtain ⟨m267, z268, rfl, hk262, hx, hx269⟩ := eachN_step hx hk262 hc266
    unfold x_spec_Squash_f0 x_spec_Squash_b0 at hx
    try dsimp only at hx
    refine wc_skip ?_
    refine sq_n ?_
    refine wc_seq ?_
    refine wc_block ?_
    refine wc_seq ?_
    refine wc_region ?_
    have hi271 : k261 < l.length := by omega
    refine wv rfl (r_ixC Try.underlying60 sz104 rfl rfl (hM.seeR (.head _)) ⟨by omega, hc266⟩) ?_
    obtain ⟨s273, hM, hc274⟩ := hM.leaf (i := k261) (j := 2) (.head _) (fun _ => rfl) hi271 rfl
    refine wv rfl (r_ldC (o := k261 * 3) Try.underlying104 sz104 rfl (us := [(.int .i64 ((el l k261).client)), (.int .i64 ((el l k261).seq)), s273.v]) rfl (hM.seeR (.tail _ (.head _))) hi271 ⟨(Cs.get (i := k261) (j := 0) (hM.seeR (.tail _ (.head _))) (fun _ => rfl) hi271 rfl), (Cs.get (i := k261) (j := 1) (hM.seeR (.tail _ (.head _))) (fun _ => rfl) hi271 rfl), (hc274 _ (Rel.refl _)), trivial⟩) ?_
    refine w_ex rfl (x_alloc sz104 hM ?_); intro b276 w275 hR277 hM
    replace hM : St ⟨w, X, S⟩ [oBox b276 #[(.int .i64 0), (.int .i64 0), (.slice none 0 0)] 104, oC (cSl 3 fDEntry out257) s259.v] [rV s273.v (cSl 3 fDPart ((el l k261).o)), rV s_l.v (cSl 3 fDEntry l)] _ := hM
    refine w_exu (x_stB #[(.int .i64 ((el l k261).client)), (.int .i64 ((el l k261).seq)), s273.v] sz104 rfl rfl rfl rfl rfl rfl hM ?_); intro w279 hM
    refine wl_nil ?_
    refine sq_n ?_
    refine wc_seq ?_
    refine wc_seq ?_
    refine wc_region ?_
    refine wv rfl (r_ldBS Try.underlying104 sz104 rfl (us := [(.int .i64 ((el l k261).client)), (.int .i64 ((el l k261).seq)), s273.v]) rfl hM (.head _) rfl) ?_
    obtain ⟨r282, h283, hx⟩ := bind_some' hx
    refine w_call rfl rfl (hM.callV fun X S oL hS hR hO => ct_spec_EntryOk _ X S (el l k261) s273 hS (hR _ (.head _)) oL h283) ?_
    rintro _ w284 ⟨rfl, hR285⟩
    have hM := hM.call hR285
    refine wv rfl (r_not rfl) ?_
    refine wl_nil ?_
    refine sq_n ?_
    refine wc_cond rfl (fun hc287 => ?_) (fun hc287 => ?_)
    · replace hx := xif_t hc287 hx
      refine wc_seq ?_
      refine wc_region ?_
      refine wv rfl (r_assign rfl) ?_
      refine wv rfl (r_assign rfl) ?_
      refine wl_nil ?_
      refine sq_n ?_
      refine wc_ret ?_
      refine sq_ret ?_
      refine bk_ret ?_
      refine sq_ret ?_
      refine lp1_ret ?_
      obtain rfl := Option.some.inj hx
      obtain rfl := Option.some.inj hx269
      replace hx := hx256
      try dsimp only [Sum.elim_inl, Sum.elim_inr] at hx
      refine bk_ret ?_
      refine sq_ret ?_
      obtain rfl := Option.some.inj hx
      have hM := hM.nil0 (T := DEntry) 3 fDEntry
      refine fin_ret [nS.v, (.bool false)] ⟨rfl, rfl, trivial⟩ ?_
      replace hM := hM.t1
      have hM := hM.fewer rsN
      exact ⟨nS, rfl, hM.gives⟩
    · replace hx := xif_f hc287 hx
      refine wc_skip ?_
      refine sq_n ?_
      refine wc_seq ?_
      refine wc_region ?_
      refine wv rfl (r_move rfl) ?_
      refine wv rfl (r_lenC Try.underlying60 rfl (hM.seeO (.tail _ (.head _)))) ?_
      obtain ⟨hg294, hx⟩ := xg_some hx
      refine wv rfl (r_sub rfl rfl hg294) ?_
      refine wv rfl (r_assign rfl) ?_
      refine wl_nil ?_
      refine sq_n ?_
      refine wc_seq ?_
      refine wc_seq ?_
      refine wc_draw [(0, 0), (1, 0), (2, 0), (3, 0), (4, 0), (5, 0), (6, 0), (7, 0), (8, 0), (9, 0), (10, 0), (11, 0)] Try_mixed (by kernel_rfl) rfl (by kernel_rfl) rfl ?_
      refine ov rfl (fun w' h' => r_move rfl) ?_
      refine ov rfl (fun w' h' => r_lss rfl rfl) ?_
      refine ov rfl (fun w' h' => r_move rfl) ?_
      obtain ⟨c299, hx, hx311⟩ := bind_some' hx
      refine wo_mid 9 [(34, (.bool c299)), (4, s259.v), (6, (.pointer (some ⟨b276, 0, none⟩))), (7, (.int .i64 ((out257.length : Int) - 1))), (11, s_l.v), (12, (.int .i64 (l.length : Int))), (13, (.int .i64 (k261 : Int)))] rfl ?_ ?_
      · rcases Bool.eq_false_or_eq_true (decide (((out257.length : Int) - 1) < 0)) with hg300 | hg300
        · replace hx := xif_t hg300 hx
          refine ogs rfl (isB_no hg300) rfl ?_
          refine ogs rfl (isB_no hg300) rfl ?_
          refine ogs rfl (isB_no hg300) rfl ?_
          refine ogs rfl (isB_no hg300) rfl ?_
          refine ogs rfl (isB_no hg300) rfl ?_
          refine ogs rfl (isB_no hg300) rfl ?_
          refine ogs rfl (isB_no hg300) rfl ?_
          refine ogs rfl (isB_no hg300) rfl ?_
          refine ov rfl (fun w' h' => p_t rfl hg300 rfl) ?_
          obtain rfl := Option.some.inj hx
          exact mid_onil ⟨rfl, rfl, rfl, rfl, rfl, rfl, rfl, trivial⟩
        · replace hx := xif_f hg300 hx
          refine ogv rfl hg300 rfl (fun w' h' => r_move rfl) ?_
          refine ogv rfl hg300 rfl (fun w' h' => r_move rfl) ?_
          obtain ⟨hg316, hx⟩ := xg_some hx
          have hi315 : (((out257.length : Int) - 1).toNat) < out257.length := by omega
          refine ogv rfl hg300 rfl (fun w' h' => r_ixC Try.underlying60 sz104 rfl rfl ((hM.call h').seeO (.tail _ (.head _))) hg316) ?_
          refine ogv rfl hg300 rfl (fun w' h' => r_fldC (i := (((out257.length : Int) - 1).toNat)) Try.underlying104 rfl rfl sz3 rfl ((hM.call h').seeO (.tail _ (.head _))) hi315) ?_
          refine ogv rfl hg300 rfl (fun w' h' => r_ld Try.underlying3 rfl rfl (Cs.get (i := (((out257.length : Int) - 1).toNat)) (j := 0) ((hM.call h').seeO (.tail _ (.head _))) (fun _ => rfl) hi315 rfl)) ?_
          refine ogv rfl hg300 rfl (fun w' h' => r_fld Try.underlying104 rfl rfl sz3 rfl) ?_
          refine ogv rfl hg300 rfl (fun w' h' => r_ldB Try.underlying3 rfl rfl (hM.call h') (.head _) rfl) ?_
          refine ogv rfl hg300 rfl (fun w' h' => r_neq rfl rfl) ?_
          refine ov rfl (fun w' h' => p_f rfl hg300 rfl) ?_
          obtain rfl := Option.some.inj hx
          exact mid_onil ⟨rfl, rfl, rfl, rfl, rfl, rfl, rfl, trivial⟩
      replace hx := hx311
      refine o_nil fun w322 hw323 => ?_
      have hM := hM.call hw323
      refine sq_n ?_
      refine wc_cond rfl (fun hc324 => ?_) (fun hc324 => ?_)
      · replace hx := xif_t hc324 hx
        refine wc_seq ?_
        refine wc_region ?_
        refine wv rfl (r_move rfl) ?_
        refine wv rfl (r_ldBS Try.underlying104 sz104 rfl (us := [(.int .i64 ((el l k261).client)), (.int .i64 ((el l k261).seq)), s273.v]) rfl hM (.head _) rfl) ?_
        obtain ⟨r327, h328, hx⟩ := bind_some' hx
        refine w_call rfl rfl (hM.callO (l := []) fun X S oL hS hR hO => ct_spec_l08Entry _ X S (el l k261) s273 hS (hR _ (.head _)) oL h328) ?_
        rintro _ w329 ⟨s330, rfl, hM⟩
        replace hM : St ⟨w, X, S⟩ [oC (cSl 3 fDPart r327.o) s330.v, oBox b276 #[(.int .i64 ((el l k261).client)), (.int .i64 ((el l k261).seq)), s273.v] 104, oC (cSl 3 fDEntry out257) s259.v] [rV s273.v (cSl 3 fDPart ((el l k261).o)), rV s_l.v (cSl 3 fDEntry l)] _ := hM
        replace hM := hM.p2
        obtain ⟨hg335, hx⟩ := xg_some hx
        refine w_push (f := fDEntry) r327 rfl rfl Try.underlying60 sz104 rfl rfl rfl rfl (fun _ => rfl) hM (fun _ => zP (pV _ rfl) (zP (pV _ rfl) (zO zN))) rfl hg335 rfl ?_; intro u333 s334 w332 hM
        refine wv rfl (r_assign rfl) ?_
        refine wl_nil ?_
        refine sq_n ?_
        refine wc_exit ?_
        refine sq_exit ?_
        refine bk_here ?_
        refine sq_n ?_
        refine wc_region ?_
        refine wv rfl (r_add rfl rfl ⟨by omega, by omega⟩) ?_
        refine wv rfl (r_move rfl) ?_
        refine wl_nil ?_
        obtain rfl := Option.some.inj hx
        replace hM := hM.t1
        have hM := hM.fewer (rsC (.tail _ (.head _)) rsN)
        replace hM : St ⟨w, X, S⟩ [oC (cSl 3 fDEntry (out257 ++ [r327])) s334.v] [rV s_l.v (cSl 3 fDEntry l)] _ := hM
        exact lp_end (m267, k261 + 1, out257 ++ [r327], s334) (Nat.lt_succ_self _) ⟨rfl, rfl, rfl, rfl, trivial⟩ ⟨hM, hx269, hk262⟩
      · replace hx := xif_f hc324 hx
        refine wc_skip ?_
        refine sq_n ?_
        refine wc_seq ?_
        refine wc_draw [(0, 0), (1, 0), (2, 0), (3, 0), (4, 0), (5, 0), (6, 0), (7, 2), (8, 0), (9, 0), (10, 0), (11, 0), (12, 0)] Try_mixed (by kernel_rfl) rfl (by kernel_rfl) rfl ?_
        refine ov rfl (fun w' h' => r_move rfl) ?_
        refine ov rfl (fun w' h' => r_move rfl) ?_
        obtain ⟨hg343, hx⟩ := xg_some hx
        have hi342 : (((out257.length : Int) - 1).toNat) < out257.length := by omega
        refine ov rfl (fun w' h' => r_ixC Try.underlying60 sz104 rfl rfl ((hM.call h').seeO (.tail _ (.head _))) hg343) ?_
        refine ov rfl (fun w' h' => r_fldC (i := (((out257.length : Int) - 1).toNat)) Try.underlying104 rfl rfl sz29 rfl ((hM.call h').seeO (.tail _ (.head _))) hi342) ?_
        replace hM := hM.p1
        obtain ⟨s346, hM, hc347⟩ := hM.leafO (i := (((out257.length : Int) - 1).toNat)) (j := 2) (fun _ => rfl) hi342 rfl
        refine ov rfl (fun w' h' => r_ld Try.underlying29 rfl rfl (hc347 w' h')) ?_
        refine ov rfl (fun w' h' => r_fld Try.underlying104 rfl rfl sz29 rfl) ?_
        refine ov rfl (fun w' h' => r_ldB Try.underlying29 rfl rfl (hM.call h') (.tail _ (.head _)) rfl) ?_
        obtain ⟨r350, h351, hx⟩ := bind_some' hx
        refine o_call rfl rfl (fun w' h' => (hM.call h').callO (l := []) fun X S oL hS hR hO => ct_spec_Compose _ X S ((el out257 (((out257.length : Int) - 1).toNat)).o) s346 ((el l k261).o) s273 hS (seeAW hO (.head _) (.head _)) (hR _ (.head _)) oL h351) ?_
        rintro w354 h355 _ w352 ⟨s353, rfl, hM⟩
        replace hM : St ⟨w, X, S⟩ [oC (cSl 3 fDPart r350.1) s353.v, oV (oC (cSl 3 fDEntry out257) s259.v) [vR s346.v (cSl 3 fDPart ((el out257 (((out257.length : Int) - 1).toNat)).o)), vC (eaddr s259.v ((((out257.length : Int) - 1).toNat) * 3 + 2)) s346.v], oBox b276 #[(.int .i64 ((el l k261).client)), (.int .i64 ((el l k261).seq)), s273.v] 104] [rV s273.v (cSl 3 fDPart ((el l k261).o)), rV s_l.v (cSl 3 fDEntry l)] _ := hM
        refine ov rfl (fun w' h' => r_move rfl) ?_
        refine ov rfl (fun w' h' => r_extract rfl rfl) ?_
        refine ov rfl (fun w' h' => r_extract rfl rfl) ?_
        refine ov rfl (fun w' h' => r_assign rfl) ?_
        refine ov rfl (fun w' h' => r_assign rfl) ?_
        refine o_nil fun w362 hw363 => ?_
        have hM := hM.call hw363
        refine sq_n ?_
        refine wc_seq ?_
        refine wc_seq ?_
        refine wc_region ?_
        refine wv rfl (r_move rfl) ?_
        refine wv rfl (r_not rfl) ?_
        refine wl_nil ?_
        refine sq_n ?_
        refine wc_cond rfl (fun hc366 => ?_) (fun hc366 => ?_)
        · replace hx := xif_t hc366 hx
          refine wc_seq ?_
          refine wc_region ?_
          refine wv rfl (r_assign rfl) ?_
          refine wv rfl (r_assign rfl) ?_
          refine wl_nil ?_
          refine sq_n ?_
          refine wc_ret ?_
          refine sq_ret ?_
          refine bk_ret ?_
          refine sq_ret ?_
          refine lp1_ret ?_
          obtain rfl := Option.some.inj hx
          obtain rfl := Option.some.inj hx269
          replace hx := hx256
          try dsimp only [Sum.elim_inl, Sum.elim_inr] at hx
          refine bk_ret ?_
          refine sq_ret ?_
          obtain rfl := Option.some.inj hx
          have hM := hM.nil0 (T := DEntry) 3 fDEntry
          refine fin_ret [nS.v, (.bool false)] ⟨rfl, rfl, trivial⟩ ?_
          replace hM := hM.t1
          have hM := hM.fewer rsN
          exact ⟨nS, rfl, hM.gives⟩
        · replace hx := xif_f hc366 hx
          refine wc_skip ?_
          refine sq_n ?_
          refine wc_region ?_
          refine wv rfl (r_move rfl) ?_
          refine wv rfl (r_move rfl) ?_
          refine wv rfl (r_fld Try.underlying104 rfl rfl sz3 rfl) ?_
          refine wv rfl (r_ldB Try.underlying3 rfl rfl hM (.tail _ (.tail _ (.head _))) rfl) ?_
          refine wv rfl (r_fld Try.underlying104 rfl rfl sz3 rfl) ?_
          refine wv rfl (r_ldB Try.underlying3 rfl rfl hM (.tail _ (.tail _ (.head _))) rfl) ?_
          refine wv rfl (r_move rfl) ?_
          refine wv rfl (r_build (cells := #[(.int .i64 ((el l k261).client)), (.int .i64 ((el l k261).seq)), s353.v]) rfl (by kernel_rfl)) ?_
          obtain ⟨hg380, hx⟩ := xg_some hx
          have hi379 : (((out257.length : Int) - 1).toNat) < out257.length := by omega
          refine wv rfl (r_ixC Try.underlying60 sz104 rfl rfl (hM.seeOV (.tail _ (.head _))) hg380) ?_
          replace hM := hM.p1
          replace hM : St ⟨w, X, S⟩ [oC (cSl 3 fDEntry out257) s259.v, oC (cSl 3 fDPart r350.1) s353.v, oBox b276 #[(.int .i64 ((el l k261).client)), (.int .i64 ((el l k261).seq)), s273.v] 104] [rV s273.v (cSl 3 fDPart ((el l k261).o)), rV s_l.v (cSl 3 fDEntry l)] _ := hM.unview
          refine w_exu (x_stE (f := fDEntry) (k := 3) (L := out257) (i := (((out257.length : Int) - 1).toNat)) (j := 0) (⟨(el l k261).client, (el l k261).seq, r350.1⟩ : DEntry) [cI ((el l k261).client), cI ((el l k261).seq), cSl 3 fDPart r350.1] sz104 (fun _ => rfl) rfl rfl hi379 rfl rfl rfl rfl rfl (fun _ => zP (pV _ rfl) (zP (pV _ rfl) (zO zN))) hM ?_); intro w381 hM
          refine wl_nil ?_
          refine bk_n ?_
          refine sq_n ?_
          refine wc_region ?_
          refine wv rfl (r_add rfl rfl ⟨by omega, by omega⟩) ?_
          refine wv rfl (r_move rfl) ?_
          refine wl_nil ?_
          obtain rfl := Option.some.inj hx
          replace hM := hM.t1
          have hM := hM.fewer (rsC (.tail _ (.head _)) rsN)
          replace hM : St ⟨w, X, S⟩ [oC (cSl 3 fDEntry (out257.set (((out257.length : Int) - 1).toNat) (⟨(el l k261).client, (el l k261).seq, r350.1⟩ : DEntry))) s259.v] [rV s_l.v (cSl 3 fDEntry l)] _ := hM
          exact lp_end (m267, k261 + 1, out257.set (((out257.length : Int) - 1).toNat) (⟨(el l k261).client, (el l k261).seq, r350.1⟩ : DEntry), s259) (Nat.lt_succ_self _) ⟨rfl, rfl, rfl, rfl, trivial⟩ ⟨hM, hx269, hk262⟩
  · replace hc266 := of_decide_eq_false hc266
    obtain rfl := eachN_end hx hk262 hc266
    refine wc_exit ?_
    refine sq_exit ?_
    refine lp1_exit ?_
    replace hx := hx256
    try dsimp only [Sum.elim_inl, Sum.elim_inr] at hx
    refine bk_here ?_
    refine sq_n ?_
    refine wc_seq ?_
    refine wc_region ?_
    refine wv rfl (r_move rfl) ?_
    refine wv rfl (r_assign rfl) ?_
    refine wv rfl (r_assign rfl) ?_
    refine wl_nil ?_
    refine sq_n ?_
    refine wc_ret ?_
    obtain rfl := Option.some.inj hx
    refine fin_ret [s259.v, (.bool true)] ⟨rfl, rfl, trivial⟩ ?_
    replace hM := hM.t1
    have hM := hM.fewer rsN
    exact ⟨s259, rfl, hM.gives⟩

end Go.Proofs.Ythfkcpdechjmnaa
