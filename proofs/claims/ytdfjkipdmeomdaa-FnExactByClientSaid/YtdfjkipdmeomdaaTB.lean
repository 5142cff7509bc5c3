/- Walks of functions of this program (printed by a program of ours, by the rules of the layer). No condition. -/
import Derived.Test.YtdfjkipdmeomdaaG3
import Derived.Test.YtdfjkipdmeomdaaNs
namespace Go.Proofs.Ytdfjkipdmeomdaa
open Go.RowKit

noncomputable def x_impl_copyEntries_b0 (_list : List DEntry) (_k39 : Nat) (x105 : DEntry) (out40 : List DEntry) : Option (Lr (List DEntry) (List DEntry)) :=
  Option.bind (x_impl_copyOp (x105.o)) fun r88 => xg (out40.length < 1099511627776) <| some (Lr.go (out40 ++ [(⟨x105.client, x105.seq, r88⟩ : DEntry)]))
noncomputable def x_impl_copyEntries_f0 (list : List DEntry) (k39 : Nat) (s106 : List DEntry) : Option (Lr (List DEntry) (List DEntry)) := x_impl_copyEntries_b0 list k39 (el list k39) s106
noncomputable def x_impl_copyEntries (list : List DEntry) : Option (List DEntry) :=
  Option.bind (eachN (x_impl_copyEntries_f0 list) (fun (s106 : List DEntry) => (s106 : List DEntry)) list.length 0 []) fun (y107 : List DEntry) => some y107
theorem ct_impl_copyEntries (w : World) (X S : Bs) (list : List DEntry) (s_list : Sv) (hS : ∀ b, S b → b < w.heap.size ∧ ¬ X b) (a_list_0 : (cSl 3 fDEntry list).rd S w s_list.v) (oL : Sep [] X w) {r : List DEntry} (hx : x_impl_copyEntries list = some r) :
    Ret Try.prog 63 [s_list.v] w (fun u w' => ∃ y : Sv, u = y.v ∧ Gives X S w [oC (cSl 3 fDEntry r) y.v] [] w') := by
  unfold x_impl_copyEntries at hx
  refine enter Try.func63 rfl Try.ntmps63 (by kernel_rfl) rfl ?_
  have hM := St.enter oL hS
  have hM := hM.addE (r := rV s_list.v (cSl 3 fDEntry list)) a_list_0
  refine wc_seq ?_
  refine wc_region ?_
  refine wv rfl (r_assign rfl) ?_
  refine wl_nil ?_
  refine sq_n ?_
  refine wc_seq ?_
  refine wc_region ?_
  refine wv rfl (r_assign rfl) ?_
  refine wl_nil ?_
  refine sq_n ?_
  refine wc_seq ?_
  refine wc_seq ?_
  refine wc_region ?_
  refine wv rfl (r_move rfl) ?_
  refine wv rfl (r_lenC Try.underlying45 rfl (hM.seeR (.head _))) ?_
  refine wv rfl (r_move rfl) ?_
  refine wl_nil ?_
  refine sq_n ?_
  refine wc_block ?_
  obtain ⟨y117, hx, hx118⟩ := bind_some' hx
  have hM := hM.nil0 (T := DEntry) 3 fDEntry
  have hl126 := Cs.le (hM.seeR (.head _))
  refine wc_loop (un fun (m123 : Nat) => un fun (k124 : Nat) => un fun (out120 : List DEntry) => fun (s122 : Sv) => [(3, s122.v), (6, s_list.v), (7, (.int .i64 (list.length : Int))), (8, (.int .i64 (k124 : Int)))]) (un fun (m123 : Nat) => un fun (k124 : Nat) => un fun (out120 : List DEntry) => fun (s122 : Sv) w' => St ⟨w, X, S⟩ [oC (cSl 3 fDEntry out120) s122.v] [rV s_list.v (cSl 3 fDEntry list)] w' ∧ eachN _ _ m123 k124 out120 = some y117 ∧ k124 + m123 = list.length) (fun p => p.1) (list.length, 0, [], nS) ⟨rfl, rfl, rfl, rfl, trivial⟩ ⟨hM, hx, Nat.zero_add _⟩ ?_
  rintro ⟨m123, k124, out120, s122⟩ w127 ⟨hM, hx, hk125⟩
  refine wc_seq ?_
  refine wc_region ?_
  refine wv rfl (r_lss rfl rfl) ?_
  refine wl_nil ?_
  refine sq_n ?_
  refine wc_seq ?_
  refine wc_cond rfl (fun hc129 => ?_) (fun hc129 => ?_)
  · replace hc129 := of_decide_eq_true hc129
    obtain ⟨m130, z131, rfl, hk125, hx, hx132⟩ := eachN_step hx hk125 hc129
    unfold x_impl_copyEntries_f0 x_impl_copyEntries_b0 at hx
    try dsimp only at hx
    refine wc_skip ?_
    refine sq_n ?_
    refine wc_seq ?_
    refine wc_block ?_
    refine wc_seq ?_
    refine wc_region ?_
    have hi134 : k124 < list.length := by omega
    refine wv rfl (r_ixC Try.underlying45 sz83 rfl rfl (hM.seeR (.head _)) ⟨by omega, hc129⟩) ?_
    obtain ⟨s136, hM, hc137⟩ := hM.leaf (i := k124) (j := 2) (.head _) (fun _ => rfl) hi134 rfl
    refine wv rfl (r_ldC (o := k124 * 3) Try.underlying83 sz83 rfl (us := [(.int .i64 ((el list k124).client)), (.int .i64 ((el list k124).seq)), s136.v]) rfl (hM.seeR (.tail _ (.head _))) hi134 ⟨(Cs.get (i := k124) (j := 0) (hM.seeR (.tail _ (.head _))) (fun _ => rfl) hi134 rfl), (Cs.get (i := k124) (j := 1) (hM.seeR (.tail _ (.head _))) (fun _ => rfl) hi134 rfl), (hc137 _ (Rel.refl _)), trivial⟩) ?_
    refine w_ex rfl (x_alloc sz83 hM ?_); intro b139 w138 hR140 hM
    replace hM : St ⟨w, X, S⟩ [oBox b139 #[(.int .i64 0), (.int .i64 0), (.slice none 0 0)] 83, oC (cSl 3 fDEntry out120) s122.v] [rV s136.v (cSl 3 fDPart ((el list k124).o)), rV s_list.v (cSl 3 fDEntry list)] _ := hM
    refine w_exu (x_stB #[(.int .i64 ((el list k124).client)), (.int .i64 ((el list k124).seq)), s136.v] sz83 rfl rfl rfl rfl rfl rfl hM ?_); intro w142 hM
    refine wl_nil ?_
    refine sq_n ?_
    refine wc_seq ?_
    refine wc_region ?_
    refine wv rfl (r_fld Try.underlying83 rfl rfl sz23 rfl) ?_
    refine wv rfl (r_ldB Try.underlying23 rfl rfl hM (.head _) rfl) ?_
    obtain ⟨r146, h147, hx⟩ := bind_some' hx
    refine w_call rfl rfl (hM.callO (l := []) fun X S oL hS hR hO => ct_impl_copyOp _ X S ((el list k124).o) s136 hS (hR _ (.head _)) oL h147) ?_
    rintro _ w148 ⟨s149, rfl, hM⟩
    replace hM : St ⟨w, X, S⟩ [oC (cSl 3 fDPart r146) s149.v, oBox b139 #[(.int .i64 ((el list k124).client)), (.int .i64 ((el list k124).seq)), s136.v] 83, oC (cSl 3 fDEntry out120) s122.v] [rV s136.v (cSl 3 fDPart ((el list k124).o)), rV s_list.v (cSl 3 fDEntry list)] _ := hM
    refine wv rfl (r_fld Try.underlying83 rfl rfl sz23 rfl) ?_
    replace hM := hM.p1
    refine w_exu (x_stB #[(.int .i64 ((el list k124).client)), (.int .i64 ((el list k124).seq)), s149.v] sz23 rfl rfl rfl rfl rfl rfl hM ?_); intro w152 hM
    refine wl_nil ?_
    refine sq_n ?_
    refine wc_region ?_
    refine wv rfl (r_move rfl) ?_
    refine wv rfl (r_ldBS Try.underlying83 sz83 rfl (us := [(.int .i64 ((el list k124).client)), (.int .i64 ((el list k124).seq)), s149.v]) rfl hM (.head _) rfl) ?_
    replace hM := hM.p1.p2
    obtain ⟨hg159, hx⟩ := xg_some hx
    refine w_push (f := fDEntry) (⟨(el list k124).client, (el list k124).seq, r146⟩ : DEntry) rfl rfl Try.underlying45 sz83 rfl rfl rfl rfl (fun _ => rfl) hM (fun _ => zP (pV _ rfl) (zP (pV _ rfl) (zO zN))) rfl hg159 rfl ?_; intro u157 s158 w156 hM
    refine wv rfl (r_assign rfl) ?_
    refine wl_nil ?_
    refine bk_n ?_
    refine sq_n ?_
    refine wc_region ?_
    refine wv rfl (r_add rfl rfl ⟨by omega, by omega⟩) ?_
    refine wv rfl (r_move rfl) ?_
    refine wl_nil ?_
    obtain rfl := Option.some.inj hx
    replace hM := hM.t1
    have hM := hM.fewer (rsC (.tail _ (.head _)) rsN)
    replace hM : St ⟨w, X, S⟩ [oC (cSl 3 fDEntry (out120 ++ [(⟨(el list k124).client, (el list k124).seq, r146⟩ : DEntry)])) s158.v] [rV s_list.v (cSl 3 fDEntry list)] _ := hM
    exact lp_end (m130, k124 + 1, out120 ++ [(⟨(el list k124).client, (el list k124).seq, r146⟩ : DEntry)], s158) (Nat.lt_succ_self _) ⟨rfl, rfl, rfl, rfl, trivial⟩ ⟨hM, hx132, hk125⟩
  · replace hc129 := of_decide_eq_false hc129
    obtain rfl := eachN_end hx hk125 hc129
    refine wc_exit ?_
    refine sq_exit ?_
    refine lp1_exit ?_
    replace hx := hx118
    try dsimp only [Sum.elim_inl, Sum.elim_inr] at hx
    refine bk_here ?_
    refine sq_n ?_
    refine wc_seq ?_
    refine wc_region ?_
    refine wv rfl (r_move rfl) ?_
    refine wv rfl (r_assign rfl) ?_
    refine wl_nil ?_
    refine sq_n ?_
    refine wc_ret ?_
    obtain rfl := Option.some.inj hx
    refine fin_ret [s122.v] ⟨rfl, trivial⟩ ?_
    replace hM := hM.t1
    have hM := hM.fewer rsN
    exact ⟨s122, rfl, hM.gives⟩

noncomputable def x_impl_ByClient_b0 (client : Int) (_r4 : List DEntry) (_k49 : Nat) (x125 : DEntry) (out50 : List DEntry) : Option (Lr (List DEntry) (List DEntry)) :=
  bif decide ((x125.client) = client) then (xg (out50.length < 1099511627776) <| some (Lr.go (out50 ++ [x125]))) else (some (Lr.go out50))
noncomputable def x_impl_ByClient_f0 (client : Int) (r4 : List DEntry) (k49 : Nat) (s126 : List DEntry) : Option (Lr (List DEntry) (List DEntry)) := x_impl_ByClient_b0 client r4 k49 (el r4 k49) s126
noncomputable def x_impl_ByClient (l : List DEntry) (client : Int) : Option (List DEntry) :=
  Option.bind (x_impl_copyEntries l) fun r4 => Option.bind (eachN (x_impl_ByClient_f0 client r4) (fun (s126 : List DEntry) => (s126 : List DEntry)) r4.length 0 []) fun (y127 : List DEntry) => some y127
theorem ct_impl_ByClient (w : World) (X S : Bs) (l : List DEntry) (s_l : Sv) (client : Int) (hS : ∀ b, S b → b < w.heap.size ∧ ¬ X b) (a_l_0 : (cSl 3 fDEntry l).rd S w s_l.v) (oL : Sep [] X w) {r : List DEntry} (hx : x_impl_ByClient l client = some r) :
    Ret Try.prog 28 [s_l.v, (.int .i64 client)] w (fun u w' => ∃ y : Sv, u = y.v ∧ Gives X S w [oC (cSl 3 fDEntry r) y.v] [] w') := by
  unfold x_impl_ByClient at hx
  refine enter Try.func28 rfl Try.ntmps28 (by kernel_rfl) rfl ?_
  have hM := St.enter oL hS
  have hM := hM.addE (r := rV s_l.v (cSl 3 fDEntry l)) a_l_0
  refine wc_seq ?_
  refine wc_region ?_
  refine wv rfl (r_assign rfl) ?_
  refine wl_nil ?_
  refine sq_n ?_
  refine wc_seq ?_
  refine wc_region ?_
  refine wv rfl (r_assign rfl) ?_
  refine wl_nil ?_
  refine sq_n ?_
  refine wc_seq ?_
  refine wc_seq ?_
  refine wc_region ?_
  refine wv rfl (r_move rfl) ?_
  obtain ⟨r135, h136, hx⟩ := bind_some' hx
  refine w_call rfl rfl (hM.callO (l := []) fun X S oL hS hR hO => ct_impl_copyEntries _ X S l s_l hS (hR _ (.head _)) oL h136) ?_
  rintro _ w137 ⟨s138, rfl, hM⟩
  replace hM : St ⟨w, X, S⟩ [oC (cSl 3 fDEntry r135) s138.v] [rV s_l.v (cSl 3 fDEntry l)] _ := hM
  refine wv rfl (r_lenC Try.underlying45 rfl (hM.seeO (.head _))) ?_
  refine wv rfl (r_move rfl) ?_
  refine wl_nil ?_
  refine sq_n ?_
  refine wc_block ?_
  obtain ⟨y142, hx, hx143⟩ := bind_some' hx
  replace hM := hM.toEat
  have hM := hM.nil0 (T := DEntry) 3 fDEntry
  replace hM := hM.p1
  have hM := hM.fewer rsN
  replace hM : St ⟨w, X, S⟩ [oEat 3 fDEntry r135 s138.v 0, oC (cSl 3 fDEntry ([] : List DEntry)) nS.v] [] _ := hM
  have hl151 := hM.eatLe (.head _)
  refine wc_loop (un fun (m148 : Nat) => un fun (k149 : Nat) => un fun (out145 : List DEntry) => fun (s147 : Sv) => [(1, (.int .i64 client)), (5, s147.v), (9, s138.v), (10, (.int .i64 (r135.length : Int))), (11, (.int .i64 (k149 : Int)))]) (un fun (m148 : Nat) => un fun (k149 : Nat) => un fun (out145 : List DEntry) => fun (s147 : Sv) w' => St ⟨w, X, S⟩ [oEat 3 fDEntry r135 s138.v k149, oC (cSl 3 fDEntry out145) s147.v] [] w' ∧ eachN _ _ m148 k149 out145 = some y142 ∧ k149 + m148 = r135.length) (fun p => p.1) (r135.length, 0, [], nS) ⟨rfl, rfl, rfl, rfl, rfl, trivial⟩ ⟨hM, hx, Nat.zero_add _⟩ ?_
  rintro ⟨m148, k149, out145, s147⟩ w152 ⟨hM, hx, hk150⟩
  refine wc_seq ?_
  refine wc_region ?_
  refine wv rfl (r_lss rfl rfl) ?_
  refine wl_nil ?_
  refine sq_n ?_
  refine wc_seq ?_
  refine wc_cond rfl (fun hc154 => ?_) (fun hc154 => ?_)
  · replace hc154 := of_decide_eq_true hc154
    obtain ⟨m155, z156, rfl, hk150, hx, hx157⟩ := eachN_step hx hk150 hc154
    unfold x_impl_ByClient_f0 x_impl_ByClient_b0 at hx
    try dsimp only at hx
    refine wc_skip ?_
    refine sq_n ?_
    refine wc_seq ?_
    refine wc_block ?_
    refine wc_seq ?_
    refine wc_region ?_
    have hi159 : k149 < r135.length := by omega
    refine wv rfl (r_ixE Try.underlying45 sz83 rfl rfl (hM.eatP (.head _) hi159) ⟨by omega, hc154⟩) ?_
    obtain ⟨us161, hl162, hM, hC163⟩ := hM.bite (fun _ => rfl) hi159
    obtain ⟨u164, u165, u166, rfl⟩ := lst3 hl162
    have hu167 := hM.valV.1
    replace hM := hM.valV.2
    have hu168 := hM.valV.1
    replace hM := hM.valV.2
    obtain ⟨s170, hu169, hMs⟩ := hM.valS
    replace hM := hMs
    clear hMs
    subst hu167 hu168 hu169
    replace hM : St ⟨w, X, S⟩ [oC (cSl 3 fDPart ((el r135 k149).o)) s170.v, oEat 3 fDEntry r135 s138.v (k149 + 1), oC (cSl 3 fDEntry out145) s147.v] [] _ := hM
    refine wv rfl (r_ldE Try.underlying83 sz83 rfl (us := [(.int .i64 ((el r135 k149).client)), (.int .i64 ((el r135 k149).seq)), s170.v]) rfl (hM.eatP (.tail _ (.head _)) hi159) (hC163 _ (Rel.refl _))) ?_
    refine w_ex rfl (x_alloc sz83 hM ?_); intro b173 w172 hR174 hM
    replace hM : St ⟨w, X, S⟩ [oBox b173 #[(.int .i64 0), (.int .i64 0), (.slice none 0 0)] 83, oC (cSl 3 fDPart ((el r135 k149).o)) s170.v, oEat 3 fDEntry r135 s138.v (k149 + 1), oC (cSl 3 fDEntry out145) s147.v] [] _ := hM
    refine w_exu (x_stB #[(.int .i64 ((el r135 k149).client)), (.int .i64 ((el r135 k149).seq)), s170.v] sz83 rfl rfl rfl rfl rfl rfl hM ?_); intro w176 hM
    refine wl_nil ?_
    refine sq_n ?_
    refine wc_seq ?_
    refine wc_region ?_
    refine wv rfl (r_fld Try.underlying83 rfl rfl sz3 rfl) ?_
    refine wv rfl (r_ldB Try.underlying3 rfl rfl hM (.head _) rfl) ?_
    refine wv rfl (r_move rfl) ?_
    refine wv rfl (r_eql rfl rfl) ?_
    refine wl_nil ?_
    refine sq_n ?_
    refine wc_cond rfl (fun hc182 => ?_) (fun hc182 => ?_)
    · replace hx := xif_t hc182 hx
      refine wc_region ?_
      refine wv rfl (r_move rfl) ?_
      refine wv rfl (r_ldBS Try.underlying83 sz83 rfl (us := [(.int .i64 ((el r135 k149).client)), (.int .i64 ((el r135 k149).seq)), s170.v]) rfl hM (.head _) rfl) ?_
      replace hM := hM.p1.p3
      obtain ⟨hg188, hx⟩ := xg_some hx
      refine w_push (f := fDEntry) (el r135 k149) rfl rfl Try.underlying45 sz83 rfl rfl rfl rfl (fun _ => rfl) hM (fun _ => zP (pV _ rfl) (zP (pV _ rfl) (zO zN))) rfl hg188 rfl ?_; intro u186 s187 w185 hM
      refine wv rfl (r_assign rfl) ?_
      refine wl_nil ?_
      refine bk_n ?_
      refine sq_n ?_
      refine wc_region ?_
      refine wv rfl (r_add rfl rfl ⟨by omega, by omega⟩) ?_
      refine wv rfl (r_move rfl) ?_
      refine wl_nil ?_
      obtain rfl := Option.some.inj hx
      replace hM := hM.p2
      replace hM := hM.t2
      exact lp_end (m155, k149 + 1, out145 ++ [el r135 k149], s187) (Nat.lt_succ_self _) ⟨rfl, rfl, rfl, rfl, rfl, trivial⟩ ⟨hM, hx157, hk150⟩
    · replace hx := xif_f hc182 hx
      refine wc_skip ?_
      refine bk_n ?_
      refine sq_n ?_
      refine wc_region ?_
      refine wv rfl (r_add rfl rfl ⟨by omega, by omega⟩) ?_
      refine wv rfl (r_move rfl) ?_
      refine wl_nil ?_
      obtain rfl := Option.some.inj hx
      replace hM := hM.p3.p3
      replace hM := hM.t2
      exact lp_end (m155, k149 + 1, out145, s147) (Nat.lt_succ_self _) ⟨rfl, rfl, rfl, rfl, rfl, trivial⟩ ⟨hM, hx157, hk150⟩
  · replace hc154 := of_decide_eq_false hc154
    obtain rfl := eachN_end hx hk150 hc154
    refine wc_exit ?_
    refine sq_exit ?_
    refine lp1_exit ?_
    replace hx := hx143
    try dsimp only [Sum.elim_inl, Sum.elim_inr] at hx
    refine bk_here ?_
    refine sq_n ?_
    refine wc_seq ?_
    refine wc_region ?_
    refine wv rfl (r_move rfl) ?_
    refine wv rfl (r_assign rfl) ?_
    refine wl_nil ?_
    refine sq_n ?_
    refine wc_ret ?_
    obtain rfl := Option.some.inj hx
    refine fin_ret [s147.v] ⟨rfl, trivial⟩ ?_
    replace hM := hM.p1
    replace hM := hM.t1
    have hM := hM.fewer rsN
    exact ⟨s147, rfl, hM.gives⟩

noncomputable def x_spec_l02Copy_b0 (_o : List DPart) (_k10 : Nat) (x112 : DPart) (out11 : List DPart) : Option (Lr (List DPart) (List DPart)) :=
  xg (0 + (x112.signs).length ≤ 1099511627776) <| xg (out11.length + [(⟨x112.kind, x112.n, [] ++ (x112.signs)⟩ : DPart)].length ≤ 1099511627776) <| some (Lr.go (out11 ++ [(⟨x112.kind, x112.n, [] ++ (x112.signs)⟩ : DPart)]))
noncomputable def x_spec_l02Copy_f0 (o : List DPart) (k10 : Nat) (s113 : List DPart) : Option (Lr (List DPart) (List DPart)) := x_spec_l02Copy_b0 o k10 (el o k10) s113
noncomputable def x_spec_l02Copy (o : List DPart) : Option (List DPart) :=
  Option.bind (eachN (x_spec_l02Copy_f0 o) (fun (s113 : List DPart) => (s113 : List DPart)) o.length 0 []) fun (y114 : List DPart) => some y114
theorem ct_spec_l02Copy (w : World) (X S : Bs) (o : List DPart) (s_o : Sv) (hS : ∀ b, S b → b < w.heap.size ∧ ¬ X b) (a_o_0 : (cSl 3 fDPart o).rd S w s_o.v) (oL : Sep [] X w) {r : List DPart} (hx : x_spec_l02Copy o = some r) :
    Ret Try.prog 82 [s_o.v] w (fun u w' => ∃ y : Sv, u = y.v ∧ Gives X S w [oC (cSl 3 fDPart r) y.v] [] w') := by
  unfold x_spec_l02Copy at hx
  refine enter Try.func82 rfl Try.ntmps82 (by kernel_rfl) rfl ?_
  have hM := St.enter oL hS
  have hM := hM.addE (r := rV s_o.v (cSl 3 fDPart o)) a_o_0
  refine wc_seq ?_
  refine wc_region ?_
  refine wv rfl (r_assign rfl) ?_
  refine wl_nil ?_
  refine sq_n ?_
  refine wc_seq ?_
  refine wc_region ?_
  refine w_ex rfl (x_empty (f := fDPart) Try.underlying23 sz67 (fun _ => rfl) hM ?_); intro s121 w120 hR122 hM
  refine wv rfl (r_assign rfl) ?_
  refine wl_nil ?_
  refine sq_n ?_
  refine wc_seq ?_
  refine wc_seq ?_
  refine wc_region ?_
  refine wv rfl (r_move rfl) ?_
  refine wv rfl (r_lenC Try.underlying23 rfl (hM.seeR (.head _))) ?_
  refine wv rfl (r_move rfl) ?_
  refine wl_nil ?_
  refine sq_n ?_
  refine wc_block ?_
  obtain ⟨y128, hx, hx129⟩ := bind_some' hx
  have hl136 := Cs.le (hM.seeR (.head _))
  refine wc_loop (un fun (m133 : Nat) => un fun (k134 : Nat) => un fun (out130 : List DPart) => fun (s132 : Sv) => [(3, s132.v), (7, s_o.v), (8, (.int .i64 (o.length : Int))), (9, (.int .i64 (k134 : Int)))]) (un fun (m133 : Nat) => un fun (k134 : Nat) => un fun (out130 : List DPart) => fun (s132 : Sv) w' => St ⟨w, X, S⟩ [oC (cSl 3 fDPart out130) s132.v] [rV s_o.v (cSl 3 fDPart o)] w' ∧ eachN _ _ m133 k134 out130 = some y128 ∧ k134 + m133 = o.length) (fun p => p.1) (o.length, 0, [], s121) ⟨rfl, rfl, rfl, rfl, trivial⟩ ⟨hM, hx, Nat.zero_add _⟩ ?_
  rintro ⟨m133, k134, out130, s132⟩ w137 ⟨hM, hx, hk135⟩
  refine wc_seq ?_
  refine wc_region ?_
  refine wv rfl (r_lss rfl rfl) ?_
  refine wl_nil ?_
  refine sq_n ?_
  refine wc_seq ?_
  refine wc_cond rfl (fun hc139 => ?_) (fun hc139 => ?_)
  · replace hc139 := of_decide_eq_true hc139
    obtain ⟨m140, z141, rfl, hk135, hx, hx142⟩ := eachN_step hx hk135 hc139
    unfold x_spec_l02Copy_f0 x_spec_l02Copy_b0 at hx
    try dsimp only at hx
    refine wc_skip ?_
    refine sq_n ?_
    refine wc_seq ?_
    refine wc_block ?_
    refine wc_seq ?_
    refine wc_region ?_
    have hi144 : k134 < o.length := by omega
    refine wv rfl (r_ixC Try.underlying23 sz67 rfl rfl (hM.seeR (.head _)) ⟨by omega, hc139⟩) ?_
    obtain ⟨s146, hM, hc147⟩ := hM.leaf (i := k134) (j := 2) (.head _) (fun _ => rfl) hi144 rfl
    refine wv rfl (r_ldC (o := k134 * 3) Try.underlying67 sz67 rfl (us := [(.int .i64 ((el o k134).kind)), (.int .i64 ((el o k134).n)), s146.v]) rfl (hM.seeR (.tail _ (.head _))) hi144 ⟨(Cs.get (i := k134) (j := 0) (hM.seeR (.tail _ (.head _))) (fun _ => rfl) hi144 rfl), (Cs.get (i := k134) (j := 1) (hM.seeR (.tail _ (.head _))) (fun _ => rfl) hi144 rfl), (hc147 _ (Rel.refl _)), trivial⟩) ?_
    refine w_ex rfl (x_alloc sz67 hM ?_); intro b149 w148 hR150 hM
    replace hM : St ⟨w, X, S⟩ [oBox b149 #[(.int .i64 0), (.int .i64 0), (.slice none 0 0)] 67, oC (cSl 3 fDPart out130) s132.v] [rV s146.v (cSl 1 fI ((el o k134).signs)), rV s_o.v (cSl 3 fDPart o)] _ := hM
    refine w_exu (x_stB #[(.int .i64 ((el o k134).kind)), (.int .i64 ((el o k134).n)), s146.v] sz67 rfl rfl rfl rfl rfl rfl hM ?_); intro w152 hM
    refine wl_nil ?_
    refine sq_n ?_
    refine wc_draw [(0, 0), (1, 0), (2, 0), (3, 0), (4, 0), (6, 0), (7, 0), (5, 1), (8, 1), (9, 0), (10, 2), (11, 2), (12, 0)] Try_mixed (by kernel_rfl) rfl (by kernel_rfl) rfl ?_
    refine ov rfl (fun w' h' => r_move rfl) ?_
    refine ov rfl (fun w' h' => r_fld Try.underlying67 rfl rfl sz3 rfl) ?_
    refine ov rfl (fun w' h' => r_ldB Try.underlying3 rfl rfl (hM.call h') (.head _) rfl) ?_
    refine ov rfl (fun w' h' => r_fld Try.underlying67 rfl rfl sz3 rfl) ?_
    refine ov rfl (fun w' h' => r_ldB Try.underlying3 rfl rfl (hM.call h') (.head _) rfl) ?_
    refine ov rfl (fun w' h' => r_fld Try.underlying67 rfl rfl sz22 rfl) ?_
    refine ov rfl (fun w' h' => r_ldB Try.underlying22 rfl rfl (hM.call h') (.head _) rfl) ?_
    refine o_ex1 rfl fun w164 h165 => ?_
    have hM := hM.call h165
    refine x_empty0 (f := fI) Try.underlying22 sz3 (fun _ => rfl) hM ?_; intro b162 w161 hR163 hM
    refine ⟨hR163, ?_⟩
    replace hM : St ⟨w, X, S⟩ [oC (cSl 1 fI ([] : List Int)) (⟨some ⟨b162, 0, none⟩, 0, 0⟩ : Sv).v, oBox b149 #[(.int .i64 ((el o k134).kind)), (.int .i64 ((el o k134).n)), s146.v] 67, oC (cSl 3 fDPart out130) s132.v] [rV s146.v (cSl 1 fI ((el o k134).signs)), rV s_o.v (cSl 3 fDPart o)] _ := hM
    obtain ⟨hg169, hx⟩ := xg_some hx
    refine o_ex1 rfl fun w171 h172 => ?_
    have hM := hM.call h172
    refine x_append0 (f := fI) Try.underlying22 sz3 rfl rfl (hM.seeR (.head _)) flI hM hg169 rfl ?_; intro s168 w167 hR170 hM
    refine ⟨hR170, ?_⟩
    refine ov rfl (fun w' h' => r_build (cells := #[(.int .i64 ((el o k134).kind)), (.int .i64 ((el o k134).n)), s168.v]) rfl (by kernel_rfl)) ?_
    refine o_ex rfl fun w177 h178 => ?_
    have hM := hM.call h178
    refine x_lit (f := fDPart) (own := [oC (cSl 1 fI ([] ++ ((el o k134).signs))) s168.v]) [(⟨(el o k134).kind, (el o k134).n, [] ++ ((el o k134).signs)⟩ : DPart)] [(.int .i64 ((el o k134).kind)), (.int .i64 ((el o k134).n)), s168.v] 1 Try.underlying23 sz67 (fun _ => rfl) rfl rfl rfl rfl rfl (by kernel_rfl) (fun _ => zP (pV _ rfl) (zP (pV _ rfl) (zO zN))) hM ?_; intro s175 w174 hR176 hM
    replace hM := hM.p2
    obtain ⟨hg182, hx⟩ := xg_some hx
    refine o_ex rfl fun w184 h185 => ?_
    have hM := hM.call h185
    refine x_appendO Try.underlying23 sz67 rfl rfl hM hg182 rfl ?_; intro s181 w180 hM
    refine ov rfl (fun w' h' => r_assign rfl) ?_
    refine o_nil fun w187 hw188 => ?_
    have hM := hM.call hw188
    refine bk_n ?_
    refine sq_n ?_
    refine wc_region ?_
    refine wv rfl (r_add rfl rfl ⟨by omega, by omega⟩) ?_
    refine wv rfl (r_move rfl) ?_
    refine wl_nil ?_
    obtain rfl := Option.some.inj hx
    replace hM := hM.t1
    have hM := hM.fewer (rsC (.tail _ (.head _)) rsN)
    replace hM : St ⟨w, X, S⟩ [oC (cSl 3 fDPart (out130 ++ [(⟨(el o k134).kind, (el o k134).n, [] ++ ((el o k134).signs)⟩ : DPart)])) s181.v] [rV s_o.v (cSl 3 fDPart o)] _ := hM
    exact lp_end (m140, k134 + 1, out130 ++ [(⟨(el o k134).kind, (el o k134).n, [] ++ ((el o k134).signs)⟩ : DPart)], s181) (Nat.lt_succ_self _) ⟨rfl, rfl, rfl, rfl, trivial⟩ ⟨hM, hx142, hk135⟩
  · replace hc139 := of_decide_eq_false hc139
    obtain rfl := eachN_end hx hk135 hc139
    refine wc_exit ?_
    refine sq_exit ?_
    refine lp1_exit ?_
    replace hx := hx129
    try dsimp only [Sum.elim_inl, Sum.elim_inr] at hx
    refine bk_here ?_
    refine sq_n ?_
    refine wc_seq ?_
    refine wc_region ?_
    refine wv rfl (r_move rfl) ?_
    refine wv rfl (r_assign rfl) ?_
    refine wl_nil ?_
    refine sq_n ?_
    refine wc_ret ?_
    obtain rfl := Option.some.inj hx
    refine fin_ret [s132.v] ⟨rfl, trivial⟩ ?_
    replace hM := hM.t1
    have hM := hM.fewer rsN
    exact ⟨s132, rfl, hM.gives⟩

noncomputable def x_spec_l08Entry (e : DEntry) : Option DEntry :=
  Option.bind (x_spec_l02Copy e.o) fun r15 => some (⟨e.client, e.seq, r15⟩ : DEntry)
theorem ct_spec_l08Entry (w : World) (X S : Bs) (e : DEntry) (s_e_2 : Sv) (hS : ∀ b, S b → b < w.heap.size ∧ ¬ X b) (a_e_2 : (cSl 3 fDPart e.o).rd S w s_e_2.v) (oL : Sep [] X w) {r : DEntry} (hx : x_spec_l08Entry e = some r) :
    Ret Try.prog 61 [(.agg #[(.int .i64 e.client), (.int .i64 e.seq), s_e_2.v])] w (fun u w' => ∃ y : Sv, u = .agg #[(.int .i64 r.client), (.int .i64 r.seq), y.v] ∧ Gives X S w [oC (cSl 3 fDPart r.o) y.v] [] w') := by
  unfold x_spec_l08Entry at hx
  refine enter Try.func61 rfl Try.ntmps61 (by kernel_rfl) rfl ?_
  have hM := St.enter oL hS
  have hM := hM.addE (r := rV s_e_2.v (cSl 3 fDPart e.o)) a_e_2
  refine wc_seq ?_
  refine wc_region ?_
  refine w_ex rfl (x_box rfl hM ?_); intro b31 w30 hR32 hM
  replace hM : St ⟨w, X, S⟩ [oBox b31 #[(.int .i64 e.client), (.int .i64 e.seq), s_e_2.v] 83] [rV s_e_2.v (cSl 3 fDPart e.o)] _ := hM
  refine w_ex rfl (x_alloc sz83 hM ?_); intro b35 w34 hR36 hM
  replace hM : St ⟨w, X, S⟩ [oBox b35 #[(.int .i64 0), (.int .i64 0), (.slice none 0 0)] 83, oBox b31 #[(.int .i64 e.client), (.int .i64 e.seq), s_e_2.v] 83] [rV s_e_2.v (cSl 3 fDPart e.o)] _ := hM
  refine wl_nil ?_
  refine sq_n ?_
  refine wc_seq ?_
  refine wc_draw [(0, 0), (1, 0), (2, 0), (3, 0), (4, 0), (5, 0), (6, 1), (7, 0), (8, 2)] Try_mixed (by kernel_rfl) rfl (by kernel_rfl) rfl ?_
  refine ov rfl (fun w' h' => r_fld Try.underlying83 rfl rfl sz3 rfl) ?_
  refine ov rfl (fun w' h' => r_ldB Try.underlying3 rfl rfl (hM.call h') (.tail _ (.head _)) rfl) ?_
  refine ov rfl (fun w' h' => r_fld Try.underlying83 rfl rfl sz3 rfl) ?_
  refine ov rfl (fun w' h' => r_ldB Try.underlying3 rfl rfl (hM.call h') (.tail _ (.head _)) rfl) ?_
  refine ov rfl (fun w' h' => r_fld Try.underlying83 rfl rfl sz23 rfl) ?_
  refine ov rfl (fun w' h' => r_ldB Try.underlying23 rfl rfl (hM.call h') (.tail _ (.head _)) rfl) ?_
  obtain ⟨r44, h45, hx⟩ := bind_some' hx
  refine o_forced rfl rfl (fun w' h' => (hM.call h').callF fun X S oL hS hR hO => ct_spec_l02Copy _ X S e.o s_e_2 hS (hR _ (.head _)) oL h45) ?_
  rintro w48 h49 _ w46 ⟨hR50, s47, rfl, hM⟩
  refine ⟨hR50, ?_⟩
  replace hM : St ⟨w, X, S⟩ [oC (cSl 3 fDPart r44) s47.v, oBox b35 #[(.int .i64 0), (.int .i64 0), (.slice none 0 0)] 83, oBox b31 #[(.int .i64 e.client), (.int .i64 e.seq), s_e_2.v] 83] [rV s_e_2.v (cSl 3 fDPart e.o)] _ := hM
  refine ov rfl (fun w' h' => r_build (cells := #[(.int .i64 e.client), (.int .i64 e.seq), s47.v]) rfl (by kernel_rfl)) ?_
  replace hM := hM.p1
  refine o_exu fun w55 h56 => ?_
  have hM := hM.call h56
  refine x_stB #[(.int .i64 e.client), (.int .i64 e.seq), s47.v] sz83 rfl rfl rfl rfl rfl rfl hM ?_; intro w53 hM
  refine o_nil fun w57 hw58 => ?_
  have hM := hM.call hw58
  refine sq_n ?_
  refine wc_ret ?_
  obtain rfl := Option.some.inj hx
  refine fin_ret [(.agg #[(.int .i64 e.client), (.int .i64 e.seq), s47.v])] ⟨rv_box Try.underlying83 sz83 rfl rfl hM (.head _), trivial⟩ ?_
  replace hM := hM.p1
  replace hM := hM.t1
  have hM := hM.fewer rsN
  exact ⟨s47, rfl, hM.gives⟩

noncomputable def x_spec_ByClient_b0 (client : Int) (_l : List DEntry) (_k10 : Nat) (x78 : DEntry) (out11 : List DEntry) : Option (Lr (List DEntry) (List DEntry)) :=
  bif decide ((x78.client) = client) then (Option.bind (x_spec_l08Entry x78) fun r64 => xg (out11.length < 1099511627776) <| some (Lr.go (out11 ++ [r64]))) else (some (Lr.go out11))
noncomputable def x_spec_ByClient_f0 (client : Int) (l : List DEntry) (k10 : Nat) (s79 : List DEntry) : Option (Lr (List DEntry) (List DEntry)) := x_spec_ByClient_b0 client l k10 (el l k10) s79
noncomputable def x_spec_ByClient (l : List DEntry) (client : Int) : Option (List DEntry) :=
  Option.bind (eachN (x_spec_ByClient_f0 client l) (fun (s79 : List DEntry) => (s79 : List DEntry)) l.length 0 []) fun (y80 : List DEntry) => some y80
theorem ct_spec_ByClient (w : World) (X S : Bs) (l : List DEntry) (s_l : Sv) (client : Int) (hS : ∀ b, S b → b < w.heap.size ∧ ¬ X b) (a_l_0 : (cSl 3 fDEntry l).rd S w s_l.v) (oL : Sep [] X w) {r : List DEntry} (hx : x_spec_ByClient l client = some r) :
    Ret Try.prog 26 [s_l.v, (.int .i64 client)] w (fun u w' => ∃ y : Sv, u = y.v ∧ Gives X S w [oC (cSl 3 fDEntry r) y.v] [] w') := by
  unfold x_spec_ByClient at hx
  refine enter Try.func26 rfl Try.ntmps26 (by kernel_rfl) rfl ?_
  have hM := St.enter oL hS
  have hM := hM.addE (r := rV s_l.v (cSl 3 fDEntry l)) a_l_0
  refine wc_seq ?_
  refine wc_region ?_
  refine wv rfl (r_assign rfl) ?_
  refine wl_nil ?_
  refine sq_n ?_
  refine wc_seq ?_
  refine wc_region ?_
  refine w_ex rfl (x_empty (f := fDEntry) Try.underlying45 sz83 (fun _ => rfl) hM ?_); intro s87 w86 hR88 hM
  refine wv rfl (r_assign rfl) ?_
  refine wl_nil ?_
  refine sq_n ?_
  refine wc_seq ?_
  refine wc_seq ?_
  refine wc_region ?_
  refine wv rfl (r_move rfl) ?_
  refine wv rfl (r_lenC Try.underlying45 rfl (hM.seeR (.head _))) ?_
  refine wv rfl (r_move rfl) ?_
  refine wl_nil ?_
  refine sq_n ?_
  refine wc_block ?_
  obtain ⟨y94, hx, hx95⟩ := bind_some' hx
  have hl102 := Cs.le (hM.seeR (.head _))
  refine wc_loop (un fun (m99 : Nat) => un fun (k100 : Nat) => un fun (out96 : List DEntry) => fun (s98 : Sv) => [(1, (.int .i64 client)), (5, s98.v), (9, s_l.v), (10, (.int .i64 (l.length : Int))), (11, (.int .i64 (k100 : Int)))]) (un fun (m99 : Nat) => un fun (k100 : Nat) => un fun (out96 : List DEntry) => fun (s98 : Sv) w' => St ⟨w, X, S⟩ [oC (cSl 3 fDEntry out96) s98.v] [rV s_l.v (cSl 3 fDEntry l)] w' ∧ eachN _ _ m99 k100 out96 = some y94 ∧ k100 + m99 = l.length) (fun p => p.1) (l.length, 0, [], s87) ⟨rfl, rfl, rfl, rfl, rfl, trivial⟩ ⟨hM, hx, Nat.zero_add _⟩ ?_
  rintro ⟨m99, k100, out96, s98⟩ w103 ⟨hM, hx, hk101⟩
  refine wc_seq ?_
  refine wc_region ?_
  refine wv rfl (r_lss rfl rfl) ?_
  refine wl_nil ?_
  refine sq_n ?_
  refine wc_seq ?_
  refine wc_cond rfl (fun hc105 => ?_) (fun hc105 => ?_)
  · replace hc105 := of_decide_eq_true hc105
    obtain ⟨m106, z107, rfl, hk101, hx, hx108⟩ := eachN_step hx hk101 hc105
    unfold x_spec_ByClient_f0 x_spec_ByClient_b0 at hx
    try dsimp only at hx
    refine wc_skip ?_
    refine sq_n ?_
    refine wc_seq ?_
    refine wc_block ?_
    refine wc_seq ?_
    refine wc_region ?_
    have hi110 : k100 < l.length := by omega
    refine wv rfl (r_ixC Try.underlying45 sz83 rfl rfl (hM.seeR (.head _)) ⟨by omega, hc105⟩) ?_
    obtain ⟨s112, hM, hc113⟩ := hM.leaf (i := k100) (j := 2) (.head _) (fun _ => rfl) hi110 rfl
    refine wv rfl (r_ldC (o := k100 * 3) Try.underlying83 sz83 rfl (us := [(.int .i64 ((el l k100).client)), (.int .i64 ((el l k100).seq)), s112.v]) rfl (hM.seeR (.tail _ (.head _))) hi110 ⟨(Cs.get (i := k100) (j := 0) (hM.seeR (.tail _ (.head _))) (fun _ => rfl) hi110 rfl), (Cs.get (i := k100) (j := 1) (hM.seeR (.tail _ (.head _))) (fun _ => rfl) hi110 rfl), (hc113 _ (Rel.refl _)), trivial⟩) ?_
    refine w_ex rfl (x_alloc sz83 hM ?_); intro b115 w114 hR116 hM
    replace hM : St ⟨w, X, S⟩ [oBox b115 #[(.int .i64 0), (.int .i64 0), (.slice none 0 0)] 83, oC (cSl 3 fDEntry out96) s98.v] [rV s112.v (cSl 3 fDPart ((el l k100).o)), rV s_l.v (cSl 3 fDEntry l)] _ := hM
    refine w_exu (x_stB #[(.int .i64 ((el l k100).client)), (.int .i64 ((el l k100).seq)), s112.v] sz83 rfl rfl rfl rfl rfl rfl hM ?_); intro w118 hM
    refine wl_nil ?_
    refine sq_n ?_
    refine wc_seq ?_
    refine wc_region ?_
    refine wv rfl (r_fld Try.underlying83 rfl rfl sz3 rfl) ?_
    refine wv rfl (r_ldB Try.underlying3 rfl rfl hM (.head _) rfl) ?_
    refine wv rfl (r_move rfl) ?_
    refine wv rfl (r_eql rfl rfl) ?_
    refine wl_nil ?_
    refine sq_n ?_
    refine wc_cond rfl (fun hc124 => ?_) (fun hc124 => ?_)
    · replace hx := xif_t hc124 hx
      refine wc_region ?_
      refine wv rfl (r_move rfl) ?_
      refine wv rfl (r_ldBS Try.underlying83 sz83 rfl (us := [(.int .i64 ((el l k100).client)), (.int .i64 ((el l k100).seq)), s112.v]) rfl hM (.head _) rfl) ?_
      obtain ⟨r127, h128, hx⟩ := bind_some' hx
      refine w_call rfl rfl (hM.callO (l := []) fun X S oL hS hR hO => ct_spec_l08Entry _ X S (el l k100) s112 hS (hR _ (.head _)) oL h128) ?_
      rintro _ w129 ⟨s130, rfl, hM⟩
      replace hM : St ⟨w, X, S⟩ [oC (cSl 3 fDPart r127.o) s130.v, oBox b115 #[(.int .i64 ((el l k100).client)), (.int .i64 ((el l k100).seq)), s112.v] 83, oC (cSl 3 fDEntry out96) s98.v] [rV s112.v (cSl 3 fDPart ((el l k100).o)), rV s_l.v (cSl 3 fDEntry l)] _ := hM
      replace hM := hM.p2
      obtain ⟨hg135, hx⟩ := xg_some hx
      refine w_push (f := fDEntry) r127 rfl rfl Try.underlying45 sz83 rfl rfl rfl rfl (fun _ => rfl) hM (fun _ => zP (pV _ rfl) (zP (pV _ rfl) (zO zN))) rfl hg135 rfl ?_; intro u133 s134 w132 hM
      refine wv rfl (r_assign rfl) ?_
      refine wl_nil ?_
      refine bk_n ?_
      refine sq_n ?_
      refine wc_region ?_
      refine wv rfl (r_add rfl rfl ⟨by omega, by omega⟩) ?_
      refine wv rfl (r_move rfl) ?_
      refine wl_nil ?_
      obtain rfl := Option.some.inj hx
      replace hM := hM.t1
      have hM := hM.fewer (rsC (.tail _ (.head _)) rsN)
      replace hM : St ⟨w, X, S⟩ [oC (cSl 3 fDEntry (out96 ++ [r127])) s134.v] [rV s_l.v (cSl 3 fDEntry l)] _ := hM
      exact lp_end (m106, k100 + 1, out96 ++ [r127], s134) (Nat.lt_succ_self _) ⟨rfl, rfl, rfl, rfl, rfl, trivial⟩ ⟨hM, hx108, hk101⟩
    · replace hx := xif_f hc124 hx
      refine wc_skip ?_
      refine bk_n ?_
      refine sq_n ?_
      refine wc_region ?_
      refine wv rfl (r_add rfl rfl ⟨by omega, by omega⟩) ?_
      refine wv rfl (r_move rfl) ?_
      refine wl_nil ?_
      obtain rfl := Option.some.inj hx
      replace hM := hM.p1
      replace hM := hM.t1
      have hM := hM.fewer (rsC (.tail _ (.head _)) rsN)
      replace hM : St ⟨w, X, S⟩ [oC (cSl 3 fDEntry out96) s98.v] [rV s_l.v (cSl 3 fDEntry l)] _ := hM
      exact lp_end (m106, k100 + 1, out96, s98) (Nat.lt_succ_self _) ⟨rfl, rfl, rfl, rfl, rfl, trivial⟩ ⟨hM, hx108, hk101⟩
  · replace hc105 := of_decide_eq_false hc105
    obtain rfl := eachN_end hx hk101 hc105
    refine wc_exit ?_
    refine sq_exit ?_
    refine lp1_exit ?_
    replace hx := hx95
    try dsimp only [Sum.elim_inl, Sum.elim_inr] at hx
    refine bk_here ?_
    refine sq_n ?_
    refine wc_seq ?_
    refine wc_region ?_
    refine wv rfl (r_move rfl) ?_
    refine wv rfl (r_assign rfl) ?_
    refine wl_nil ?_
    refine sq_n ?_
    refine wc_ret ?_
    obtain rfl := Option.some.inj hx
    refine fin_ret [s98.v] ⟨rfl, trivial⟩ ?_
    replace hM := hM.t1
    have hM := hM.fewer rsN
    exact ⟨s98, rfl, hM.gives⟩

end Go.Proofs.Ytdfjkipdmeomdaa
