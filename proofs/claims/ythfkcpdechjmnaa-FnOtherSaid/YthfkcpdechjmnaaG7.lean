/- Walks of functions of this program (printed by a program of ours, by the rules of the layer). No condition. -/
import Derived.Test.YthfkcpdechjmnaaG3
import Derived.Test.YthfkcpdechjmnaaNr
namespace Go.Proofs.Ythfkcpdechjmnaa
open Go.RowKit

noncomputable def x_impl_stackOk_b0 (l : List (List DPart)) (n11 : Int) (i12 : Int) : Option (Lr (Int × Int) (Sum Unit Unit)) :=
  bif decide ((0 : Int) ≤ i12) then (xg (0 ≤ i12 ∧ i12 < (l.length : Int)) <| Option.bind (x_impl_IsNorm (el l i12.toNat)) fun r87 => Option.bind (bif !r87 then (some true) else (xg (0 ≤ i12 ∧ i12 < (l.length : Int)) <| Option.bind (x_impl_OpFrom (el l i12.toNat)) fun r117 => some (!decide (r117 = n11)))) fun c93 => bif c93 then (some (Lr.out (Sum.inr (())))) else (xg (0 ≤ i12 ∧ i12 < (l.length : Int)) <| Option.bind (x_impl_OpTo (el l i12.toNat)) fun r132 => xg (inI (i12 - 1)) <| some (Lr.go (r132, i12 - 1)))) else (some (Lr.out (Sum.inl ())))
noncomputable def x_impl_stackOk_f0 (l : List (List DPart)) (s141 : Int × Int) : Option (Lr (Int × Int) (Sum Unit Unit)) := x_impl_stackOk_b0 l s141.1 s141.2
noncomputable def x_impl_stackOk (l : List (List DPart)) (n : Int) : Option Bool :=
  bif decide ((8 : Int) < (l.length : Int)) then (some false) else (xg (inI ((l.length : Int) - 1)) <| Option.bind (iter (x_impl_stackOk_f0 l) (n, (l.length : Int) - 1)) fun (y142 : Sum Unit Unit) => Sum.elim (fun _y143 => some true) (fun _y144 => some false) y142)
theorem ct_impl_stackOk (w : World) (X S : Bs) (l : List (List DPart)) (s_l : Sv) (n : Int) (hS : ∀ b, S b → b < w.heap.size ∧ ¬ X b) (a_l_0 : (cSl 1 fLDPart l).rd S w s_l.v) (oL : Sep [] X w) {r : Bool} (hx : x_impl_stackOk l n = some r) :
    Ret Try.prog 50 [s_l.v, (.int .i64 n)] w (fun u w' => ∃ _ : Unit, u = (.bool r) ∧ Gives X S w [] [] w') := by
  unfold x_impl_stackOk at hx
  refine enter Try.func50 rfl Try.ntmps50 (by kernel_rfl) rfl ?_
  have hM := St.enter oL hS
  have hM := hM.addE (r := rV s_l.v (cSl 1 fLDPart l)) a_l_0
  refine wc_seq ?_
  refine wc_region ?_
  refine wv rfl (r_assign rfl) ?_
  refine wl_nil ?_
  refine sq_n ?_
  refine wc_seq ?_
  refine wc_seq ?_
  refine wc_region ?_
  refine wv rfl (r_move rfl) ?_
  refine wv rfl (r_lenC Try.underlying23 rfl (hM.seeR (.head _))) ?_
  refine wv rfl (r_gtr rfl rfl) ?_
  refine wl_nil ?_
  refine sq_n ?_
  refine wc_cond rfl (fun hc150 => ?_) (fun hc150 => ?_)
  · replace hx := xif_t hc150 hx
    refine wc_seq ?_
    refine wc_region ?_
    refine wv rfl (r_assign rfl) ?_
    refine wl_nil ?_
    refine sq_n ?_
    refine wc_ret ?_
    refine sq_ret ?_
    obtain rfl := Option.some.inj hx
    refine fin_ret [(.bool false)] ⟨rfl, trivial⟩ ?_
    replace hM := hM.t0
    have hM := hM.fewer rsN
    exact ⟨(), rfl, hM.gives⟩
  · replace hx := xif_f hc150 hx
    refine wc_skip ?_
    refine sq_n ?_
    refine wc_seq ?_
    refine wc_seq ?_
    refine wc_region ?_
    refine wv rfl (r_move rfl) ?_
    refine wv rfl (r_lenC Try.underlying23 rfl (hM.seeR (.head _))) ?_
    obtain ⟨hg155, hx⟩ := xg_some hx
    refine wv rfl (r_sub rfl rfl hg155) ?_
    refine wv rfl (r_assign rfl) ?_
    refine wl_nil ?_
    refine sq_n ?_
    refine wc_block ?_
    obtain ⟨y157, hx, hx158⟩ := bind_some' hx
    obtain ⟨m163, hx⟩ := iter_run hx
    refine wc_loop (un fun (m161 : Nat) => un fun (n159 : Int) => fun (i160 : Int) => [(0, s_l.v), (1, (.int .i64 n159)), (5, (.int .i64 i160))]) (un fun (m161 : Nat) => un fun (n159 : Int) => fun (i160 : Int) w' => St ⟨w, X, S⟩ [] [rV s_l.v (cSl 1 fLDPart l)] w' ∧ iterN _ m161 (n159, i160) = some y157) (fun p => p.1) (m163, n, (l.length : Int) - 1) ⟨rfl, rfl, rfl, trivial⟩ ⟨hM, hx⟩ ?_
    rintro ⟨m161, n159, i160⟩ w164 ⟨hM, hx⟩
    obtain ⟨m165, z166, rfl, hx, hx167⟩ := iterN_step hx
    unfold x_impl_stackOk_f0 x_impl_stackOk_b0 at hx
    try dsimp only at hx
    refine wc_seq ?_
    refine wc_seq ?_
    refine wc_region ?_
    refine wv rfl (r_move rfl) ?_
    refine wv rfl (r_geq rfl rfl) ?_
    refine wl_nil ?_
    refine sq_n ?_
    refine wc_cond rfl (fun hc170 => ?_) (fun hc170 => ?_)
    · replace hx := xif_t hc170 hx
      refine wc_skip ?_
      refine sq_n ?_
      refine wc_seq ?_
      refine wc_block ?_
      refine wc_seq ?_
      refine wc_seq ?_
      refine wc_region ?_
      refine wv rfl (r_move rfl) ?_
      refine wv rfl (r_move rfl) ?_
      obtain ⟨hg175, hx⟩ := xg_some hx
      have hi174 : i160.toNat < l.length := by omega
      refine wv rfl (r_ixC Try.underlying23 sz29 rfl rfl (hM.seeR (.head _)) hg175) ?_
      obtain ⟨s177, hM, hc178⟩ := hM.leaf (i := i160.toNat) (j := 0) (.head _) (fun _ => rfl) hi174 rfl
      refine wv rfl (r_ld Try.underlying29 rfl rfl (hc178 _ (Rel.refl _))) ?_
      obtain ⟨r179, h180, hx⟩ := bind_some' hx
      refine w_call rfl rfl (hM.callV fun X S oL hS hR hO => ct_impl_IsNorm _ X S (el l i160.toNat) s177 hS (hR _ (.head _)) oL h180) ?_
      rintro _ w181 ⟨rfl, hR182⟩
      have hM := hM.call hR182
      refine wv rfl (r_not rfl) ?_
      refine wv rfl (r_move rfl) ?_
      obtain ⟨c185, hx, hx201⟩ := bind_some' hx
      refine wl_mid 8 (fun _ : Unit => [(30, (.bool c185)), (0, s_l.v), (5, (.int .i64 i160))]) (fun _ w' => St ⟨w, X, S⟩ [] [rV s177.v (cSl 3 fDPart (el l i160.toNat)), rV s_l.v (cSl 1 fLDPart l)] w') ?_ ?_
      · rcases Bool.eq_false_or_eq_true (!r179) with hg186 | hg186
        · replace hx := xif_t hg186 hx
          refine gs rfl (isB_no hg186) rfl ?_
          refine gs rfl (isB_no hg186) rfl ?_
          refine gs rfl (isB_no hg186) rfl ?_
          refine gs rfl (isB_no hg186) rfl ?_
          refine gs rfl (isB_no hg186) rfl ?_
          refine gs rfl (isB_no hg186) rfl ?_
          refine gs rfl (isB_no hg186) rfl ?_
          refine wv rfl (p_t rfl hg186 rfl) ?_
          obtain rfl := Option.some.inj hx
          exact mid_nil () ⟨rfl, rfl, rfl, trivial⟩ hM
        · replace hx := xif_f hg186 hx
          refine gv rfl hg186 rfl (r_move rfl) ?_
          refine gv rfl hg186 rfl (r_move rfl) ?_
          obtain ⟨hg206, hx⟩ := xg_some hx
          have hi205 : i160.toNat < l.length := by omega
          refine gv rfl hg186 rfl (r_ixC Try.underlying23 sz29 rfl rfl (hM.seeR (.tail _ (.head _))) hg206) ?_
          obtain ⟨s208, hM, hc209⟩ := hM.leaf (i := i160.toNat) (j := 0) (.tail _ (.head _)) (fun _ => rfl) hi205 rfl
          refine gv rfl hg186 rfl (r_ld Try.underlying29 rfl rfl (hc209 _ (Rel.refl _))) ?_
          obtain ⟨r210, h211, hx⟩ := bind_some' hx
          refine gc rfl hg186 rfl rfl (hM.callV fun X S oL hS hR hO => ct_impl_OpFrom _ X S (el l i160.toNat) s208 hS (hR _ (.head _)) oL h211) ?_
          rintro _ w212 ⟨rfl, hR213⟩
          have hM := hM.call hR213
          refine gv rfl hg186 rfl (r_move rfl) ?_
          refine gv rfl hg186 rfl (r_neq rfl rfl) ?_
          refine wv rfl (p_f rfl hg186 rfl) ?_
          obtain rfl := Option.some.inj hx
          replace hM : St ⟨w, X, S⟩ [] [rV s177.v (cSl 3 fDPart (el l i160.toNat)), rV s_l.v (cSl 1 fLDPart l)] _ := hM.dropR 1
          exact mid_nil () ⟨rfl, rfl, rfl, trivial⟩ hM
      rintro _ w216 hM
      replace hx := hx201
      refine wl_nil ?_
      refine sq_n ?_
      refine wc_cond rfl (fun hc217 => ?_) (fun hc217 => ?_)
      · replace hx := xif_t hc217 hx
        refine wc_seq ?_
        refine wc_region ?_
        refine wv rfl (r_assign rfl) ?_
        refine wl_nil ?_
        refine sq_n ?_
        refine wc_ret ?_
        refine sq_ret ?_
        refine bk_ret ?_
        refine sq_ret ?_
        refine lp1_ret ?_
        obtain rfl := Option.some.inj hx
        obtain rfl := Option.some.inj hx167
        replace hx := hx158
        try dsimp only [Sum.elim_inl, Sum.elim_inr] at hx
        refine bk_ret ?_
        refine sq_ret ?_
        obtain rfl := Option.some.inj hx
        refine fin_ret [(.bool false)] ⟨rfl, trivial⟩ ?_
        replace hM := hM.t0
        have hM := hM.fewer rsN
        exact ⟨(), rfl, hM.gives⟩
      · replace hx := xif_f hc217 hx
        refine wc_skip ?_
        refine sq_n ?_
        refine wc_region ?_
        refine wv rfl (r_move rfl) ?_
        refine wv rfl (r_move rfl) ?_
        obtain ⟨hg223, hx⟩ := xg_some hx
        have hi222 : i160.toNat < l.length := by omega
        refine wv rfl (r_ixC Try.underlying23 sz29 rfl rfl (hM.seeR (.tail _ (.head _))) hg223) ?_
        obtain ⟨s225, hM, hc226⟩ := hM.leaf (i := i160.toNat) (j := 0) (.tail _ (.head _)) (fun _ => rfl) hi222 rfl
        refine wv rfl (r_ld Try.underlying29 rfl rfl (hc226 _ (Rel.refl _))) ?_
        obtain ⟨r227, h228, hx⟩ := bind_some' hx
        refine w_call rfl rfl (hM.callV fun X S oL hS hR hO => ct_impl_OpTo _ X S (el l i160.toNat) s225 hS (hR _ (.head _)) oL h228) ?_
        rintro _ w229 ⟨rfl, hR230⟩
        have hM := hM.call hR230
        refine wv rfl (r_assign rfl) ?_
        refine wl_nil ?_
        refine bk_n ?_
        refine sq_n ?_
        refine wc_region ?_
        refine wv rfl (r_move rfl) ?_
        obtain ⟨hg234, hx⟩ := xg_some hx
        refine wv rfl (r_sub rfl rfl hg234) ?_
        refine wv rfl (r_assign rfl) ?_
        refine wl_nil ?_
        obtain rfl := Option.some.inj hx
        have hM := hM.fewer (rsC (.tail _ (.tail _ (.head _))) rsN)
        replace hM : St ⟨w, X, S⟩ [] [rV s_l.v (cSl 1 fLDPart l)] _ := hM
        exact lp_end (m165, r227, i160 - 1) (Nat.lt_succ_self _) ⟨rfl, rfl, rfl, trivial⟩ ⟨hM, hx167⟩
    · replace hx := xif_f hc170 hx
      refine wc_exit ?_
      refine sq_exit ?_
      refine lp1_exit ?_
      obtain rfl := Option.some.inj hx
      obtain rfl := Option.some.inj hx167
      replace hx := hx158
      try dsimp only [Sum.elim_inl, Sum.elim_inr] at hx
      refine bk_here ?_
      refine sq_n ?_
      refine wc_seq ?_
      refine wc_region ?_
      refine wv rfl (r_assign rfl) ?_
      refine wl_nil ?_
      refine sq_n ?_
      refine wc_ret ?_
      obtain rfl := Option.some.inj hx
      refine fin_ret [(.bool true)] ⟨rfl, trivial⟩ ?_
      replace hM := hM.t0
      have hM := hM.fewer rsN
      exact ⟨(), rfl, hM.gives⟩

noncomputable def x_impl_PastOk (p : DStory) : Option Bool :=
  Option.bind (x_impl_within p.n 0 200) fun r8 => Option.bind (bif r8 then (Option.bind (x_impl_stackOk p.undo p.n) fun r27 => some r27) else (some false)) fun c13 => Option.bind (bif c13 then (Option.bind (x_impl_stackOk p.redo p.n) fun r46 => some r46) else (some false)) fun c32 => some c32
theorem ct_impl_PastOk (w : World) (X S : Bs) (p : DStory) (s_p_1 : Sv) (s_p_2 : Sv) (hS : ∀ b, S b → b < w.heap.size ∧ ¬ X b) (a_p_1 : (cSl 1 fLDPart p.undo).rd S w s_p_1.v) (a_p_2 : (cSl 1 fLDPart p.redo).rd S w s_p_2.v) (oL : Sep [] X w) {r : Bool} (hx : x_impl_PastOk p = some r) :
    Ret Try.prog 15 [(.agg #[(.int .i64 p.n), s_p_1.v, s_p_2.v])] w (fun u w' => ∃ _ : Unit, u = (.bool r) ∧ Gives X S w [] [] w') := by
  unfold x_impl_PastOk at hx
  refine enter Try.func15 rfl Try.ntmps15 (by kernel_rfl) rfl ?_
  have hM := St.enter oL hS
  have hM := hM.addE (r := rV s_p_1.v (cSl 1 fLDPart p.undo)) a_p_1
  have hM := hM.addE (r := rV s_p_2.v (cSl 1 fLDPart p.redo)) a_p_2
  refine wc_seq ?_
  refine wc_region ?_
  refine w_ex rfl (x_box rfl hM ?_); intro b52 w51 hR53 hM
  replace hM : St ⟨w, X, S⟩ [oBox b52 #[(.int .i64 p.n), s_p_1.v, s_p_2.v] 25] [rV s_p_2.v (cSl 1 fLDPart p.redo), rV s_p_1.v (cSl 1 fLDPart p.undo)] _ := hM
  refine wv rfl (r_assign rfl) ?_
  refine wl_nil ?_
  refine sq_n ?_
  refine wc_seq ?_
  refine wc_region ?_
  refine wv rfl (r_fld Try.underlying25 rfl rfl sz3 rfl) ?_
  refine wv rfl (r_ldB Try.underlying3 rfl rfl hM (.head _) rfl) ?_
  obtain ⟨r58, h59, hx⟩ := bind_some' hx
  refine w_call rfl rfl (hM.callV fun X S oL hS hR hO => ct_impl_within _ X S p.n (0 : Int) (200 : Int) hS  oL h59) ?_
  rintro _ w60 ⟨rfl, hR61⟩
  have hM := hM.call hR61
  refine wv rfl (r_move rfl) ?_
  obtain ⟨c63, hx, hx73⟩ := bind_some' hx
  refine wl_mid 6 (fun _ : Unit => [(12, (.bool c63)), (1, (.pointer (some ⟨b52, 0, none⟩)))]) (fun _ w' => St ⟨w, X, S⟩ [oBox b52 #[(.int .i64 p.n), s_p_1.v, s_p_2.v] 25] [rV s_p_2.v (cSl 1 fLDPart p.redo), rV s_p_1.v (cSl 1 fLDPart p.undo)] w') ?_ ?_
  · rcases Bool.eq_false_or_eq_true r58 with hg64 | hg64
    · replace hx := xif_t hg64 hx
      refine gv rfl hg64 rfl (r_fld Try.underlying25 rfl rfl sz23 rfl) ?_
      refine gv rfl hg64 rfl (r_ldB Try.underlying23 rfl rfl hM (.head _) rfl) ?_
      refine gv rfl hg64 rfl (r_fld Try.underlying25 rfl rfl sz3 rfl) ?_
      refine gv rfl hg64 rfl (r_ldB Try.underlying3 rfl rfl hM (.head _) rfl) ?_
      obtain ⟨r78, h79, hx⟩ := bind_some' hx
      refine gc rfl hg64 rfl rfl (hM.callV fun X S oL hS hR hO => ct_impl_stackOk _ X S p.undo s_p_1 p.n hS (hR _ (.tail _ (.head _))) oL h79) ?_
      rintro _ w80 ⟨rfl, hR81⟩
      have hM := hM.call hR81
      refine wv rfl (p_t rfl hg64 rfl) ?_
      obtain rfl := Option.some.inj hx
      exact mid_nil () ⟨rfl, rfl, trivial⟩ hM
    · replace hx := xif_f hg64 hx
      refine gs rfl (isB_no hg64) rfl ?_
      refine gs rfl (isB_no hg64) rfl ?_
      refine gs rfl (isB_no hg64) rfl ?_
      refine gs rfl (isB_no hg64) rfl ?_
      refine gs rfl (isB_no hg64) rfl ?_
      refine wv rfl (p_f rfl hg64 rfl) ?_
      obtain rfl := Option.some.inj hx
      exact mid_nil () ⟨rfl, rfl, trivial⟩ hM
  rintro _ w82 hM
  replace hx := hx73
  refine wv rfl (r_move rfl) ?_
  obtain ⟨c84, hx, hx94⟩ := bind_some' hx
  refine wl_mid 6 (fun _ : Unit => [(19, (.bool c84))]) (fun _ w' => St ⟨w, X, S⟩ [oBox b52 #[(.int .i64 p.n), s_p_1.v, s_p_2.v] 25] [rV s_p_2.v (cSl 1 fLDPart p.redo), rV s_p_1.v (cSl 1 fLDPart p.undo)] w') ?_ ?_
  · rcases Bool.eq_false_or_eq_true c63 with hg85 | hg85
    · replace hx := xif_t hg85 hx
      refine gv rfl hg85 rfl (r_fld Try.underlying25 rfl rfl sz23 rfl) ?_
      refine gv rfl hg85 rfl (r_ldB Try.underlying23 rfl rfl hM (.head _) rfl) ?_
      refine gv rfl hg85 rfl (r_fld Try.underlying25 rfl rfl sz3 rfl) ?_
      refine gv rfl hg85 rfl (r_ldB Try.underlying3 rfl rfl hM (.head _) rfl) ?_
      obtain ⟨r99, h100, hx⟩ := bind_some' hx
      refine gc rfl hg85 rfl rfl (hM.callV fun X S oL hS hR hO => ct_impl_stackOk _ X S p.redo s_p_2 p.n hS (hR _ (.head _)) oL h100) ?_
      rintro _ w101 ⟨rfl, hR102⟩
      have hM := hM.call hR102
      refine wv rfl (p_t rfl hg85 rfl) ?_
      obtain rfl := Option.some.inj hx
      exact mid_nil () ⟨rfl, trivial⟩ hM
    · replace hx := xif_f hg85 hx
      refine gs rfl (isB_no hg85) rfl ?_
      refine gs rfl (isB_no hg85) rfl ?_
      refine gs rfl (isB_no hg85) rfl ?_
      refine gs rfl (isB_no hg85) rfl ?_
      refine gs rfl (isB_no hg85) rfl ?_
      refine wv rfl (p_f rfl hg85 rfl) ?_
      obtain rfl := Option.some.inj hx
      exact mid_nil () ⟨rfl, trivial⟩ hM
  rintro _ w103 hM
  replace hx := hx94
  refine wv rfl (r_assign rfl) ?_
  refine wl_nil ?_
  refine sq_n ?_
  refine wc_ret ?_
  obtain rfl := Option.some.inj hx
  refine fin_ret [(.bool c84)] ⟨rfl, trivial⟩ ?_
  replace hM := hM.t0
  have hM := hM.fewer rsN
  exact ⟨(), rfl, hM.gives⟩

noncomputable def x_impl_copyOps_b0 (_l : List (List DPart)) (_k29 : Nat) (x75 : List DPart) (out30 : List (List DPart)) : Option (Lr (List (List DPart)) (List (List DPart))) :=
  Option.bind (x_impl_copyOp x75) fun r63 => xg (out30.length < 1099511627776) <| some (Lr.go (out30 ++ [r63]))
noncomputable def x_impl_copyOps_f0 (l : List (List DPart)) (k29 : Nat) (s76 : List (List DPart)) : Option (Lr (List (List DPart)) (List (List DPart))) := x_impl_copyOps_b0 l k29 (el l k29) s76
noncomputable def x_impl_copyOps (l : List (List DPart)) : Option (List (List DPart)) :=
  Option.bind (eachN (x_impl_copyOps_f0 l) (fun (s76 : List (List DPart)) => (s76 : List (List DPart))) l.length 0 []) fun (y77 : List (List DPart)) => some y77
theorem ct_impl_copyOps (w : World) (X S : Bs) (l : List (List DPart)) (s_l : Sv) (hS : ∀ b, S b → b < w.heap.size ∧ ¬ X b) (a_l_0 : (cSl 1 fLDPart l).rd S w s_l.v) (oL : Sep [] X w) {r : List (List DPart)} (hx : x_impl_copyOps l = some r) :
    Ret Try.prog 88 [s_l.v] w (fun u w' => ∃ y : Sv, u = y.v ∧ Gives X S w [oC (cSl 1 fLDPart r) y.v] [] w') := by
  unfold x_impl_copyOps at hx
  refine enter Try.func88 rfl Try.ntmps88 (by kernel_rfl) rfl ?_
  have hM := St.enter oL hS
  have hM := hM.addE (r := rV s_l.v (cSl 1 fLDPart l)) a_l_0
  refine wc_seq ?_
  refine wc_region ?_
  refine wv rfl (r_assign rfl) ?_
  refine wl_nil ?_
  refine sq_n ?_
  refine wc_seq ?_
  refine wc_region ?_
  refine wv rfl (r_assign rfl) ?_
  refine wl_nil ?_
  refine sq_n ?_
  refine wc_seq ?_
  refine wc_seq ?_
  refine wc_region ?_
  refine wv rfl (r_move rfl) ?_
  refine wv rfl (r_lenC Try.underlying23 rfl (hM.seeR (.head _))) ?_
  refine wv rfl (r_move rfl) ?_
  refine wl_nil ?_
  refine sq_n ?_
  refine wc_block ?_
  obtain ⟨y87, hx, hx88⟩ := bind_some' hx
  have hM := hM.nil0 (T := List DPart) 1 fLDPart
  have hl96 := Cs.le (hM.seeR (.head _))
  refine wc_loop (un fun (m93 : Nat) => un fun (k94 : Nat) => un fun (out90 : List (List DPart)) => fun (s92 : Sv) => [(3, s92.v), (6, s_l.v), (7, (.int .i64 (l.length : Int))), (8, (.int .i64 (k94 : Int)))]) (un fun (m93 : Nat) => un fun (k94 : Nat) => un fun (out90 : List (List DPart)) => fun (s92 : Sv) w' => St ⟨w, X, S⟩ [oC (cSl 1 fLDPart out90) s92.v] [rV s_l.v (cSl 1 fLDPart l)] w' ∧ eachN _ _ m93 k94 out90 = some y87 ∧ k94 + m93 = l.length) (fun p => p.1) (l.length, 0, [], nS) ⟨rfl, rfl, rfl, rfl, trivial⟩ ⟨hM, hx, Nat.zero_add _⟩ ?_
  rintro ⟨m93, k94, out90, s92⟩ w97 ⟨hM, hx, hk95⟩
  refine wc_seq ?_
  refine wc_region ?_
  refine wv rfl (r_lss rfl rfl) ?_
  refine wl_nil ?_
  refine sq_n ?_
  refine wc_seq ?_
  refine wc_cond rfl (fun hc99 => ?_) (fun hc99 => ?_)
  · replace hc99 := of_decide_eq_true hc99
    obtain ⟨m100, z101, rfl, hk95, hx, hx102⟩ := eachN_step hx hk95 hc99
    unfold x_impl_copyOps_f0 x_impl_copyOps_b0 at hx
    try dsimp only at hx
    refine wc_skip ?_
    refine sq_n ?_
    refine wc_seq ?_
    refine wc_block ?_
    refine wc_seq ?_
    refine wc_region ?_
    have hi104 : k94 < l.length := by omega
    refine wv rfl (r_ixC Try.underlying23 sz29 rfl rfl (hM.seeR (.head _)) ⟨by omega, hc99⟩) ?_
    obtain ⟨s106, hM, hc107⟩ := hM.leaf (i := k94) (j := 0) (.head _) (fun _ => rfl) hi104 rfl
    refine wv rfl (r_ld Try.underlying29 rfl rfl (hc107 _ (Rel.refl _))) ?_
    refine wv rfl (r_assign rfl) ?_
    refine wl_nil ?_
    refine sq_n ?_
    refine wc_region ?_
    refine wv rfl (r_move rfl) ?_
    refine wv rfl (r_move rfl) ?_
    obtain ⟨r111, h112, hx⟩ := bind_some' hx
    refine w_call rfl rfl (hM.callO (l := []) fun X S oL hS hR hO => ct_impl_copyOp _ X S (el l k94) s106 hS (hR _ (.head _)) oL h112) ?_
    rintro _ w113 ⟨s114, rfl, hM⟩
    replace hM : St ⟨w, X, S⟩ [oC (cSl 3 fDPart r111) s114.v, oC (cSl 1 fLDPart out90) s92.v] [rV s106.v (cSl 3 fDPart (el l k94)), rV s_l.v (cSl 1 fLDPart l)] _ := hM
    replace hM := hM.p1
    obtain ⟨hg119, hx⟩ := xg_some hx
    refine w_push (f := fLDPart) r111 rfl rfl Try.underlying23 sz29 rfl rfl rfl rfl (fun _ => rfl) hM (fun _ => zO zN) rfl hg119 rfl ?_; intro u117 s118 w116 hM
    refine wv rfl (r_assign rfl) ?_
    refine wl_nil ?_
    refine bk_n ?_
    refine sq_n ?_
    refine wc_region ?_
    refine wv rfl (r_add rfl rfl ⟨by omega, by omega⟩) ?_
    refine wv rfl (r_move rfl) ?_
    refine wl_nil ?_
    obtain rfl := Option.some.inj hx
    have hM := hM.fewer (rsC (.tail _ (.head _)) rsN)
    replace hM : St ⟨w, X, S⟩ [oC (cSl 1 fLDPart (out90 ++ [r111])) s118.v] [rV s_l.v (cSl 1 fLDPart l)] _ := hM
    exact lp_end (m100, k94 + 1, out90 ++ [r111], s118) (Nat.lt_succ_self _) ⟨rfl, rfl, rfl, rfl, trivial⟩ ⟨hM, hx102, hk95⟩
  · replace hc99 := of_decide_eq_false hc99
    obtain rfl := eachN_end hx hk95 hc99
    refine wc_exit ?_
    refine sq_exit ?_
    refine lp1_exit ?_
    replace hx := hx88
    try dsimp only [Sum.elim_inl, Sum.elim_inr] at hx
    refine bk_here ?_
    refine sq_n ?_
    refine wc_seq ?_
    refine wc_region ?_
    refine wv rfl (r_move rfl) ?_
    refine wv rfl (r_assign rfl) ?_
    refine wl_nil ?_
    refine sq_n ?_
    refine wc_ret ?_
    obtain rfl := Option.some.inj hx
    refine fin_ret [s92.v] ⟨rfl, trivial⟩ ?_
    replace hM := hM.t1
    have hM := hM.fewer rsN
    exact ⟨s92, rfl, hM.gives⟩

noncomputable def x_impl_pushed (l : List (List DPart)) (o : List DPart) : Option (List (List DPart)) :=
  Option.bind (x_impl_copyOps l) fun r3 => xg (r3.length < 1099511627776) <| bif decide ((8 : Int) < ((r3 ++ [o]).length : Int)) then (xg (0 ≤ (1 : Int) ∧ (1 : Int) ≤ ((r3 ++ [o]).length : Int)) <| some (((r3 ++ [o]).take (r3 ++ [o]).length).drop 1)) else (some (r3 ++ [o]))
theorem ct_impl_pushed (w : World) (X S : Bs) (l : List (List DPart)) (s_l : Sv) (o : List DPart) (s_o : Sv) (hS : ∀ b, S b → b < w.heap.size ∧ ¬ X b) (a_l_0 : (cSl 1 fLDPart l).rd S w s_l.v) (a_o_0 : (cSl 3 fDPart o).rd S w s_o.v) (oL : Sep [] X w) {r : List (List DPart)} (hx : x_impl_pushed l o = some r) :
    Ret Try.prog 43 [s_l.v, s_o.v] w (fun u w' => ∃ y : Sv, u = y.v ∧ Gives X S w [] [rV y.v (cSl 1 fLDPart r)] w') := by
  unfold x_impl_pushed at hx
  refine enter Try.func43 rfl Try.ntmps43 (by kernel_rfl) rfl ?_
  have hM := St.enter oL hS
  have hM := hM.addE (r := rV s_l.v (cSl 1 fLDPart l)) a_l_0
  have hM := hM.addE (r := rV s_o.v (cSl 3 fDPart o)) a_o_0
  refine wc_seq ?_
  refine wc_region ?_
  refine wv rfl (r_assign rfl) ?_
  refine wl_nil ?_
  refine sq_n ?_
  refine wc_seq ?_
  refine wc_region ?_
  refine wv rfl (r_move rfl) ?_
  obtain ⟨r29, h30, hx⟩ := bind_some' hx
  refine w_call rfl rfl (hM.callO (l := []) fun X S oL hS hR hO => ct_impl_copyOps _ X S l s_l hS (hR _ (.tail _ (.head _))) oL h30) ?_
  rintro _ w31 ⟨s32, rfl, hM⟩
  replace hM : St ⟨w, X, S⟩ [oC (cSl 1 fLDPart r29) s32.v] [rV s_o.v (cSl 3 fDPart o), rV s_l.v (cSl 1 fLDPart l)] _ := hM
  refine wv rfl (r_move rfl) ?_
  obtain ⟨xs38, hM⟩ := hM.toS
  obtain ⟨hg39, hx⟩ := xg_some hx
  refine w_pushS (f := fLDPart) (L := r29) o rfl rfl Try.underlying23 sz29 rfl rfl rfl (fun _ => rfl) hM (.head _) (fun S w hR => ⟨_, _, rfl, hR _ (.tail _ (.head _)), rfl⟩) rfl hg39 rfl ?_; intro u36 s37 xs40 w35 hM
  refine wv rfl (r_assign rfl) ?_
  refine wl_nil ?_
  refine sq_n ?_
  refine wc_seq ?_
  refine wc_seq ?_
  refine wc_region ?_
  refine wv rfl (r_move rfl) ?_
  refine wv rfl (r_lenS Try.underlying23 rfl (hM.at' (.head _))) ?_
  refine wv rfl (r_gtr rfl rfl) ?_
  refine wl_nil ?_
  refine sq_n ?_
  refine wc_cond rfl (fun hc45 => ?_) (fun hc45 => ?_)
  · replace hx := xif_t hc45 hx
    refine wc_region ?_
    refine wv rfl (r_move rfl) ?_
    have hM := hM.sealS (fun _ => rfl) (.head _)
    obtain ⟨hg48, hx⟩ := xg_some hx
    have hM := hM.cutR (L := (r29 ++ [o])) (f := fLDPart) (lo := 1) (hi := ((r29 ++ [o]).length)) (fun _ => rfl) (by omega) (by omega) (.head _)
    refine wv rfl (r_slc_lo Try.underlying23 sz29 rfl rfl (hM.seeR (.tail _ (.head _))) hg48) ?_
    refine wv rfl (r_assign rfl) ?_
    refine wl_nil ?_
    refine sq_n ?_
    refine wc_seq ?_
    refine wc_region ?_
    refine wv rfl (r_move rfl) ?_
    refine wv rfl (r_assign rfl) ?_
    refine wl_nil ?_
    refine sq_n ?_
    refine wc_ret ?_
    obtain rfl := Option.some.inj hx
    refine fin_ret [(s37.cut 1 1 ((r29 ++ [o]).length)).v] ⟨rfl, trivial⟩ ?_
    replace hM := hM.t0
    have hM := hM.fewer (rsC (.head _) rsN)
    exact ⟨(s37.cut 1 1 ((r29 ++ [o]).length)), rfl, hM.gives⟩
  · replace hx := xif_f hc45 hx
    refine wc_skip ?_
    refine sq_n ?_
    refine wc_seq ?_
    refine wc_region ?_
    refine wv rfl (r_move rfl) ?_
    refine wv rfl (r_assign rfl) ?_
    refine wl_nil ?_
    refine sq_n ?_
    refine wc_ret ?_
    obtain rfl := Option.some.inj hx
    have hM := hM.sealS (fun _ => rfl) (.head _)
    refine fin_ret [s37.v] ⟨rfl, trivial⟩ ?_
    replace hM := hM.t0
    have hM := hM.fewer (rsC (.head _) rsN)
    exact ⟨s37, rfl, hM.gives⟩

noncomputable def x_impl_pushed_v2 (l : List (List DPart)) (o : List DPart) : Option (List (List DPart)) :=
  Option.bind (x_impl_copyOps l) fun r4 => xg (r4.length < 1099511627776) <| bif decide ((8 : Int) < ((r4 ++ [o]).length : Int)) then (xg (0 ≤ (1 : Int) ∧ (1 : Int) ≤ ((r4 ++ [o]).length : Int)) <| some (((r4 ++ [o]).take ((r4 ++ [o]).length)).drop 1)) else (some (r4 ++ [o]))
theorem ct_impl_pushed_v2 (w : World) (X S : Bs) (l : List (List DPart)) (s_l : Sv) (o : List DPart) (s_o : Sv) (hS : ∀ b, S b → b < w.heap.size ∧ ¬ X b) (a_l_0 : (cSl 1 fLDPart l).rd S w s_l.v) (oL : Sep [oC (cSl 3 fDPart o) s_o.v] X w) {r : List (List DPart)} (hx : x_impl_pushed_v2 l o = some r) :
    Ret Try.prog 43 [s_l.v, s_o.v] w (fun u w' => ∃ y : Sv, u = y.v ∧ Gives X S w [oC (cSl 1 fLDPart r) y.v] [] w') := by
  unfold x_impl_pushed_v2 at hx
  refine enter Try.func43 rfl Try.ntmps43 (by kernel_rfl) rfl ?_
  have hM := St.enter oL hS
  have hM := hM.addE (r := rV s_l.v (cSl 1 fLDPart l)) a_l_0
  refine wc_seq ?_
  refine wc_region ?_
  refine wv rfl (r_assign rfl) ?_
  refine wl_nil ?_
  refine sq_n ?_
  refine wc_seq ?_
  refine wc_region ?_
  refine wv rfl (r_move rfl) ?_
  obtain ⟨r28, h29, hx⟩ := bind_some' hx
  refine w_call rfl rfl (hM.callO (l := []) fun X S oL hS hR hO => ct_impl_copyOps _ X S l s_l hS (hR _ (.head _)) oL h29) ?_
  rintro _ w30 ⟨s31, rfl, hM⟩
  replace hM : St ⟨w, X, S⟩ [oC (cSl 1 fLDPart r28) s31.v, oC (cSl 3 fDPart o) s_o.v] [rV s_l.v (cSl 1 fLDPart l)] _ := hM
  refine wv rfl (r_move rfl) ?_
  obtain ⟨hg37, hx⟩ := xg_some hx
  refine w_push (f := fLDPart) o rfl rfl Try.underlying23 sz29 rfl rfl rfl rfl (fun _ => rfl) hM (fun _ => zO zN) rfl hg37 rfl ?_; intro u35 s36 w34 hM
  refine wv rfl (r_assign rfl) ?_
  refine wl_nil ?_
  refine sq_n ?_
  refine wc_seq ?_
  refine wc_seq ?_
  refine wc_region ?_
  refine wv rfl (r_move rfl) ?_
  refine wv rfl (r_lenC Try.underlying23 rfl (hM.seeO (.head _))) ?_
  refine wv rfl (r_gtr rfl rfl) ?_
  refine wl_nil ?_
  refine sq_n ?_
  refine wc_cond rfl (fun hc42 => ?_) (fun hc42 => ?_)
  · replace hx := xif_t hc42 hx
    refine wc_region ?_
    refine wv rfl (r_move rfl) ?_
    obtain ⟨hg45, hx⟩ := xg_some hx
    refine wv rfl (r_slc_lo Try.underlying23 sz29 rfl rfl (hM.seeO (.head _)) hg45) ?_
    have hM := hM.cutO (L := (r28 ++ [o])) (f := fLDPart) (lo := 1) (hi := ((r28 ++ [o]).length)) (fun _ => rfl) (by omega) (by omega)
    refine wv rfl (r_assign rfl) ?_
    refine wl_nil ?_
    refine sq_n ?_
    refine wc_seq ?_
    refine wc_region ?_
    refine wv rfl (r_move rfl) ?_
    refine wv rfl (r_assign rfl) ?_
    refine wl_nil ?_
    refine sq_n ?_
    refine wc_ret ?_
    obtain rfl := Option.some.inj hx
    refine fin_ret [(s36.cut 1 1 ((r28 ++ [o]).length)).v] ⟨rfl, trivial⟩ ?_
    replace hM := hM.t1
    have hM := hM.fewer rsN
    exact ⟨(s36.cut 1 1 ((r28 ++ [o]).length)), rfl, hM.gives⟩
  · replace hx := xif_f hc42 hx
    refine wc_skip ?_
    refine sq_n ?_
    refine wc_seq ?_
    refine wc_region ?_
    refine wv rfl (r_move rfl) ?_
    refine wv rfl (r_assign rfl) ?_
    refine wl_nil ?_
    refine sq_n ?_
    refine wc_ret ?_
    obtain rfl := Option.some.inj hx
    refine fin_ret [s36.v] ⟨rfl, trivial⟩ ?_
    replace hM := hM.t1
    have hM := hM.fewer rsN
    exact ⟨s36, rfl, hM.gives⟩

noncomputable def x_impl_PastDo (p : DStory) (o : List DPart) (t : List Int) : Option (DStory × Bool) :=
  Option.bind (x_impl_Invert o t) fun r12 => Option.bind (x_impl_PastOk p) fun r23 => Option.bind (bif !r23 then (some true) else (some (!decide ((t.length : Int) = p.n)))) fun c29 => Option.bind (bif c29 then (some true) else (some (!r12.2))) fun c42 => bif c42 then (some ((⟨0, [], []⟩ : DStory), false)) else (Option.bind (x_impl_OpTo o) fun r53 => Option.bind (x_impl_pushed_v2 p.undo r12.1) fun r59 => some ((⟨r53, r59, []⟩ : DStory), true))
theorem ct_impl_PastDo (w : World) (X S : Bs) (p : DStory) (s_p_1 : Sv) (s_p_2 : Sv) (o : List DPart) (s_o : Sv) (t : List Int) (s_t : Sv) (hS : ∀ b, S b → b < w.heap.size ∧ ¬ X b) (a_p_1 : (cSl 1 fLDPart p.undo).rd S w s_p_1.v) (a_p_2 : (cSl 1 fLDPart p.redo).rd S w s_p_2.v) (a_o_0 : (cSl 3 fDPart o).rd S w s_o.v) (a_t_0 : (cSl 1 fI t).rd S w s_t.v) (oL : Sep [] X w) {r : DStory × Bool} (hx : x_impl_PastDo p o t = some r) :
    Ret Try.prog 10 [(.agg #[(.int .i64 p.n), s_p_1.v, s_p_2.v]), s_o.v, s_t.v] w (fun u w' => ∃ y : Sv × Sv, u = .tuple #[.agg #[(.int .i64 r.1.n), y.1.v, y.2.v], (.bool r.2)] ∧ Gives X S w [oC (cSl 1 fLDPart r.1.undo) y.1.v, oC (cSl 1 fLDPart r.1.redo) y.2.v] [] w') := by
  unfold x_impl_PastDo at hx
  refine enter Try.func10 rfl Try.ntmps10 (by kernel_rfl) rfl ?_
  have hM := St.enter oL hS
  have hM := hM.addE (r := rV s_p_1.v (cSl 1 fLDPart p.undo)) a_p_1
  have hM := hM.addE (r := rV s_p_2.v (cSl 1 fLDPart p.redo)) a_p_2
  have hM := hM.addE (r := rV s_o.v (cSl 3 fDPart o)) a_o_0
  have hM := hM.addE (r := rV s_t.v (cSl 1 fI t)) a_t_0
  refine wc_seq ?_
  refine wc_region ?_
  refine w_ex rfl (x_box rfl hM ?_); intro b75 w74 hR76 hM
  replace hM : St ⟨w, X, S⟩ [oBox b75 #[(.int .i64 p.n), s_p_1.v, s_p_2.v] 25] [rV s_t.v (cSl 1 fI t), rV s_o.v (cSl 3 fDPart o), rV s_p_2.v (cSl 1 fLDPart p.redo), rV s_p_1.v (cSl 1 fLDPart p.undo)] _ := hM
  refine w_ex rfl (x_alloc sz25 hM ?_); intro b79 w78 hR80 hM
  replace hM : St ⟨w, X, S⟩ [oBox b79 #[(.int .i64 0), (.slice none 0 0), (.slice none 0 0)] 25, oBox b75 #[(.int .i64 p.n), s_p_1.v, s_p_2.v] 25] [rV s_t.v (cSl 1 fI t), rV s_o.v (cSl 3 fDPart o), rV s_p_2.v (cSl 1 fLDPart p.redo), rV s_p_1.v (cSl 1 fLDPart p.undo)] _ := hM
  refine wv rfl (r_assign rfl) ?_
  refine wl_nil ?_
  refine sq_n ?_
  refine wc_seq ?_
  refine wc_region ?_
  refine wv rfl (r_move rfl) ?_
  refine wv rfl (r_move rfl) ?_
  obtain ⟨r85, h86, hx⟩ := bind_some' hx
  refine w_call rfl rfl (hM.callO (l := []) fun X S oL hS hR hO => ct_impl_Invert _ X S o s_o t s_t hS (hR _ (.tail _ (.head _))) (hR _ (.head _)) oL h86) ?_
  rintro _ w87 ⟨s88, rfl, hM⟩
  replace hM : St ⟨w, X, S⟩ [oC (cSl 3 fDPart r85.1) s88.v, oBox b79 #[(.int .i64 0), (.slice none 0 0), (.slice none 0 0)] 25, oBox b75 #[(.int .i64 p.n), s_p_1.v, s_p_2.v] 25] [rV s_t.v (cSl 1 fI t), rV s_o.v (cSl 3 fDPart o), rV s_p_2.v (cSl 1 fLDPart p.redo), rV s_p_1.v (cSl 1 fLDPart p.undo)] _ := hM
  refine wv rfl (r_move rfl) ?_
  refine wv rfl (r_extract rfl rfl) ?_
  refine wv rfl (r_extract rfl rfl) ?_
  refine wv rfl (r_assign rfl) ?_
  refine wv rfl (r_assign rfl) ?_
  refine wl_nil ?_
  refine sq_n ?_
  refine wc_seq ?_
  refine wc_seq ?_
  refine wc_region ?_
  refine wv rfl (r_ldBS Try.underlying25 sz25 rfl (us := [(.int .i64 p.n), s_p_1.v, s_p_2.v]) rfl hM (.tail _ (.tail _ (.head _))) rfl) ?_
  obtain ⟨r96, h97, hx⟩ := bind_some' hx
  refine w_call rfl rfl (hM.callV fun X S oL hS hR hO => ct_impl_PastOk _ X S p s_p_1 s_p_2 hS (hR _ (.tail _ (.tail _ (.tail _ (.head _))))) (hR _ (.tail _ (.tail _ (.head _)))) oL h97) ?_
  rintro _ w98 ⟨rfl, hR99⟩
  have hM := hM.call hR99
  refine wv rfl (r_not rfl) ?_
  refine wv rfl (r_move rfl) ?_
  obtain ⟨c102, hx, hx109⟩ := bind_some' hx
  refine wl_mid 6 (fun _ : Unit => [(25, (.bool c102)), (1, s_o.v), (3, (.pointer (some ⟨b75, 0, none⟩))), (6, (.pointer (some ⟨b79, 0, none⟩))), (8, s88.v), (9, (.bool r85.2))]) (fun _ w' => St ⟨w, X, S⟩ [oC (cSl 3 fDPart r85.1) s88.v, oBox b79 #[(.int .i64 0), (.slice none 0 0), (.slice none 0 0)] 25, oBox b75 #[(.int .i64 p.n), s_p_1.v, s_p_2.v] 25] [rV s_t.v (cSl 1 fI t), rV s_o.v (cSl 3 fDPart o), rV s_p_2.v (cSl 1 fLDPart p.redo), rV s_p_1.v (cSl 1 fLDPart p.undo)] w') ?_ ?_
  · rcases Bool.eq_false_or_eq_true (!r96) with hg103 | hg103
    · replace hx := xif_t hg103 hx
      refine gs rfl (isB_no hg103) rfl ?_
      refine gs rfl (isB_no hg103) rfl ?_
      refine gs rfl (isB_no hg103) rfl ?_
      refine gs rfl (isB_no hg103) rfl ?_
      refine gs rfl (isB_no hg103) rfl ?_
      refine wv rfl (p_t rfl hg103 rfl) ?_
      obtain rfl := Option.some.inj hx
      exact mid_nil () ⟨rfl, rfl, rfl, rfl, rfl, rfl, trivial⟩ hM
    · replace hx := xif_f hg103 hx
      refine gv rfl hg103 rfl (r_move rfl) ?_
      refine gv rfl hg103 rfl (r_lenC Try.underlying26 rfl (hM.seeR (.head _))) ?_
      refine gv rfl hg103 rfl (r_fld Try.underlying25 rfl rfl sz3 rfl) ?_
      refine gv rfl hg103 rfl (r_ldB Try.underlying3 rfl rfl hM (.tail _ (.tail _ (.head _))) rfl) ?_
      refine gv rfl hg103 rfl (r_neq rfl rfl) ?_
      refine wv rfl (p_f rfl hg103 rfl) ?_
      obtain rfl := Option.some.inj hx
      exact mid_nil () ⟨rfl, rfl, rfl, rfl, rfl, rfl, trivial⟩ hM
  rintro _ w115 hM
  replace hx := hx109
  refine wv rfl (r_move rfl) ?_
  obtain ⟨c117, hx, hx121⟩ := bind_some' hx
  refine wl_mid 3 (fun _ : Unit => [(29, (.bool c117)), (1, s_o.v), (3, (.pointer (some ⟨b75, 0, none⟩))), (6, (.pointer (some ⟨b79, 0, none⟩))), (8, s88.v)]) (fun _ w' => St ⟨w, X, S⟩ [oC (cSl 3 fDPart r85.1) s88.v, oBox b79 #[(.int .i64 0), (.slice none 0 0), (.slice none 0 0)] 25, oBox b75 #[(.int .i64 p.n), s_p_1.v, s_p_2.v] 25] [rV s_t.v (cSl 1 fI t), rV s_o.v (cSl 3 fDPart o), rV s_p_2.v (cSl 1 fLDPart p.redo), rV s_p_1.v (cSl 1 fLDPart p.undo)] w') ?_ ?_
  · rcases Bool.eq_false_or_eq_true c102 with hg118 | hg118
    · replace hx := xif_t hg118 hx
      refine gs rfl (isB_no hg118) rfl ?_
      refine gs rfl (isB_no hg118) rfl ?_
      refine wv rfl (p_t rfl hg118 rfl) ?_
      obtain rfl := Option.some.inj hx
      exact mid_nil () ⟨rfl, rfl, rfl, rfl, rfl, trivial⟩ hM
    · replace hx := xif_f hg118 hx
      refine gv rfl hg118 rfl (r_move rfl) ?_
      refine gv rfl hg118 rfl (r_not rfl) ?_
      refine wv rfl (p_f rfl hg118 rfl) ?_
      obtain rfl := Option.some.inj hx
      exact mid_nil () ⟨rfl, rfl, rfl, rfl, rfl, trivial⟩ hM
  rintro _ w124 hM
  replace hx := hx121
  refine wl_nil ?_
  refine sq_n ?_
  refine wc_cond rfl (fun hc125 => ?_) (fun hc125 => ?_)
  · replace hx := xif_t hc125 hx
    refine wc_seq ?_
    refine wc_region ?_
    refine wv rfl (r_build (cells := #[(.int .i64 0), (.slice none 0 0), (.slice none 0 0)]) rfl (by kernel_rfl)) ?_
    replace hM := hM.p1
    refine w_exu (x_stB #[(.int .i64 0), (.slice none 0 0), (.slice none 0 0)] sz25 rfl rfl rfl rfl rfl rfl hM ?_); intro w127 hM
    refine wv rfl (r_assign rfl) ?_
    refine wl_nil ?_
    refine sq_n ?_
    refine wc_ret ?_
    refine sq_ret ?_
    obtain rfl := Option.some.inj hx
    have hM := hM.nil0 (T := List DPart) 1 fLDPart
    have hM := hM.nil0 (T := List DPart) 1 fLDPart
    refine fin_ret [(.agg #[(.int .i64 0), nS.v, nS.v]), (.bool false)] ⟨rv_box Try.underlying25 sz25 rfl rfl hM (.tail _ (.tail _ (.head _))), rfl, trivial⟩ ?_
    replace hM := hM.p1
    replace hM := hM.t2
    have hM := hM.fewer rsN
    exact ⟨(nS, nS), rfl, hM.gives⟩
  · replace hx := xif_f hc125 hx
    refine wc_skip ?_
    refine sq_n ?_
    refine wc_seq ?_
    refine wc_draw [(0, 0), (1, 0), (2, 0), (3, 0), (4, 0), (5, 2), (6, 0), (7, 2), (8, 0)] Try_mixed (by kernel_rfl) rfl (by kernel_rfl) rfl ?_
    refine ov rfl (fun w' h' => r_move rfl) ?_
    obtain ⟨r133, h134, hx⟩ := bind_some' hx
    refine oc rfl rfl (fun w' h' => (hM.call h').callV fun X S oL hS hR hO => ct_impl_OpTo _ X S o s_o hS (hR _ (.tail _ (.head _))) oL h134) ?_
    refine ov rfl (fun w' h' => r_fld Try.underlying25 rfl rfl sz23 rfl) ?_
    refine ov rfl (fun w' h' => r_ldB Try.underlying23 rfl rfl (hM.call h') (.tail _ (.tail _ (.head _))) rfl) ?_
    refine ov rfl (fun w' h' => r_move rfl) ?_
    obtain ⟨r139, h140, hx⟩ := bind_some' hx
    refine o_call rfl rfl (fun w' h' => (hM.call h').callO (l := [oC (cSl 3 fDPart r85.1) s88.v]) fun X S oL hS hR hO => ct_impl_pushed_v2 _ X S p.undo s_p_1 r85.1 s88 hS (hR _ (.tail _ (.tail _ (.tail _ (.head _))))) oL h140) ?_
    rintro w143 h144 _ w141 ⟨s142, rfl, hM⟩
    replace hM : St ⟨w, X, S⟩ [oC (cSl 1 fLDPart r139) s142.v, oBox b79 #[(.int .i64 0), (.slice none 0 0), (.slice none 0 0)] 25, oBox b75 #[(.int .i64 p.n), s_p_1.v, s_p_2.v] 25] [rV s_t.v (cSl 1 fI t), rV s_o.v (cSl 3 fDPart o), rV s_p_2.v (cSl 1 fLDPart p.redo), rV s_p_1.v (cSl 1 fLDPart p.undo)] _ := hM
    refine ov rfl (fun w' h' => r_build (cells := #[(.int .i64 r133), s142.v, (.slice none 0 0)]) rfl (by kernel_rfl)) ?_
    replace hM := hM.p1
    refine o_exu fun w149 h150 => ?_
    have hM := hM.call h150
    refine x_stB #[(.int .i64 r133), s142.v, (.slice none 0 0)] sz25 rfl rfl rfl rfl rfl rfl hM ?_; intro w147 hM
    refine ov rfl (fun w' h' => r_assign rfl) ?_
    refine o_nil fun w152 hw153 => ?_
    have hM := hM.call hw153
    refine sq_n ?_
    refine wc_ret ?_
    obtain rfl := Option.some.inj hx
    have hM := hM.nil0 (T := List DPart) 1 fLDPart
    refine fin_ret [(.agg #[(.int .i64 r133), s142.v, nS.v]), (.bool true)] ⟨rv_box Try.underlying25 sz25 rfl rfl hM (.tail _ (.head _)), rfl, trivial⟩ ?_
    replace hM := hM.p2
    replace hM := hM.t2
    have hM := hM.fewer rsN
    exact ⟨(s142, nS), rfl, hM.gives⟩

noncomputable def x_impl_revert (from_ : List (List DPart)) (to : List (List DPart)) (t : List Int) : Option (List (List DPart) × List (List DPart) × List DPart × Bool) :=
  bif decide ((from_.length : Int) = 0) then (some ([], [], [], false)) else (xg (inI ((from_.length : Int) - 1)) <| xg (0 ≤ ((from_.length : Int) - 1) ∧ ((from_.length : Int) - 1) < (from_.length : Int)) <| Option.bind (x_impl_copyOp (el from_ (((from_.length : Int) - 1).toNat))) fun r23 => Option.bind (x_impl_Invert r23 t) fun r31 => xg (inI ((from_.length : Int) - 1)) <| xg (0 ≤ ((from_.length : Int) - 1) ∧ ((from_.length : Int) - 1) ≤ (from_.length : Int)) <| Option.bind (x_impl_copyOps ((from_.take (((from_.length : Int) - 1).toNat)).drop 0)) fun r48 => Option.bind (x_impl_pushed_v2 to r31.1) fun r55 => some (r48, r55, r23, r31.2))
theorem ct_impl_revert (w : World) (X S : Bs) (from_ : List (List DPart)) (s_from_ : Sv) (to : List (List DPart)) (s_to : Sv) (t : List Int) (s_t : Sv) (hS : ∀ b, S b → b < w.heap.size ∧ ¬ X b) (a_from__0 : (cSl 1 fLDPart from_).rd S w s_from_.v) (a_to_0 : (cSl 1 fLDPart to).rd S w s_to.v) (a_t_0 : (cSl 1 fI t).rd S w s_t.v) (oL : Sep [] X w) {r : List (List DPart) × List (List DPart) × List DPart × Bool} (hx : x_impl_revert from_ to t = some r) :
    Ret Try.prog 47 [s_from_.v, s_to.v, s_t.v] w (fun u w' => ∃ y : Sv × Sv × Sv, u = .tuple #[y.1.v, y.2.1.v, y.2.2.v, (.bool r.2.2.2)] ∧ Gives X S w [oC (cSl 1 fLDPart r.1) y.1.v, oC (cSl 1 fLDPart r.2.1) y.2.1.v, oC (cSl 3 fDPart r.2.2.1) y.2.2.v] [] w') := by
  unfold x_impl_revert at hx
  refine enter Try.func47 rfl Try.ntmps47 (by kernel_rfl) rfl ?_
  have hM := St.enter oL hS
  have hM := hM.addE (r := rV s_from_.v (cSl 1 fLDPart from_)) a_from__0
  have hM := hM.addE (r := rV s_to.v (cSl 1 fLDPart to)) a_to_0
  have hM := hM.addE (r := rV s_t.v (cSl 1 fI t)) a_t_0
  refine wc_seq ?_
  refine wc_region ?_
  refine wv rfl (r_assign rfl) ?_
  refine wv rfl (r_assign rfl) ?_
  refine wv rfl (r_assign rfl) ?_
  refine wv rfl (r_assign rfl) ?_
  refine wl_nil ?_
  refine sq_n ?_
  refine wc_seq ?_
  refine wc_seq ?_
  refine wc_region ?_
  refine wv rfl (r_move rfl) ?_
  refine wv rfl (r_lenC Try.underlying23 rfl (hM.seeR (.tail _ (.tail _ (.head _))))) ?_
  refine wv rfl (r_eql rfl rfl) ?_
  refine wl_nil ?_
  refine sq_n ?_
  refine wc_cond rfl (fun hc73 => ?_) (fun hc73 => ?_)
  · replace hx := xif_t hc73 hx
    refine wc_seq ?_
    refine wc_region ?_
    refine wv rfl (r_assign rfl) ?_
    refine wv rfl (r_assign rfl) ?_
    refine wv rfl (r_assign rfl) ?_
    refine wv rfl (r_assign rfl) ?_
    refine wl_nil ?_
    refine sq_n ?_
    refine wc_ret ?_
    refine sq_ret ?_
    obtain rfl := Option.some.inj hx
    have hM := hM.nil0 (T := List DPart) 1 fLDPart
    have hM := hM.nil0 (T := List DPart) 1 fLDPart
    have hM := hM.nil0 (T := DPart) 3 fDPart
    refine fin_ret [nS.v, nS.v, nS.v, (.bool false)] ⟨rfl, rfl, rfl, rfl, trivial⟩ ?_
    replace hM := hM.p1.p2
    replace hM := hM.t3
    have hM := hM.fewer rsN
    exact ⟨(nS, nS, nS), rfl, hM.gives⟩
  · replace hx := xif_f hc73 hx
    refine wc_skip ?_
    refine sq_n ?_
    refine wc_seq ?_
    refine wc_region ?_
    refine wv rfl (r_move rfl) ?_
    refine wv rfl (r_move rfl) ?_
    refine wv rfl (r_lenC Try.underlying23 rfl (hM.seeR (.tail _ (.tail _ (.head _))))) ?_
    obtain ⟨hg85, hx⟩ := xg_some hx
    refine wv rfl (r_sub rfl rfl hg85) ?_
    obtain ⟨hg88, hx⟩ := xg_some hx
    have hi87 : (((from_.length : Int) - 1).toNat) < from_.length := by omega
    refine wv rfl (r_ixC Try.underlying23 sz29 rfl rfl (hM.seeR (.tail _ (.tail _ (.head _)))) hg88) ?_
    obtain ⟨s90, hM, hc91⟩ := hM.leaf (i := (((from_.length : Int) - 1).toNat)) (j := 0) (.tail _ (.tail _ (.head _))) (fun _ => rfl) hi87 rfl
    refine wv rfl (r_ld Try.underlying29 rfl rfl (hc91 _ (Rel.refl _))) ?_
    obtain ⟨r92, h93, hx⟩ := bind_some' hx
    refine w_call rfl rfl (hM.callO (l := []) fun X S oL hS hR hO => ct_impl_copyOp _ X S (el from_ (((from_.length : Int) - 1).toNat)) s90 hS (hR _ (.head _)) oL h93) ?_
    rintro _ w94 ⟨s95, rfl, hM⟩
    replace hM : St ⟨w, X, S⟩ [oC (cSl 3 fDPart r92) s95.v] [rV s90.v (cSl 3 fDPart (el from_ (((from_.length : Int) - 1).toNat))), rV s_t.v (cSl 1 fI t), rV s_to.v (cSl 1 fLDPart to), rV s_from_.v (cSl 1 fLDPart from_)] _ := hM
    refine wv rfl (r_assign rfl) ?_
    refine wl_nil ?_
    refine sq_n ?_
    refine wc_seq ?_
    refine wc_region ?_
    refine wv rfl (r_move rfl) ?_
    refine wv rfl (r_move rfl) ?_
    obtain ⟨r100, h101, hx⟩ := bind_some' hx
    refine w_call rfl rfl (hM.callO (l := []) fun X S oL hS hR hO => ct_impl_Invert _ X S r92 s95 t s_t hS (seeA hO (.head _)) (hR _ (.tail _ (.head _))) oL h101) ?_
    rintro _ w102 ⟨s103, rfl, hM⟩
    replace hM : St ⟨w, X, S⟩ [oC (cSl 3 fDPart r100.1) s103.v, oC (cSl 3 fDPart r92) s95.v] [rV s90.v (cSl 3 fDPart (el from_ (((from_.length : Int) - 1).toNat))), rV s_t.v (cSl 1 fI t), rV s_to.v (cSl 1 fLDPart to), rV s_from_.v (cSl 1 fLDPart from_)] _ := hM
    refine wv rfl (r_move rfl) ?_
    refine wv rfl (r_extract rfl rfl) ?_
    refine wv rfl (r_extract rfl rfl) ?_
    refine wv rfl (r_assign rfl) ?_
    refine wv rfl (r_assign rfl) ?_
    refine wl_nil ?_
    refine sq_n ?_
    refine wc_seq ?_
    refine wc_region ?_
    refine wv rfl (r_move rfl) ?_
    refine wv rfl (r_move rfl) ?_
    refine wv rfl (r_lenC Try.underlying23 rfl (hM.seeR (.tail _ (.tail _ (.tail _ (.head _)))))) ?_
    obtain ⟨hg114, hx⟩ := xg_some hx
    refine wv rfl (r_sub rfl rfl hg114) ?_
    obtain ⟨hg116, hx⟩ := xg_some hx
    have hM := hM.cutR (L := from_) (f := fLDPart) (lo := 0) (hi := (((from_.length : Int) - 1).toNat)) (fun _ => rfl) (by omega) (by omega) (.tail _ (.tail _ (.tail _ (.head _))))
    refine wv rfl (r_slc_hi Try.underlying23 sz29 rfl rfl (hM.seeR (.tail _ (.tail _ (.tail _ (.tail _ (.head _)))))) hg116) ?_
    obtain ⟨r117, h118, hx⟩ := bind_some' hx
    refine w_call rfl rfl (hM.callO (l := []) fun X S oL hS hR hO => ct_impl_copyOps _ X S ((from_.take (((from_.length : Int) - 1).toNat)).drop 0) (s_from_.cut 1 0 (((from_.length : Int) - 1).toNat)) hS (hR _ (.head _)) oL h118) ?_
    rintro _ w119 ⟨s120, rfl, hM⟩
    replace hM : St ⟨w, X, S⟩ [oC (cSl 1 fLDPart r117) s120.v, oC (cSl 3 fDPart r100.1) s103.v, oC (cSl 3 fDPart r92) s95.v] [rV (s_from_.cut 1 0 (((from_.length : Int) - 1).toNat)).v (cSl 1 fLDPart ((from_.take (((from_.length : Int) - 1).toNat)).drop 0)), rV s90.v (cSl 3 fDPart (el from_ (((from_.length : Int) - 1).toNat))), rV s_t.v (cSl 1 fI t), rV s_to.v (cSl 1 fLDPart to), rV s_from_.v (cSl 1 fLDPart from_)] _ := hM
    refine wv rfl (r_move rfl) ?_
    refine wv rfl (r_move rfl) ?_
    replace hM := hM.p1
    obtain ⟨r124, h125, hx⟩ := bind_some' hx
    refine w_call rfl rfl (hM.callO (l := [oC (cSl 3 fDPart r100.1) s103.v]) fun X S oL hS hR hO => ct_impl_pushed_v2 _ X S to s_to r100.1 s103 hS (hR _ (.tail _ (.tail _ (.tail _ (.head _))))) oL h125) ?_
    rintro _ w126 ⟨s127, rfl, hM⟩
    replace hM : St ⟨w, X, S⟩ [oC (cSl 1 fLDPart r124) s127.v, oC (cSl 1 fLDPart r117) s120.v, oC (cSl 3 fDPart r92) s95.v] [rV (s_from_.cut 1 0 (((from_.length : Int) - 1).toNat)).v (cSl 1 fLDPart ((from_.take (((from_.length : Int) - 1).toNat)).drop 0)), rV s90.v (cSl 3 fDPart (el from_ (((from_.length : Int) - 1).toNat))), rV s_t.v (cSl 1 fI t), rV s_to.v (cSl 1 fLDPart to), rV s_from_.v (cSl 1 fLDPart from_)] _ := hM
    refine wv rfl (r_move rfl) ?_
    refine wv rfl (r_move rfl) ?_
    refine wv rfl (r_assign rfl) ?_
    refine wv rfl (r_assign rfl) ?_
    refine wv rfl (r_assign rfl) ?_
    refine wv rfl (r_assign rfl) ?_
    refine wl_nil ?_
    refine sq_n ?_
    refine wc_ret ?_
    obtain rfl := Option.some.inj hx
    refine fin_ret [s120.v, s127.v, s95.v, (.bool r100.2)] ⟨rfl, rfl, rfl, rfl, trivial⟩ ?_
    replace hM := hM.p2.p1.p2
    replace hM := hM.t3
    have hM := hM.fewer rsN
    exact ⟨(s120, s127, s95), rfl, hM.gives⟩

noncomputable def x_impl_PastUndo (p : DStory) (t : List Int) : Option (DStory × List DPart × Bool) :=
  Option.bind (x_impl_revert p.undo p.redo t) fun r16 => Option.bind (bif !r16.2.2.2 then (some true) else (Option.bind (x_impl_PastOk p) fun r46 => some (!r46))) fun c37 => Option.bind (bif c37 then (some true) else (some (!decide ((t.length : Int) = p.n)))) fun c52 => bif c52 then (some ((⟨0, [], []⟩ : DStory), [], false)) else (Option.bind (x_impl_OpTo r16.2.2.1) fun r70 => some ((⟨r70, r16.1, r16.2.1⟩ : DStory), r16.2.2.1, true))
theorem ct_impl_PastUndo (w : World) (X S : Bs) (p : DStory) (s_p_1 : Sv) (s_p_2 : Sv) (t : List Int) (s_t : Sv) (hS : ∀ b, S b → b < w.heap.size ∧ ¬ X b) (a_p_1 : (cSl 1 fLDPart p.undo).rd S w s_p_1.v) (a_p_2 : (cSl 1 fLDPart p.redo).rd S w s_p_2.v) (a_t_0 : (cSl 1 fI t).rd S w s_t.v) (oL : Sep [] X w) {r : DStory × List DPart × Bool} (hx : x_impl_PastUndo p t = some r) :
    Ret Try.prog 12 [(.agg #[(.int .i64 p.n), s_p_1.v, s_p_2.v]), s_t.v] w (fun u w' => ∃ y : Sv × Sv × Sv, u = .tuple #[.agg #[(.int .i64 r.1.n), y.1.v, y.2.1.v], y.2.2.v, (.bool r.2.2)] ∧ Gives X S w [oC (cSl 1 fLDPart r.1.undo) y.1.v, oC (cSl 1 fLDPart r.1.redo) y.2.1.v, oC (cSl 3 fDPart r.2.1) y.2.2.v] [] w') := by
  unfold x_impl_PastUndo at hx
  refine enter Try.func12 rfl Try.ntmps12 (by kernel_rfl) rfl ?_
  have hM := St.enter oL hS
  have hM := hM.addE (r := rV s_p_1.v (cSl 1 fLDPart p.undo)) a_p_1
  have hM := hM.addE (r := rV s_p_2.v (cSl 1 fLDPart p.redo)) a_p_2
  have hM := hM.addE (r := rV s_t.v (cSl 1 fI t)) a_t_0
  refine wc_seq ?_
  refine wc_region ?_
  refine w_ex rfl (x_box rfl hM ?_); intro b83 w82 hR84 hM
  replace hM : St ⟨w, X, S⟩ [oBox b83 #[(.int .i64 p.n), s_p_1.v, s_p_2.v] 25] [rV s_t.v (cSl 1 fI t), rV s_p_2.v (cSl 1 fLDPart p.redo), rV s_p_1.v (cSl 1 fLDPart p.undo)] _ := hM
  refine w_ex rfl (x_alloc sz25 hM ?_); intro b87 w86 hR88 hM
  replace hM : St ⟨w, X, S⟩ [oBox b87 #[(.int .i64 0), (.slice none 0 0), (.slice none 0 0)] 25, oBox b83 #[(.int .i64 p.n), s_p_1.v, s_p_2.v] 25] [rV s_t.v (cSl 1 fI t), rV s_p_2.v (cSl 1 fLDPart p.redo), rV s_p_1.v (cSl 1 fLDPart p.undo)] _ := hM
  refine wv rfl (r_assign rfl) ?_
  refine wv rfl (r_assign rfl) ?_
  refine wl_nil ?_
  refine sq_n ?_
  refine wc_seq ?_
  refine wc_region ?_
  refine wv rfl (r_fld Try.underlying25 rfl rfl sz23 rfl) ?_
  refine wv rfl (r_ldB Try.underlying23 rfl rfl hM (.tail _ (.head _)) rfl) ?_
  refine wv rfl (r_fld Try.underlying25 rfl rfl sz23 rfl) ?_
  refine wv rfl (r_ldB Try.underlying23 rfl rfl hM (.tail _ (.head _)) rfl) ?_
  refine wv rfl (r_move rfl) ?_
  obtain ⟨r97, h98, hx⟩ := bind_some' hx
  refine w_call rfl rfl (hM.callO (l := []) fun X S oL hS hR hO => ct_impl_revert _ X S p.undo s_p_1 p.redo s_p_2 t s_t hS (hR _ (.tail _ (.tail _ (.head _)))) (hR _ (.tail _ (.head _))) (hR _ (.head _)) oL h98) ?_
  rintro _ w99 ⟨⟨s100, s101, s102⟩, rfl, hM⟩
  replace hM : St ⟨w, X, S⟩ [oC (cSl 1 fLDPart r97.1) s100.v, oC (cSl 1 fLDPart r97.2.1) s101.v, oC (cSl 3 fDPart r97.2.2.1) s102.v, oBox b87 #[(.int .i64 0), (.slice none 0 0), (.slice none 0 0)] 25, oBox b83 #[(.int .i64 p.n), s_p_1.v, s_p_2.v] 25] [rV s_t.v (cSl 1 fI t), rV s_p_2.v (cSl 1 fLDPart p.redo), rV s_p_1.v (cSl 1 fLDPart p.undo)] _ := hM
  refine wv rfl (r_move rfl) ?_
  refine wv rfl (r_extract rfl rfl) ?_
  refine wv rfl (r_extract rfl rfl) ?_
  refine wv rfl (r_extract rfl rfl) ?_
  refine wv rfl (r_extract rfl rfl) ?_
  refine wv rfl (r_assign rfl) ?_
  refine wv rfl (r_assign rfl) ?_
  refine wv rfl (r_assign rfl) ?_
  refine wv rfl (r_assign rfl) ?_
  refine wl_nil ?_
  refine sq_n ?_
  refine wc_seq ?_
  refine wc_seq ?_
  refine wc_region ?_
  refine wv rfl (r_move rfl) ?_
  refine wv rfl (r_not rfl) ?_
  refine wv rfl (r_move rfl) ?_
  obtain ⟨c118, hx, hx126⟩ := bind_some' hx
  refine wl_mid 4 (fun _ : Unit => [(28, (.bool c118)), (1, s_t.v), (2, (.pointer (some ⟨b83, 0, none⟩))), (4, (.pointer (some ⟨b87, 0, none⟩))), (7, s100.v), (8, s101.v), (9, s102.v)]) (fun _ w' => St ⟨w, X, S⟩ [oC (cSl 1 fLDPart r97.1) s100.v, oC (cSl 1 fLDPart r97.2.1) s101.v, oC (cSl 3 fDPart r97.2.2.1) s102.v, oBox b87 #[(.int .i64 0), (.slice none 0 0), (.slice none 0 0)] 25, oBox b83 #[(.int .i64 p.n), s_p_1.v, s_p_2.v] 25] [rV s_t.v (cSl 1 fI t), rV s_p_2.v (cSl 1 fLDPart p.redo), rV s_p_1.v (cSl 1 fLDPart p.undo)] w') ?_ ?_
  · rcases Bool.eq_false_or_eq_true (!r97.2.2.2) with hg119 | hg119
    · replace hx := xif_t hg119 hx
      refine gs rfl (isB_no hg119) rfl ?_
      refine gs rfl (isB_no hg119) rfl ?_
      refine gs rfl (isB_no hg119) rfl ?_
      refine wv rfl (p_t rfl hg119 rfl) ?_
      obtain rfl := Option.some.inj hx
      exact mid_nil () ⟨rfl, rfl, rfl, rfl, rfl, rfl, rfl, trivial⟩ hM
    · replace hx := xif_f hg119 hx
      refine gv rfl hg119 rfl (r_ldBS Try.underlying25 sz25 rfl (us := [(.int .i64 p.n), s_p_1.v, s_p_2.v]) rfl hM (.tail _ (.tail _ (.tail _ (.tail _ (.head _))))) rfl) ?_
      obtain ⟨r128, h129, hx⟩ := bind_some' hx
      refine gc rfl hg119 rfl rfl (hM.callV fun X S oL hS hR hO => ct_impl_PastOk _ X S p s_p_1 s_p_2 hS (hR _ (.tail _ (.tail _ (.head _)))) (hR _ (.tail _ (.head _))) oL h129) ?_
      rintro _ w130 ⟨rfl, hR131⟩
      have hM := hM.call hR131
      refine gv rfl hg119 rfl (r_not rfl) ?_
      refine wv rfl (p_f rfl hg119 rfl) ?_
      obtain rfl := Option.some.inj hx
      exact mid_nil () ⟨rfl, rfl, rfl, rfl, rfl, rfl, rfl, trivial⟩ hM
  rintro _ w133 hM
  replace hx := hx126
  refine wv rfl (r_move rfl) ?_
  obtain ⟨c135, hx, hx142⟩ := bind_some' hx
  refine wl_mid 6 (fun _ : Unit => [(35, (.bool c135)), (4, (.pointer (some ⟨b87, 0, none⟩))), (7, s100.v), (8, s101.v), (9, s102.v)]) (fun _ w' => St ⟨w, X, S⟩ [oC (cSl 1 fLDPart r97.1) s100.v, oC (cSl 1 fLDPart r97.2.1) s101.v, oC (cSl 3 fDPart r97.2.2.1) s102.v, oBox b87 #[(.int .i64 0), (.slice none 0 0), (.slice none 0 0)] 25, oBox b83 #[(.int .i64 p.n), s_p_1.v, s_p_2.v] 25] [rV s_t.v (cSl 1 fI t), rV s_p_2.v (cSl 1 fLDPart p.redo), rV s_p_1.v (cSl 1 fLDPart p.undo)] w') ?_ ?_
  · rcases Bool.eq_false_or_eq_true c118 with hg136 | hg136
    · replace hx := xif_t hg136 hx
      refine gs rfl (isB_no hg136) rfl ?_
      refine gs rfl (isB_no hg136) rfl ?_
      refine gs rfl (isB_no hg136) rfl ?_
      refine gs rfl (isB_no hg136) rfl ?_
      refine gs rfl (isB_no hg136) rfl ?_
      refine wv rfl (p_t rfl hg136 rfl) ?_
      obtain rfl := Option.some.inj hx
      exact mid_nil () ⟨rfl, rfl, rfl, rfl, rfl, trivial⟩ hM
    · replace hx := xif_f hg136 hx
      refine gv rfl hg136 rfl (r_move rfl) ?_
      refine gv rfl hg136 rfl (r_lenC Try.underlying26 rfl (hM.seeR (.head _))) ?_
      refine gv rfl hg136 rfl (r_fld Try.underlying25 rfl rfl sz3 rfl) ?_
      refine gv rfl hg136 rfl (r_ldB Try.underlying3 rfl rfl hM (.tail _ (.tail _ (.tail _ (.tail _ (.head _))))) rfl) ?_
      refine gv rfl hg136 rfl (r_neq rfl rfl) ?_
      refine wv rfl (p_f rfl hg136 rfl) ?_
      obtain rfl := Option.some.inj hx
      exact mid_nil () ⟨rfl, rfl, rfl, rfl, rfl, trivial⟩ hM
  rintro _ w148 hM
  replace hx := hx142
  refine wl_nil ?_
  refine sq_n ?_
  refine wc_cond rfl (fun hc149 => ?_) (fun hc149 => ?_)
  · replace hx := xif_t hc149 hx
    refine wc_seq ?_
    refine wc_region ?_
    refine wv rfl (r_build (cells := #[(.int .i64 0), (.slice none 0 0), (.slice none 0 0)]) rfl (by kernel_rfl)) ?_
    replace hM := hM.p3
    refine w_exu (x_stB #[(.int .i64 0), (.slice none 0 0), (.slice none 0 0)] sz25 rfl rfl rfl rfl rfl rfl hM ?_); intro w151 hM
    refine wv rfl (r_assign rfl) ?_
    refine wv rfl (r_assign rfl) ?_
    refine wl_nil ?_
    refine sq_n ?_
    refine wc_ret ?_
    refine sq_ret ?_
    obtain rfl := Option.some.inj hx
    have hM := hM.nil0 (T := List DPart) 1 fLDPart
    have hM := hM.nil0 (T := List DPart) 1 fLDPart
    have hM := hM.nil0 (T := DPart) 3 fDPart
    refine fin_ret [(.agg #[(.int .i64 0), nS.v, nS.v]), nS.v, (.bool false)] ⟨rv_box Try.underlying25 sz25 rfl rfl hM (.tail _ (.tail _ (.tail _ (.head _)))), rfl, rfl, trivial⟩ ?_
    replace hM := hM.p1.p2
    replace hM := hM.t3
    have hM := hM.fewer rsN
    exact ⟨(nS, nS, nS), rfl, hM.gives⟩
  · replace hx := xif_f hc149 hx
    refine wc_skip ?_
    refine sq_n ?_
    refine wc_seq ?_
    refine wc_region ?_
    refine wv rfl (r_move rfl) ?_
    obtain ⟨r159, h160, hx⟩ := bind_some' hx
    refine w_call rfl rfl (hM.callV fun X S oL hS hR hO => ct_impl_OpTo _ X S r97.2.2.1 s102 hS (seeA hO (.tail _ (.tail _ (.head _)))) oL h160) ?_
    rintro _ w161 ⟨rfl, hR162⟩
    have hM := hM.call hR162
    refine wv rfl (r_move rfl) ?_
    refine wv rfl (r_move rfl) ?_
    refine wv rfl (r_build (cells := #[(.int .i64 r159), s100.v, s101.v]) rfl (by kernel_rfl)) ?_
    refine wv rfl (r_move rfl) ?_
    replace hM := hM.p3
    refine w_exu (x_stB #[(.int .i64 r159), s100.v, s101.v] sz25 rfl rfl rfl rfl rfl rfl hM ?_); intro w167 hM
    refine wv rfl (r_assign rfl) ?_
    refine wv rfl (r_assign rfl) ?_
    refine wl_nil ?_
    refine sq_n ?_
    refine wc_ret ?_
    obtain rfl := Option.some.inj hx
    refine fin_ret [(.agg #[(.int .i64 r159), s100.v, s101.v]), s102.v, (.bool true)] ⟨rv_box Try.underlying25 sz25 rfl rfl hM (.head _), rfl, rfl, trivial⟩ ?_
    replace hM := hM.p3.p3.p3
    replace hM := hM.t3
    have hM := hM.fewer rsN
    exact ⟨(s100, s101, s102), rfl, hM.gives⟩

noncomputable def x_impl_PastRedo (p : DStory) (t : List Int) : Option (DStory × List DPart × Bool) :=
  Option.bind (x_impl_revert p.redo p.undo t) fun r16 => Option.bind (bif !r16.2.2.2 then (some true) else (Option.bind (x_impl_PastOk p) fun r46 => some (!r46))) fun c37 => Option.bind (bif c37 then (some true) else (some (!decide ((t.length : Int) = p.n)))) fun c52 => bif c52 then (some ((⟨0, [], []⟩ : DStory), [], false)) else (Option.bind (x_impl_OpTo r16.2.2.1) fun r70 => some ((⟨r70, r16.2.1, r16.1⟩ : DStory), r16.2.2.1, true))
theorem ct_impl_PastRedo (w : World) (X S : Bs) (p : DStory) (s_p_1 : Sv) (s_p_2 : Sv) (t : List Int) (s_t : Sv) (hS : ∀ b, S b → b < w.heap.size ∧ ¬ X b) (a_p_1 : (cSl 1 fLDPart p.undo).rd S w s_p_1.v) (a_p_2 : (cSl 1 fLDPart p.redo).rd S w s_p_2.v) (a_t_0 : (cSl 1 fI t).rd S w s_t.v) (oL : Sep [] X w) {r : DStory × List DPart × Bool} (hx : x_impl_PastRedo p t = some r) :
    Ret Try.prog 13 [(.agg #[(.int .i64 p.n), s_p_1.v, s_p_2.v]), s_t.v] w (fun u w' => ∃ y : Sv × Sv × Sv, u = .tuple #[.agg #[(.int .i64 r.1.n), y.1.v, y.2.1.v], y.2.2.v, (.bool r.2.2)] ∧ Gives X S w [oC (cSl 1 fLDPart r.1.undo) y.1.v, oC (cSl 1 fLDPart r.1.redo) y.2.1.v, oC (cSl 3 fDPart r.2.1) y.2.2.v] [] w') := by
  unfold x_impl_PastRedo at hx
  refine enter Try.func13 rfl Try.ntmps13 (by kernel_rfl) rfl ?_
  have hM := St.enter oL hS
  have hM := hM.addE (r := rV s_p_1.v (cSl 1 fLDPart p.undo)) a_p_1
  have hM := hM.addE (r := rV s_p_2.v (cSl 1 fLDPart p.redo)) a_p_2
  have hM := hM.addE (r := rV s_t.v (cSl 1 fI t)) a_t_0
  refine wc_seq ?_
  refine wc_region ?_
  refine w_ex rfl (x_box rfl hM ?_); intro b83 w82 hR84 hM
  replace hM : St ⟨w, X, S⟩ [oBox b83 #[(.int .i64 p.n), s_p_1.v, s_p_2.v] 25] [rV s_t.v (cSl 1 fI t), rV s_p_2.v (cSl 1 fLDPart p.redo), rV s_p_1.v (cSl 1 fLDPart p.undo)] _ := hM
  refine w_ex rfl (x_alloc sz25 hM ?_); intro b87 w86 hR88 hM
  replace hM : St ⟨w, X, S⟩ [oBox b87 #[(.int .i64 0), (.slice none 0 0), (.slice none 0 0)] 25, oBox b83 #[(.int .i64 p.n), s_p_1.v, s_p_2.v] 25] [rV s_t.v (cSl 1 fI t), rV s_p_2.v (cSl 1 fLDPart p.redo), rV s_p_1.v (cSl 1 fLDPart p.undo)] _ := hM
  refine wv rfl (r_assign rfl) ?_
  refine wv rfl (r_assign rfl) ?_
  refine wl_nil ?_
  refine sq_n ?_
  refine wc_seq ?_
  refine wc_region ?_
  refine wv rfl (r_fld Try.underlying25 rfl rfl sz23 rfl) ?_
  refine wv rfl (r_ldB Try.underlying23 rfl rfl hM (.tail _ (.head _)) rfl) ?_
  refine wv rfl (r_fld Try.underlying25 rfl rfl sz23 rfl) ?_
  refine wv rfl (r_ldB Try.underlying23 rfl rfl hM (.tail _ (.head _)) rfl) ?_
  refine wv rfl (r_move rfl) ?_
  obtain ⟨r97, h98, hx⟩ := bind_some' hx
  refine w_call rfl rfl (hM.callO (l := []) fun X S oL hS hR hO => ct_impl_revert _ X S p.redo s_p_2 p.undo s_p_1 t s_t hS (hR _ (.tail _ (.head _))) (hR _ (.tail _ (.tail _ (.head _)))) (hR _ (.head _)) oL h98) ?_
  rintro _ w99 ⟨⟨s100, s101, s102⟩, rfl, hM⟩
  replace hM : St ⟨w, X, S⟩ [oC (cSl 1 fLDPart r97.1) s100.v, oC (cSl 1 fLDPart r97.2.1) s101.v, oC (cSl 3 fDPart r97.2.2.1) s102.v, oBox b87 #[(.int .i64 0), (.slice none 0 0), (.slice none 0 0)] 25, oBox b83 #[(.int .i64 p.n), s_p_1.v, s_p_2.v] 25] [rV s_t.v (cSl 1 fI t), rV s_p_2.v (cSl 1 fLDPart p.redo), rV s_p_1.v (cSl 1 fLDPart p.undo)] _ := hM
  refine wv rfl (r_move rfl) ?_
  refine wv rfl (r_extract rfl rfl) ?_
  refine wv rfl (r_extract rfl rfl) ?_
  refine wv rfl (r_extract rfl rfl) ?_
  refine wv rfl (r_extract rfl rfl) ?_
  refine wv rfl (r_assign rfl) ?_
  refine wv rfl (r_assign rfl) ?_
  refine wv rfl (r_assign rfl) ?_
  refine wv rfl (r_assign rfl) ?_
  refine wl_nil ?_
  refine sq_n ?_
  refine wc_seq ?_
  refine wc_seq ?_
  refine wc_region ?_
  refine wv rfl (r_move rfl) ?_
  refine wv rfl (r_not rfl) ?_
  refine wv rfl (r_move rfl) ?_
  obtain ⟨c118, hx, hx126⟩ := bind_some' hx
  refine wl_mid 4 (fun _ : Unit => [(28, (.bool c118)), (1, s_t.v), (2, (.pointer (some ⟨b83, 0, none⟩))), (4, (.pointer (some ⟨b87, 0, none⟩))), (7, s100.v), (8, s101.v), (9, s102.v)]) (fun _ w' => St ⟨w, X, S⟩ [oC (cSl 1 fLDPart r97.1) s100.v, oC (cSl 1 fLDPart r97.2.1) s101.v, oC (cSl 3 fDPart r97.2.2.1) s102.v, oBox b87 #[(.int .i64 0), (.slice none 0 0), (.slice none 0 0)] 25, oBox b83 #[(.int .i64 p.n), s_p_1.v, s_p_2.v] 25] [rV s_t.v (cSl 1 fI t), rV s_p_2.v (cSl 1 fLDPart p.redo), rV s_p_1.v (cSl 1 fLDPart p.undo)] w') ?_ ?_
  · rcases Bool.eq_false_or_eq_true (!r97.2.2.2) with hg119 | hg119
    · replace hx := xif_t hg119 hx
      refine gs rfl (isB_no hg119) rfl ?_
      refine gs rfl (isB_no hg119) rfl ?_
      refine gs rfl (isB_no hg119) rfl ?_
      refine wv rfl (p_t rfl hg119 rfl) ?_
      obtain rfl := Option.some.inj hx
      exact mid_nil () ⟨rfl, rfl, rfl, rfl, rfl, rfl, rfl, trivial⟩ hM
    · replace hx := xif_f hg119 hx
      refine gv rfl hg119 rfl (r_ldBS Try.underlying25 sz25 rfl (us := [(.int .i64 p.n), s_p_1.v, s_p_2.v]) rfl hM (.tail _ (.tail _ (.tail _ (.tail _ (.head _))))) rfl) ?_
      obtain ⟨r128, h129, hx⟩ := bind_some' hx
      refine gc rfl hg119 rfl rfl (hM.callV fun X S oL hS hR hO => ct_impl_PastOk _ X S p s_p_1 s_p_2 hS (hR _ (.tail _ (.tail _ (.head _)))) (hR _ (.tail _ (.head _))) oL h129) ?_
      rintro _ w130 ⟨rfl, hR131⟩
      have hM := hM.call hR131
      refine gv rfl hg119 rfl (r_not rfl) ?_
      refine wv rfl (p_f rfl hg119 rfl) ?_
      obtain rfl := Option.some.inj hx
      exact mid_nil () ⟨rfl, rfl, rfl, rfl, rfl, rfl, rfl, trivial⟩ hM
  rintro _ w133 hM
  replace hx := hx126
  refine wv rfl (r_move rfl) ?_
  obtain ⟨c135, hx, hx142⟩ := bind_some' hx
  refine wl_mid 6 (fun _ : Unit => [(35, (.bool c135)), (4, (.pointer (some ⟨b87, 0, none⟩))), (7, s100.v), (8, s101.v), (9, s102.v)]) (fun _ w' => St ⟨w, X, S⟩ [oC (cSl 1 fLDPart r97.1) s100.v, oC (cSl 1 fLDPart r97.2.1) s101.v, oC (cSl 3 fDPart r97.2.2.1) s102.v, oBox b87 #[(.int .i64 0), (.slice none 0 0), (.slice none 0 0)] 25, oBox b83 #[(.int .i64 p.n), s_p_1.v, s_p_2.v] 25] [rV s_t.v (cSl 1 fI t), rV s_p_2.v (cSl 1 fLDPart p.redo), rV s_p_1.v (cSl 1 fLDPart p.undo)] w') ?_ ?_
  · rcases Bool.eq_false_or_eq_true c118 with hg136 | hg136
    · replace hx := xif_t hg136 hx
      refine gs rfl (isB_no hg136) rfl ?_
      refine gs rfl (isB_no hg136) rfl ?_
      refine gs rfl (isB_no hg136) rfl ?_
      refine gs rfl (isB_no hg136) rfl ?_
      refine gs rfl (isB_no hg136) rfl ?_
      refine wv rfl (p_t rfl hg136 rfl) ?_
      obtain rfl := Option.some.inj hx
      exact mid_nil () ⟨rfl, rfl, rfl, rfl, rfl, trivial⟩ hM
    · replace hx := xif_f hg136 hx
      refine gv rfl hg136 rfl (r_move rfl) ?_
      refine gv rfl hg136 rfl (r_lenC Try.underlying26 rfl (hM.seeR (.head _))) ?_
      refine gv rfl hg136 rfl (r_fld Try.underlying25 rfl rfl sz3 rfl) ?_
      refine gv rfl hg136 rfl (r_ldB Try.underlying3 rfl rfl hM (.tail _ (.tail _ (.tail _ (.tail _ (.head _))))) rfl) ?_
      refine gv rfl hg136 rfl (r_neq rfl rfl) ?_
      refine wv rfl (p_f rfl hg136 rfl) ?_
      obtain rfl := Option.some.inj hx
      exact mid_nil () ⟨rfl, rfl, rfl, rfl, rfl, trivial⟩ hM
  rintro _ w148 hM
  replace hx := hx142
  refine wl_nil ?_
  refine sq_n ?_
  refine wc_cond rfl (fun hc149 => ?_) (fun hc149 => ?_)
  · replace hx := xif_t hc149 hx
    refine wc_seq ?_
    refine wc_region ?_
    refine wv rfl (r_build (cells := #[(.int .i64 0), (.slice none 0 0), (.slice none 0 0)]) rfl (by kernel_rfl)) ?_
    replace hM := hM.p3
    refine w_exu (x_stB #[(.int .i64 0), (.slice none 0 0), (.slice none 0 0)] sz25 rfl rfl rfl rfl rfl rfl hM ?_); intro w151 hM
    refine wv rfl (r_assign rfl) ?_
    refine wv rfl (r_assign rfl) ?_
    refine wl_nil ?_
    refine sq_n ?_
    refine wc_ret ?_
    refine sq_ret ?_
    obtain rfl := Option.some.inj hx
    have hM := hM.nil0 (T := List DPart) 1 fLDPart
    have hM := hM.nil0 (T := List DPart) 1 fLDPart
    have hM := hM.nil0 (T := DPart) 3 fDPart
    refine fin_ret [(.agg #[(.int .i64 0), nS.v, nS.v]), nS.v, (.bool false)] ⟨rv_box Try.underlying25 sz25 rfl rfl hM (.tail _ (.tail _ (.tail _ (.head _)))), rfl, rfl, trivial⟩ ?_
    replace hM := hM.p1.p2
    replace hM := hM.t3
    have hM := hM.fewer rsN
    exact ⟨(nS, nS, nS), rfl, hM.gives⟩
  · replace hx := xif_f hc149 hx
    refine wc_skip ?_
    refine sq_n ?_
    refine wc_seq ?_
    refine wc_region ?_
    refine wv rfl (r_move rfl) ?_
    obtain ⟨r159, h160, hx⟩ := bind_some' hx
    refine w_call rfl rfl (hM.callV fun X S oL hS hR hO => ct_impl_OpTo _ X S r97.2.2.1 s102 hS (seeA hO (.tail _ (.tail _ (.head _)))) oL h160) ?_
    rintro _ w161 ⟨rfl, hR162⟩
    have hM := hM.call hR162
    refine wv rfl (r_move rfl) ?_
    refine wv rfl (r_move rfl) ?_
    refine wv rfl (r_build (cells := #[(.int .i64 r159), s101.v, s100.v]) rfl (by kernel_rfl)) ?_
    refine wv rfl (r_move rfl) ?_
    replace hM := hM.p3
    refine w_exu (x_stB #[(.int .i64 r159), s101.v, s100.v] sz25 rfl rfl rfl rfl rfl rfl hM ?_); intro w167 hM
    refine wv rfl (r_assign rfl) ?_
    refine wv rfl (r_assign rfl) ?_
    refine wl_nil ?_
    refine sq_n ?_
    refine wc_ret ?_
    obtain rfl := Option.some.inj hx
    refine fin_ret [(.agg #[(.int .i64 r159), s101.v, s100.v]), s102.v, (.bool true)] ⟨rv_box Try.underlying25 sz25 rfl rfl hM (.head _), rfl, rfl, trivial⟩ ?_
    replace hM := hM.p3.p2.p3
    replace hM := hM.t3
    have hM := hM.fewer rsN
    exact ⟨(s101, s100, s102), rfl, hM.gives⟩

noncomputable def x_spec_l24Side_b0 (l : List (List DPart)) (n7 : Int) (i8 : Int) : Option (Lr (Int × Int) (Sum Unit Unit)) :=
  bif decide ((0 : Int) ≤ i8) then (xg (0 ≤ i8 ∧ i8 < (l.length : Int)) <| Option.bind (x_spec_IsNorm (el l i8.toNat)) fun r83 => Option.bind (bif !r83 then (some true) else (xg (0 ≤ i8 ∧ i8 < (l.length : Int)) <| Option.bind (x_spec_OpFrom (el l i8.toNat)) fun r113 => some (!decide (r113 = n7)))) fun c89 => bif c89 then (some (Lr.out (Sum.inr (())))) else (xg (0 ≤ i8 ∧ i8 < (l.length : Int)) <| Option.bind (x_spec_OpTo (el l i8.toNat)) fun r128 => xg (inI (i8 - 1)) <| some (Lr.go (r128, i8 - 1)))) else (some (Lr.out (Sum.inl ())))
noncomputable def x_spec_l24Side_f0 (l : List (List DPart)) (s137 : Int × Int) : Option (Lr (Int × Int) (Sum Unit Unit)) := x_spec_l24Side_b0 l s137.1 s137.2
noncomputable def x_spec_l24Side (l : List (List DPart)) (n : Int) : Option Bool :=
  xg (inI ((l.length : Int) - 1)) <| Option.bind (iter (x_spec_l24Side_f0 l) (n, (l.length : Int) - 1)) fun (y138 : Sum Unit Unit) => Sum.elim (fun _y139 => some (decide ((l.length : Int) ≤ 8))) (fun _y140 => some false) y138
theorem ct_spec_l24Side (w : World) (X S : Bs) (l : List (List DPart)) (s_l : Sv) (n : Int) (hS : ∀ b, S b → b < w.heap.size ∧ ¬ X b) (a_l_0 : (cSl 1 fLDPart l).rd S w s_l.v) (oL : Sep [] X w) {r : Bool} (hx : x_spec_l24Side l n = some r) :
    Ret Try.prog 135 [s_l.v, (.int .i64 n)] w (fun u w' => ∃ _ : Unit, u = (.bool r) ∧ Gives X S w [] [] w') := by
  unfold x_spec_l24Side at hx
  refine enter Try.func135 rfl Try.ntmps135 (by kernel_rfl) rfl ?_
  have hM := St.enter oL hS
  have hM := hM.addE (r := rV s_l.v (cSl 1 fLDPart l)) a_l_0
  refine wc_seq ?_
  refine wc_region ?_
  refine wv rfl (r_assign rfl) ?_
  refine wl_nil ?_
  refine sq_n ?_
  refine wc_seq ?_
  refine wc_seq ?_
  refine wc_region ?_
  refine wv rfl (r_move rfl) ?_
  refine wv rfl (r_lenC Try.underlying23 rfl (hM.seeR (.head _))) ?_
  obtain ⟨hg149, hx⟩ := xg_some hx
  refine wv rfl (r_sub rfl rfl hg149) ?_
  refine wv rfl (r_assign rfl) ?_
  refine wl_nil ?_
  refine sq_n ?_
  refine wc_block ?_
  obtain ⟨y151, hx, hx152⟩ := bind_some' hx
  obtain ⟨m157, hx⟩ := iter_run hx
  refine wc_loop (un fun (m155 : Nat) => un fun (n153 : Int) => fun (i154 : Int) => [(0, s_l.v), (1, (.int .i64 n153)), (5, (.int .i64 i154))]) (un fun (m155 : Nat) => un fun (n153 : Int) => fun (i154 : Int) w' => St ⟨w, X, S⟩ [] [rV s_l.v (cSl 1 fLDPart l)] w' ∧ iterN _ m155 (n153, i154) = some y151) (fun p => p.1) (m157, n, (l.length : Int) - 1) ⟨rfl, rfl, rfl, trivial⟩ ⟨hM, hx⟩ ?_
  rintro ⟨m155, n153, i154⟩ w158 ⟨hM, hx⟩
  obtain ⟨m159, z160, rfl, hx, hx161⟩ := iterN_step hx
  unfold x_spec_l24Side_f0 x_spec_l24Side_b0 at hx
  try dsimp only at hx
  refine wc_seq ?_
  refine wc_seq ?_
  refine wc_region ?_
  refine wv rfl (r_move rfl) ?_
  refine wv rfl (r_geq rfl rfl) ?_
  refine wl_nil ?_
  refine sq_n ?_
  refine wc_cond rfl (fun hc164 => ?_) (fun hc164 => ?_)
  · replace hx := xif_t hc164 hx
    refine wc_skip ?_
    refine sq_n ?_
    refine wc_seq ?_
    refine wc_block ?_
    refine wc_seq ?_
    refine wc_seq ?_
    refine wc_region ?_
    refine wv rfl (r_move rfl) ?_
    refine wv rfl (r_move rfl) ?_
    obtain ⟨hg169, hx⟩ := xg_some hx
    have hi168 : i154.toNat < l.length := by omega
    refine wv rfl (r_ixC Try.underlying23 sz29 rfl rfl (hM.seeR (.head _)) hg169) ?_
    obtain ⟨s171, hM, hc172⟩ := hM.leaf (i := i154.toNat) (j := 0) (.head _) (fun _ => rfl) hi168 rfl
    refine wv rfl (r_ld Try.underlying29 rfl rfl (hc172 _ (Rel.refl _))) ?_
    obtain ⟨r173, h174, hx⟩ := bind_some' hx
    refine w_call rfl rfl (hM.callV fun X S oL hS hR hO => ct_spec_IsNorm _ X S (el l i154.toNat) s171 hS (hR _ (.head _)) oL h174) ?_
    rintro _ w175 ⟨rfl, hR176⟩
    have hM := hM.call hR176
    refine wv rfl (r_not rfl) ?_
    refine wv rfl (r_move rfl) ?_
    obtain ⟨c179, hx, hx195⟩ := bind_some' hx
    refine wl_mid 8 (fun _ : Unit => [(27, (.bool c179)), (0, s_l.v), (5, (.int .i64 i154))]) (fun _ w' => St ⟨w, X, S⟩ [] [rV s171.v (cSl 3 fDPart (el l i154.toNat)), rV s_l.v (cSl 1 fLDPart l)] w') ?_ ?_
    · rcases Bool.eq_false_or_eq_true (!r173) with hg180 | hg180
      · replace hx := xif_t hg180 hx
        refine gs rfl (isB_no hg180) rfl ?_
        refine gs rfl (isB_no hg180) rfl ?_
        refine gs rfl (isB_no hg180) rfl ?_
        refine gs rfl (isB_no hg180) rfl ?_
        refine gs rfl (isB_no hg180) rfl ?_
        refine gs rfl (isB_no hg180) rfl ?_
        refine gs rfl (isB_no hg180) rfl ?_
        refine wv rfl (p_t rfl hg180 rfl) ?_
        obtain rfl := Option.some.inj hx
        exact mid_nil () ⟨rfl, rfl, rfl, trivial⟩ hM
      · replace hx := xif_f hg180 hx
        refine gv rfl hg180 rfl (r_move rfl) ?_
        refine gv rfl hg180 rfl (r_move rfl) ?_
        obtain ⟨hg200, hx⟩ := xg_some hx
        have hi199 : i154.toNat < l.length := by omega
        refine gv rfl hg180 rfl (r_ixC Try.underlying23 sz29 rfl rfl (hM.seeR (.tail _ (.head _))) hg200) ?_
        obtain ⟨s202, hM, hc203⟩ := hM.leaf (i := i154.toNat) (j := 0) (.tail _ (.head _)) (fun _ => rfl) hi199 rfl
        refine gv rfl hg180 rfl (r_ld Try.underlying29 rfl rfl (hc203 _ (Rel.refl _))) ?_
        obtain ⟨r204, h205, hx⟩ := bind_some' hx
        refine gc rfl hg180 rfl rfl (hM.callV fun X S oL hS hR hO => ct_spec_OpFrom _ X S (el l i154.toNat) s202 hS (hR _ (.head _)) oL h205) ?_
        rintro _ w206 ⟨rfl, hR207⟩
        have hM := hM.call hR207
        refine gv rfl hg180 rfl (r_move rfl) ?_
        refine gv rfl hg180 rfl (r_neq rfl rfl) ?_
        refine wv rfl (p_f rfl hg180 rfl) ?_
        obtain rfl := Option.some.inj hx
        replace hM : St ⟨w, X, S⟩ [] [rV s171.v (cSl 3 fDPart (el l i154.toNat)), rV s_l.v (cSl 1 fLDPart l)] _ := hM.dropR 1
        exact mid_nil () ⟨rfl, rfl, rfl, trivial⟩ hM
    rintro _ w210 hM
    replace hx := hx195
    refine wl_nil ?_
    refine sq_n ?_
    refine wc_cond rfl (fun hc211 => ?_) (fun hc211 => ?_)
    · replace hx := xif_t hc211 hx
      refine wc_seq ?_
      refine wc_region ?_
      refine wv rfl (r_assign rfl) ?_
      refine wl_nil ?_
      refine sq_n ?_
      refine wc_ret ?_
      refine sq_ret ?_
      refine bk_ret ?_
      refine sq_ret ?_
      refine lp1_ret ?_
      obtain rfl := Option.some.inj hx
      obtain rfl := Option.some.inj hx161
      replace hx := hx152
      try dsimp only [Sum.elim_inl, Sum.elim_inr] at hx
      refine bk_ret ?_
      refine sq_ret ?_
      obtain rfl := Option.some.inj hx
      refine fin_ret [(.bool false)] ⟨rfl, trivial⟩ ?_
      replace hM := hM.t0
      have hM := hM.fewer rsN
      exact ⟨(), rfl, hM.gives⟩
    · replace hx := xif_f hc211 hx
      refine wc_skip ?_
      refine sq_n ?_
      refine wc_region ?_
      refine wv rfl (r_move rfl) ?_
      refine wv rfl (r_move rfl) ?_
      obtain ⟨hg217, hx⟩ := xg_some hx
      have hi216 : i154.toNat < l.length := by omega
      refine wv rfl (r_ixC Try.underlying23 sz29 rfl rfl (hM.seeR (.tail _ (.head _))) hg217) ?_
      obtain ⟨s219, hM, hc220⟩ := hM.leaf (i := i154.toNat) (j := 0) (.tail _ (.head _)) (fun _ => rfl) hi216 rfl
      refine wv rfl (r_ld Try.underlying29 rfl rfl (hc220 _ (Rel.refl _))) ?_
      obtain ⟨r221, h222, hx⟩ := bind_some' hx
      refine w_call rfl rfl (hM.callV fun X S oL hS hR hO => ct_spec_OpTo _ X S (el l i154.toNat) s219 hS (hR _ (.head _)) oL h222) ?_
      rintro _ w223 ⟨rfl, hR224⟩
      have hM := hM.call hR224
      refine wv rfl (r_assign rfl) ?_
      refine wl_nil ?_
      refine bk_n ?_
      refine sq_n ?_
      refine wc_region ?_
      refine wv rfl (r_move rfl) ?_
      obtain ⟨hg228, hx⟩ := xg_some hx
      refine wv rfl (r_sub rfl rfl hg228) ?_
      refine wv rfl (r_assign rfl) ?_
      refine wl_nil ?_
      obtain rfl := Option.some.inj hx
      have hM := hM.fewer (rsC (.tail _ (.tail _ (.head _))) rsN)
      replace hM : St ⟨w, X, S⟩ [] [rV s_l.v (cSl 1 fLDPart l)] _ := hM
      exact lp_end (m159, r221, i154 - 1) (Nat.lt_succ_self _) ⟨rfl, rfl, rfl, trivial⟩ ⟨hM, hx161⟩
  · replace hx := xif_f hc164 hx
    refine wc_exit ?_
    refine sq_exit ?_
    refine lp1_exit ?_
    obtain rfl := Option.some.inj hx
    obtain rfl := Option.some.inj hx161
    replace hx := hx152
    try dsimp only [Sum.elim_inl, Sum.elim_inr] at hx
    refine bk_here ?_
    refine sq_n ?_
    refine wc_seq ?_
    refine wc_region ?_
    refine wv rfl (r_move rfl) ?_
    refine wv rfl (r_lenC Try.underlying23 rfl (hM.seeR (.head _))) ?_
    refine wv rfl (r_leq rfl rfl) ?_
    refine wv rfl (r_assign rfl) ?_
    refine wl_nil ?_
    refine sq_n ?_
    refine wc_ret ?_
    obtain rfl := Option.some.inj hx
    refine fin_ret [(.bool (decide ((l.length : Int) ≤ 8)))] ⟨rfl, trivial⟩ ?_
    replace hM := hM.t0
    have hM := hM.fewer rsN
    exact ⟨(), rfl, hM.gives⟩

noncomputable def x_spec_PastOk (p : DStory) : Option Bool :=
  Option.bind (x_spec_l01In p.n 0 200) fun r8 => Option.bind (bif r8 then (Option.bind (x_spec_l24Side p.undo p.n) fun r27 => some r27) else (some false)) fun c13 => Option.bind (bif c13 then (Option.bind (x_spec_l24Side p.redo p.n) fun r46 => some r46) else (some false)) fun c32 => some c32
theorem ct_spec_PastOk (w : World) (X S : Bs) (p : DStory) (s_p_1 : Sv) (s_p_2 : Sv) (hS : ∀ b, S b → b < w.heap.size ∧ ¬ X b) (a_p_1 : (cSl 1 fLDPart p.undo).rd S w s_p_1.v) (a_p_2 : (cSl 1 fLDPart p.redo).rd S w s_p_2.v) (oL : Sep [] X w) {r : Bool} (hx : x_spec_PastOk p = some r) :
    Ret Try.prog 116 [(.agg #[(.int .i64 p.n), s_p_1.v, s_p_2.v])] w (fun u w' => ∃ _ : Unit, u = (.bool r) ∧ Gives X S w [] [] w') := by
  unfold x_spec_PastOk at hx
  refine enter Try.func116 rfl Try.ntmps116 (by kernel_rfl) rfl ?_
  have hM := St.enter oL hS
  have hM := hM.addE (r := rV s_p_1.v (cSl 1 fLDPart p.undo)) a_p_1
  have hM := hM.addE (r := rV s_p_2.v (cSl 1 fLDPart p.redo)) a_p_2
  refine wc_seq ?_
  refine wc_region ?_
  refine w_ex rfl (x_box rfl hM ?_); intro b52 w51 hR53 hM
  replace hM : St ⟨w, X, S⟩ [oBox b52 #[(.int .i64 p.n), s_p_1.v, s_p_2.v] 25] [rV s_p_2.v (cSl 1 fLDPart p.redo), rV s_p_1.v (cSl 1 fLDPart p.undo)] _ := hM
  refine wv rfl (r_assign rfl) ?_
  refine wl_nil ?_
  refine sq_n ?_
  refine wc_seq ?_
  refine wc_region ?_
  refine wv rfl (r_fld Try.underlying25 rfl rfl sz3 rfl) ?_
  refine wv rfl (r_ldB Try.underlying3 rfl rfl hM (.head _) rfl) ?_
  obtain ⟨r58, h59, hx⟩ := bind_some' hx
  refine w_call rfl rfl (hM.callV fun X S oL hS hR hO => ct_spec_l01In _ X S p.n (0 : Int) (200 : Int) hS  oL h59) ?_
  rintro _ w60 ⟨rfl, hR61⟩
  have hM := hM.call hR61
  refine wv rfl (r_move rfl) ?_
  obtain ⟨c63, hx, hx73⟩ := bind_some' hx
  refine wl_mid 6 (fun _ : Unit => [(12, (.bool c63)), (1, (.pointer (some ⟨b52, 0, none⟩)))]) (fun _ w' => St ⟨w, X, S⟩ [oBox b52 #[(.int .i64 p.n), s_p_1.v, s_p_2.v] 25] [rV s_p_2.v (cSl 1 fLDPart p.redo), rV s_p_1.v (cSl 1 fLDPart p.undo)] w') ?_ ?_
  · rcases Bool.eq_false_or_eq_true r58 with hg64 | hg64
    · replace hx := xif_t hg64 hx
      refine gv rfl hg64 rfl (r_fld Try.underlying25 rfl rfl sz23 rfl) ?_
      refine gv rfl hg64 rfl (r_ldB Try.underlying23 rfl rfl hM (.head _) rfl) ?_
      refine gv rfl hg64 rfl (r_fld Try.underlying25 rfl rfl sz3 rfl) ?_
      refine gv rfl hg64 rfl (r_ldB Try.underlying3 rfl rfl hM (.head _) rfl) ?_
      obtain ⟨r78, h79, hx⟩ := bind_some' hx
      refine gc rfl hg64 rfl rfl (hM.callV fun X S oL hS hR hO => ct_spec_l24Side _ X S p.undo s_p_1 p.n hS (hR _ (.tail _ (.head _))) oL h79) ?_
      rintro _ w80 ⟨rfl, hR81⟩
      have hM := hM.call hR81
      refine wv rfl (p_t rfl hg64 rfl) ?_
      obtain rfl := Option.some.inj hx
      exact mid_nil () ⟨rfl, rfl, trivial⟩ hM
    · replace hx := xif_f hg64 hx
      refine gs rfl (isB_no hg64) rfl ?_
      refine gs rfl (isB_no hg64) rfl ?_
      refine gs rfl (isB_no hg64) rfl ?_
      refine gs rfl (isB_no hg64) rfl ?_
      refine gs rfl (isB_no hg64) rfl ?_
      refine wv rfl (p_f rfl hg64 rfl) ?_
      obtain rfl := Option.some.inj hx
      exact mid_nil () ⟨rfl, rfl, trivial⟩ hM
  rintro _ w82 hM
  replace hx := hx73
  refine wv rfl (r_move rfl) ?_
  obtain ⟨c84, hx, hx94⟩ := bind_some' hx
  refine wl_mid 6 (fun _ : Unit => [(19, (.bool c84))]) (fun _ w' => St ⟨w, X, S⟩ [oBox b52 #[(.int .i64 p.n), s_p_1.v, s_p_2.v] 25] [rV s_p_2.v (cSl 1 fLDPart p.redo), rV s_p_1.v (cSl 1 fLDPart p.undo)] w') ?_ ?_
  · rcases Bool.eq_false_or_eq_true c63 with hg85 | hg85
    · replace hx := xif_t hg85 hx
      refine gv rfl hg85 rfl (r_fld Try.underlying25 rfl rfl sz23 rfl) ?_
      refine gv rfl hg85 rfl (r_ldB Try.underlying23 rfl rfl hM (.head _) rfl) ?_
      refine gv rfl hg85 rfl (r_fld Try.underlying25 rfl rfl sz3 rfl) ?_
      refine gv rfl hg85 rfl (r_ldB Try.underlying3 rfl rfl hM (.head _) rfl) ?_
      obtain ⟨r99, h100, hx⟩ := bind_some' hx
      refine gc rfl hg85 rfl rfl (hM.callV fun X S oL hS hR hO => ct_spec_l24Side _ X S p.redo s_p_2 p.n hS (hR _ (.head _)) oL h100) ?_
      rintro _ w101 ⟨rfl, hR102⟩
      have hM := hM.call hR102
      refine wv rfl (p_t rfl hg85 rfl) ?_
      obtain rfl := Option.some.inj hx
      exact mid_nil () ⟨rfl, trivial⟩ hM
    · replace hx := xif_f hg85 hx
      refine gs rfl (isB_no hg85) rfl ?_
      refine gs rfl (isB_no hg85) rfl ?_
      refine gs rfl (isB_no hg85) rfl ?_
      refine gs rfl (isB_no hg85) rfl ?_
      refine gs rfl (isB_no hg85) rfl ?_
      refine wv rfl (p_f rfl hg85 rfl) ?_
      obtain rfl := Option.some.inj hx
      exact mid_nil () ⟨rfl, trivial⟩ hM
  rintro _ w103 hM
  replace hx := hx94
  refine wv rfl (r_assign rfl) ?_
  refine wl_nil ?_
  refine sq_n ?_
  refine wc_ret ?_
  obtain rfl := Option.some.inj hx
  refine fin_ret [(.bool c84)] ⟨rfl, trivial⟩ ?_
  replace hM := hM.t0
  have hM := hM.fewer rsN
  exact ⟨(), rfl, hM.gives⟩

noncomputable def x_spec_l02Copy_b0 (_o : List DPart) (_k10 : Nat) (x112 : DPart) (out11 : List DPart) : Option (Lr (List DPart) (List DPart)) :=
  xg (0 + (x112.signs).length ≤ 1099511627776) <| xg (out11.length + [(⟨x112.kind, x112.n, [] ++ (x112.signs)⟩ : DPart)].length ≤ 1099511627776) <| some (Lr.go (out11 ++ [(⟨x112.kind, x112.n, [] ++ (x112.signs)⟩ : DPart)]))
noncomputable def x_spec_l02Copy_f0 (o : List DPart) (k10 : Nat) (s113 : List DPart) : Option (Lr (List DPart) (List DPart)) := x_spec_l02Copy_b0 o k10 (el o k10) s113
noncomputable def x_spec_l02Copy (o : List DPart) : Option (List DPart) :=
  Option.bind (eachN (x_spec_l02Copy_f0 o) (fun (s113 : List DPart) => (s113 : List DPart)) o.length 0 []) fun (y114 : List DPart) => some y114
theorem ct_spec_l02Copy (w : World) (X S : Bs) (o : List DPart) (s_o : Sv) (hS : ∀ b, S b → b < w.heap.size ∧ ¬ X b) (a_o_0 : (cSl 3 fDPart o).rd S w s_o.v) (oL : Sep [] X w) {r : List DPart} (hx : x_spec_l02Copy o = some r) :
    Ret Try.prog 99 [s_o.v] w (fun u w' => ∃ y : Sv, u = y.v ∧ Gives X S w [oC (cSl 3 fDPart r) y.v] [] w') := by
  unfold x_spec_l02Copy at hx
  refine enter Try.func99 rfl Try.ntmps99 (by kernel_rfl) rfl ?_
  have hM := St.enter oL hS
  have hM := hM.addE (r := rV s_o.v (cSl 3 fDPart o)) a_o_0
  refine wc_seq ?_
  refine wc_region ?_
  refine wv rfl (r_assign rfl) ?_
  refine wl_nil ?_
  refine sq_n ?_
  refine wc_seq ?_
  refine wc_region ?_
  refine w_ex rfl (x_empty (f := fDPart) Try.underlying29 sz77 (fun _ => rfl) hM ?_); intro s121 w120 hR122 hM
  refine wv rfl (r_assign rfl) ?_
  refine wl_nil ?_
  refine sq_n ?_
  refine wc_seq ?_
  refine wc_seq ?_
  refine wc_region ?_
  refine wv rfl (r_move rfl) ?_
  refine wv rfl (r_lenC Try.underlying29 rfl (hM.seeR (.head _))) ?_
  refine wv rfl (r_move rfl) ?_
  refine wl_nil ?_
  refine sq_n ?_
  refine wc_block ?_
  obtain ⟨y128, hx, hx129⟩ := bind_some' hx
  have hl136 := Cs.le (hM.seeR (.head _))
  refine wc_loop (un fun (m133 : Nat) => un fun (k134 : Nat) => un fun (out130 : List DPart) => fun (s132 : Sv) => [(3, s132.v), (7, s_o.v), (8, (.int .i64 (o.length : Int))), (9, (.int .i64 (k134 : Int)))]) (un fun (m133 : Nat) => un fun (k134 : Nat) => un fun (out130 : List DPart) => fun (s132 : Sv) w' => St ⟨w, X, S⟩ [oC (cSl 3 fDPart out130) s132.v] [rV s_o.v (cSl 3 fDPart o)] w' ∧ eachN _ _ m133 k134 out130 = some y128 ∧ k134 + m133 = o.length) (fun p => p.1) (o.length, 0, [], s121) ⟨rfl, rfl, rfl, rfl, trivial⟩ ⟨hM, hx, Nat.zero_add _⟩ ?_
  rintro ⟨m133, k134, out130, s132⟩ w137 ⟨hM, hx, hk135⟩
  refine wc_seq ?_
  refine wc_region ?_
  refine wv rfl (r_lss rfl rfl) ?_
  refine wl_nil ?_
  refine sq_n ?_
  refine wc_seq ?_
  refine wc_cond rfl (fun hc139 => ?_) (fun hc139 => ?_)
  · replace hc139 := of_decide_eq_true hc139
    obtain ⟨m140, z141, rfl, hk135, hx, hx142⟩ := eachN_step hx hk135 hc139
    unfold x_spec_l02Copy_f0 x_spec_l02Copy_b0 at hx
    try dsimp only at hx
    refine wc_skip ?_
    refine sq_n ?_
    refine wc_seq ?_
    refine wc_block ?_
    refine wc_seq ?_
    refine wc_region ?_
    have hi144 : k134 < o.length := by omega
    refine wv rfl (r_ixC Try.underlying29 sz77 rfl rfl (hM.seeR (.head _)) ⟨by omega, hc139⟩) ?_
    obtain ⟨s146, hM, hc147⟩ := hM.leaf (i := k134) (j := 2) (.head _) (fun _ => rfl) hi144 rfl
    refine wv rfl (r_ldC (o := k134 * 3) Try.underlying77 sz77 rfl (us := [(.int .i64 ((el o k134).kind)), (.int .i64 ((el o k134).n)), s146.v]) rfl (hM.seeR (.tail _ (.head _))) hi144 ⟨(Cs.get (i := k134) (j := 0) (hM.seeR (.tail _ (.head _))) (fun _ => rfl) hi144 rfl), (Cs.get (i := k134) (j := 1) (hM.seeR (.tail _ (.head _))) (fun _ => rfl) hi144 rfl), (hc147 _ (Rel.refl _)), trivial⟩) ?_
    refine w_ex rfl (x_alloc sz77 hM ?_); intro b149 w148 hR150 hM
    replace hM : St ⟨w, X, S⟩ [oBox b149 #[(.int .i64 0), (.int .i64 0), (.slice none 0 0)] 77, oC (cSl 3 fDPart out130) s132.v] [rV s146.v (cSl 1 fI ((el o k134).signs)), rV s_o.v (cSl 3 fDPart o)] _ := hM
    refine w_exu (x_stB #[(.int .i64 ((el o k134).kind)), (.int .i64 ((el o k134).n)), s146.v] sz77 rfl rfl rfl rfl rfl rfl hM ?_); intro w152 hM
    refine wl_nil ?_
    refine sq_n ?_
    refine wc_draw [(0, 0), (1, 0), (2, 0), (3, 0), (4, 0), (6, 0), (7, 0), (5, 1), (8, 1), (9, 0), (10, 2), (11, 2), (12, 0)] Try_mixed (by kernel_rfl) rfl (by kernel_rfl) rfl ?_
    refine ov rfl (fun w' h' => r_move rfl) ?_
    refine ov rfl (fun w' h' => r_fld Try.underlying77 rfl rfl sz3 rfl) ?_
    refine ov rfl (fun w' h' => r_ldB Try.underlying3 rfl rfl (hM.call h') (.head _) rfl) ?_
    refine ov rfl (fun w' h' => r_fld Try.underlying77 rfl rfl sz3 rfl) ?_
    refine ov rfl (fun w' h' => r_ldB Try.underlying3 rfl rfl (hM.call h') (.head _) rfl) ?_
    refine ov rfl (fun w' h' => r_fld Try.underlying77 rfl rfl sz26 rfl) ?_
    refine ov rfl (fun w' h' => r_ldB Try.underlying26 rfl rfl (hM.call h') (.head _) rfl) ?_
    refine o_ex1 rfl fun w164 h165 => ?_
    have hM := hM.call h165
    refine x_empty0 (f := fI) Try.underlying26 sz3 (fun _ => rfl) hM ?_; intro b162 w161 hR163 hM
    refine ⟨hR163, ?_⟩
    replace hM : St ⟨w, X, S⟩ [oC (cSl 1 fI ([] : List Int)) (⟨some ⟨b162, 0, none⟩, 0, 0⟩ : Sv).v, oBox b149 #[(.int .i64 ((el o k134).kind)), (.int .i64 ((el o k134).n)), s146.v] 77, oC (cSl 3 fDPart out130) s132.v] [rV s146.v (cSl 1 fI ((el o k134).signs)), rV s_o.v (cSl 3 fDPart o)] _ := hM
    obtain ⟨hg169, hx⟩ := xg_some hx
    refine o_ex1 rfl fun w171 h172 => ?_
    have hM := hM.call h172
    refine x_append0 (f := fI) Try.underlying26 sz3 rfl rfl (hM.seeR (.head _)) flI hM hg169 rfl ?_; intro s168 w167 hR170 hM
    refine ⟨hR170, ?_⟩
    refine ov rfl (fun w' h' => r_build (cells := #[(.int .i64 ((el o k134).kind)), (.int .i64 ((el o k134).n)), s168.v]) rfl (by kernel_rfl)) ?_
    refine o_ex rfl fun w177 h178 => ?_
    have hM := hM.call h178
    refine x_lit (f := fDPart) (own := [oC (cSl 1 fI ([] ++ ((el o k134).signs))) s168.v]) [(⟨(el o k134).kind, (el o k134).n, [] ++ ((el o k134).signs)⟩ : DPart)] [(.int .i64 ((el o k134).kind)), (.int .i64 ((el o k134).n)), s168.v] 1 Try.underlying29 sz77 (fun _ => rfl) rfl rfl rfl rfl rfl (by kernel_rfl) (fun _ => zP (pV _ rfl) (zP (pV _ rfl) (zO zN))) hM ?_; intro s175 w174 hR176 hM
    replace hM := hM.p2
    obtain ⟨hg182, hx⟩ := xg_some hx
    refine o_ex rfl fun w184 h185 => ?_
    have hM := hM.call h185
    refine x_appendO Try.underlying29 sz77 rfl rfl hM hg182 rfl ?_; intro s181 w180 hM
    refine ov rfl (fun w' h' => r_assign rfl) ?_
    refine o_nil fun w187 hw188 => ?_
    have hM := hM.call hw188
    refine bk_n ?_
    refine sq_n ?_
    refine wc_region ?_
    refine wv rfl (r_add rfl rfl ⟨by omega, by omega⟩) ?_
    refine wv rfl (r_move rfl) ?_
    refine wl_nil ?_
    obtain rfl := Option.some.inj hx
    replace hM := hM.t1
    have hM := hM.fewer (rsC (.tail _ (.head _)) rsN)
    replace hM : St ⟨w, X, S⟩ [oC (cSl 3 fDPart (out130 ++ [(⟨(el o k134).kind, (el o k134).n, [] ++ ((el o k134).signs)⟩ : DPart)])) s181.v] [rV s_o.v (cSl 3 fDPart o)] _ := hM
    exact lp_end (m140, k134 + 1, out130 ++ [(⟨(el o k134).kind, (el o k134).n, [] ++ ((el o k134).signs)⟩ : DPart)], s181) (Nat.lt_succ_self _) ⟨rfl, rfl, rfl, rfl, trivial⟩ ⟨hM, hx142, hk135⟩
  · replace hc139 := of_decide_eq_false hc139
    obtain rfl := eachN_end hx hk135 hc139
    refine wc_exit ?_
    refine sq_exit ?_
    refine lp1_exit ?_
    replace hx := hx129
    try dsimp only [Sum.elim_inl, Sum.elim_inr] at hx
    refine bk_here ?_
    refine sq_n ?_
    refine wc_seq ?_
    refine wc_region ?_
    refine wv rfl (r_move rfl) ?_
    refine wv rfl (r_assign rfl) ?_
    refine wl_nil ?_
    refine sq_n ?_
    refine wc_ret ?_
    obtain rfl := Option.some.inj hx
    refine fin_ret [s132.v] ⟨rfl, trivial⟩ ?_
    replace hM := hM.t1
    have hM := hM.fewer rsN
    exact ⟨s132, rfl, hM.gives⟩

noncomputable def x_spec_l24List_b0 (_l : List (List DPart)) (_k10 : Nat) (x56 : List DPart) (out11 : List (List DPart)) : Option (Lr (List (List DPart)) (List (List DPart))) :=
  Option.bind (x_spec_l02Copy x56) fun r44 => xg (out11.length < 1099511627776) <| some (Lr.go (out11 ++ [r44]))
noncomputable def x_spec_l24List_f0 (l : List (List DPart)) (k10 : Nat) (s57 : List (List DPart)) : Option (Lr (List (List DPart)) (List (List DPart))) := x_spec_l24List_b0 l k10 (el l k10) s57
noncomputable def x_spec_l24List (l : List (List DPart)) : Option (List (List DPart)) :=
  Option.bind (eachN (x_spec_l24List_f0 l) (fun (s57 : List (List DPart)) => (s57 : List (List DPart))) l.length 0 []) fun (y58 : List (List DPart)) => some y58
theorem ct_spec_l24List (w : World) (X S : Bs) (l : List (List DPart)) (s_l : Sv) (hS : ∀ b, S b → b < w.heap.size ∧ ¬ X b) (a_l_0 : (cSl 1 fLDPart l).rd S w s_l.v) (oL : Sep [] X w) {r : List (List DPart)} (hx : x_spec_l24List l = some r) :
    Ret Try.prog 119 [s_l.v] w (fun u w' => ∃ y : Sv, u = y.v ∧ Gives X S w [oC (cSl 1 fLDPart r) y.v] [] w') := by
  unfold x_spec_l24List at hx
  refine enter Try.func119 rfl Try.ntmps119 (by kernel_rfl) rfl ?_
  have hM := St.enter oL hS
  have hM := hM.addE (r := rV s_l.v (cSl 1 fLDPart l)) a_l_0
  refine wc_seq ?_
  refine wc_region ?_
  refine wv rfl (r_assign rfl) ?_
  refine wl_nil ?_
  refine sq_n ?_
  refine wc_seq ?_
  refine wc_region ?_
  refine w_ex rfl (x_empty (f := fLDPart) Try.underlying23 sz29 (fun _ => rfl) hM ?_); intro s65 w64 hR66 hM
  refine wv rfl (r_assign rfl) ?_
  refine wl_nil ?_
  refine sq_n ?_
  refine wc_seq ?_
  refine wc_seq ?_
  refine wc_region ?_
  refine wv rfl (r_move rfl) ?_
  refine wv rfl (r_lenC Try.underlying23 rfl (hM.seeR (.head _))) ?_
  refine wv rfl (r_move rfl) ?_
  refine wl_nil ?_
  refine sq_n ?_
  refine wc_block ?_
  obtain ⟨y72, hx, hx73⟩ := bind_some' hx
  have hl80 := Cs.le (hM.seeR (.head _))
  refine wc_loop (un fun (m77 : Nat) => un fun (k78 : Nat) => un fun (out74 : List (List DPart)) => fun (s76 : Sv) => [(3, s76.v), (7, s_l.v), (8, (.int .i64 (l.length : Int))), (9, (.int .i64 (k78 : Int)))]) (un fun (m77 : Nat) => un fun (k78 : Nat) => un fun (out74 : List (List DPart)) => fun (s76 : Sv) w' => St ⟨w, X, S⟩ [oC (cSl 1 fLDPart out74) s76.v] [rV s_l.v (cSl 1 fLDPart l)] w' ∧ eachN _ _ m77 k78 out74 = some y72 ∧ k78 + m77 = l.length) (fun p => p.1) (l.length, 0, [], s65) ⟨rfl, rfl, rfl, rfl, trivial⟩ ⟨hM, hx, Nat.zero_add _⟩ ?_
  rintro ⟨m77, k78, out74, s76⟩ w81 ⟨hM, hx, hk79⟩
  refine wc_seq ?_
  refine wc_region ?_
  refine wv rfl (r_lss rfl rfl) ?_
  refine wl_nil ?_
  refine sq_n ?_
  refine wc_seq ?_
  refine wc_cond rfl (fun hc83 => ?_) (fun hc83 => ?_)
  · replace hc83 := of_decide_eq_true hc83
    obtain ⟨m84, z85, rfl, hk79, hx, hx86⟩ := eachN_step hx hk79 hc83
    unfold x_spec_l24List_f0 x_spec_l24List_b0 at hx
    try dsimp only at hx
    refine wc_skip ?_
    refine sq_n ?_
    refine wc_seq ?_
    refine wc_block ?_
    refine wc_seq ?_
    refine wc_region ?_
    have hi88 : k78 < l.length := by omega
    refine wv rfl (r_ixC Try.underlying23 sz29 rfl rfl (hM.seeR (.head _)) ⟨by omega, hc83⟩) ?_
    obtain ⟨s90, hM, hc91⟩ := hM.leaf (i := k78) (j := 0) (.head _) (fun _ => rfl) hi88 rfl
    refine wv rfl (r_ld Try.underlying29 rfl rfl (hc91 _ (Rel.refl _))) ?_
    refine wv rfl (r_assign rfl) ?_
    refine wl_nil ?_
    refine sq_n ?_
    refine wc_region ?_
    refine wv rfl (r_move rfl) ?_
    refine wv rfl (r_move rfl) ?_
    obtain ⟨r95, h96, hx⟩ := bind_some' hx
    refine w_call rfl rfl (hM.callO (l := []) fun X S oL hS hR hO => ct_spec_l02Copy _ X S (el l k78) s90 hS (hR _ (.head _)) oL h96) ?_
    rintro _ w97 ⟨s98, rfl, hM⟩
    replace hM : St ⟨w, X, S⟩ [oC (cSl 3 fDPart r95) s98.v, oC (cSl 1 fLDPart out74) s76.v] [rV s90.v (cSl 3 fDPart (el l k78)), rV s_l.v (cSl 1 fLDPart l)] _ := hM
    replace hM := hM.p1
    obtain ⟨hg103, hx⟩ := xg_some hx
    refine w_push (f := fLDPart) r95 rfl rfl Try.underlying23 sz29 rfl rfl rfl rfl (fun _ => rfl) hM (fun _ => zO zN) rfl hg103 rfl ?_; intro u101 s102 w100 hM
    refine wv rfl (r_assign rfl) ?_
    refine wl_nil ?_
    refine bk_n ?_
    refine sq_n ?_
    refine wc_region ?_
    refine wv rfl (r_add rfl rfl ⟨by omega, by omega⟩) ?_
    refine wv rfl (r_move rfl) ?_
    refine wl_nil ?_
    obtain rfl := Option.some.inj hx
    have hM := hM.fewer (rsC (.tail _ (.head _)) rsN)
    replace hM : St ⟨w, X, S⟩ [oC (cSl 1 fLDPart (out74 ++ [r95])) s102.v] [rV s_l.v (cSl 1 fLDPart l)] _ := hM
    exact lp_end (m84, k78 + 1, out74 ++ [r95], s102) (Nat.lt_succ_self _) ⟨rfl, rfl, rfl, rfl, trivial⟩ ⟨hM, hx86, hk79⟩
  · replace hc83 := of_decide_eq_false hc83
    obtain rfl := eachN_end hx hk79 hc83
    refine wc_exit ?_
    refine sq_exit ?_
    refine lp1_exit ?_
    replace hx := hx73
    try dsimp only [Sum.elim_inl, Sum.elim_inr] at hx
    refine bk_here ?_
    refine sq_n ?_
    refine wc_seq ?_
    refine wc_region ?_
    refine wv rfl (r_move rfl) ?_
    refine wv rfl (r_assign rfl) ?_
    refine wl_nil ?_
    refine sq_n ?_
    refine wc_ret ?_
    obtain rfl := Option.some.inj hx
    refine fin_ret [s76.v] ⟨rfl, trivial⟩ ?_
    replace hM := hM.t1
    have hM := hM.fewer rsN
    exact ⟨s76, rfl, hM.gives⟩

noncomputable def x_spec_l24Add (l : List (List DPart)) (o : List DPart) : Option (List (List DPart)) :=
  Option.bind (x_spec_l24List l) fun r3 => Option.bind (x_spec_l02Copy o) fun r9 => xg (r3.length < 1099511627776) <| bif decide ((8 : Int) < ((r3 ++ [r9]).length : Int)) then (xg (0 ≤ (1 : Int) ∧ (1 : Int) ≤ ((r3 ++ [r9]).length : Int)) <| some (((r3 ++ [r9]).take ((r3 ++ [r9]).length)).drop 1)) else (some (r3 ++ [r9]))
theorem ct_spec_l24Add (w : World) (X S : Bs) (l : List (List DPart)) (s_l : Sv) (o : List DPart) (s_o : Sv) (hS : ∀ b, S b → b < w.heap.size ∧ ¬ X b) (a_l_0 : (cSl 1 fLDPart l).rd S w s_l.v) (a_o_0 : (cSl 3 fDPart o).rd S w s_o.v) (oL : Sep [] X w) {r : List (List DPart)} (hx : x_spec_l24Add l o = some r) :
    Ret Try.prog 120 [s_l.v, s_o.v] w (fun u w' => ∃ y : Sv, u = y.v ∧ Gives X S w [oC (cSl 1 fLDPart r) y.v] [] w') := by
  unfold x_spec_l24Add at hx
  refine enter Try.func120 rfl Try.ntmps120 (by kernel_rfl) rfl ?_
  have hM := St.enter oL hS
  have hM := hM.addE (r := rV s_l.v (cSl 1 fLDPart l)) a_l_0
  have hM := hM.addE (r := rV s_o.v (cSl 3 fDPart o)) a_o_0
  refine wc_seq ?_
  refine wc_region ?_
  refine wv rfl (r_assign rfl) ?_
  refine wl_nil ?_
  refine sq_n ?_
  refine wc_seq ?_
  refine wc_region ?_
  refine wv rfl (r_move rfl) ?_
  obtain ⟨r30, h31, hx⟩ := bind_some' hx
  refine w_call rfl rfl (hM.callO (l := []) fun X S oL hS hR hO => ct_spec_l24List _ X S l s_l hS (hR _ (.tail _ (.head _))) oL h31) ?_
  rintro _ w32 ⟨s33, rfl, hM⟩
  replace hM : St ⟨w, X, S⟩ [oC (cSl 1 fLDPart r30) s33.v] [rV s_o.v (cSl 3 fDPart o), rV s_l.v (cSl 1 fLDPart l)] _ := hM
  refine wv rfl (r_move rfl) ?_
  obtain ⟨r36, h37, hx⟩ := bind_some' hx
  refine w_call rfl rfl (hM.callO (l := []) fun X S oL hS hR hO => ct_spec_l02Copy _ X S o s_o hS (hR _ (.head _)) oL h37) ?_
  rintro _ w38 ⟨s39, rfl, hM⟩
  replace hM : St ⟨w, X, S⟩ [oC (cSl 3 fDPart r36) s39.v, oC (cSl 1 fLDPart r30) s33.v] [rV s_o.v (cSl 3 fDPart o), rV s_l.v (cSl 1 fLDPart l)] _ := hM
  replace hM := hM.p1
  obtain ⟨hg44, hx⟩ := xg_some hx
  refine w_push (f := fLDPart) r36 rfl rfl Try.underlying23 sz29 rfl rfl rfl rfl (fun _ => rfl) hM (fun _ => zO zN) rfl hg44 rfl ?_; intro u42 s43 w41 hM
  refine wv rfl (r_assign rfl) ?_
  refine wl_nil ?_
  refine sq_n ?_
  refine wc_seq ?_
  refine wc_seq ?_
  refine wc_region ?_
  refine wv rfl (r_move rfl) ?_
  refine wv rfl (r_lenC Try.underlying23 rfl (hM.seeO (.head _))) ?_
  refine wv rfl (r_gtr rfl rfl) ?_
  refine wl_nil ?_
  refine sq_n ?_
  refine wc_cond rfl (fun hc49 => ?_) (fun hc49 => ?_)
  · replace hx := xif_t hc49 hx
    refine wc_seq ?_
    refine wc_region ?_
    refine wv rfl (r_move rfl) ?_
    obtain ⟨hg52, hx⟩ := xg_some hx
    refine wv rfl (r_slc_lo Try.underlying23 sz29 rfl rfl (hM.seeO (.head _)) hg52) ?_
    have hM := hM.cutO (L := (r30 ++ [r36])) (f := fLDPart) (lo := 1) (hi := ((r30 ++ [r36]).length)) (fun _ => rfl) (by omega) (by omega)
    refine wv rfl (r_assign rfl) ?_
    refine wl_nil ?_
    refine sq_n ?_
    refine wc_ret ?_
    refine sq_ret ?_
    obtain rfl := Option.some.inj hx
    refine fin_ret [(s43.cut 1 1 ((r30 ++ [r36]).length)).v] ⟨rfl, trivial⟩ ?_
    replace hM := hM.t1
    have hM := hM.fewer rsN
    exact ⟨(s43.cut 1 1 ((r30 ++ [r36]).length)), rfl, hM.gives⟩
  · replace hx := xif_f hc49 hx
    refine wc_skip ?_
    refine sq_n ?_
    refine wc_seq ?_
    refine wc_region ?_
    refine wv rfl (r_move rfl) ?_
    refine wv rfl (r_assign rfl) ?_
    refine wl_nil ?_
    refine sq_n ?_
    refine wc_ret ?_
    obtain rfl := Option.some.inj hx
    refine fin_ret [s43.v] ⟨rfl, trivial⟩ ?_
    replace hM := hM.t1
    have hM := hM.fewer rsN
    exact ⟨s43, rfl, hM.gives⟩

noncomputable def x_spec_PastDo (p : DStory) (o : List DPart) (t : List Int) : Option (DStory × Bool) :=
  Option.bind (x_spec_Invert o t) fun r12 => Option.bind (x_spec_PastOk p) fun r23 => Option.bind (bif !r23 then (some true) else (some (!decide ((t.length : Int) = p.n)))) fun c29 => Option.bind (bif c29 then (some true) else (some (!r12.2))) fun c42 => bif c42 then (some ((⟨0, [], []⟩ : DStory), false)) else (Option.bind (x_spec_OpTo o) fun r53 => Option.bind (x_spec_l24Add p.undo r12.1) fun r59 => some ((⟨r53, r59, []⟩ : DStory), true))
theorem ct_spec_PastDo (w : World) (X S : Bs) (p : DStory) (s_p_1 : Sv) (s_p_2 : Sv) (o : List DPart) (s_o : Sv) (t : List Int) (s_t : Sv) (hS : ∀ b, S b → b < w.heap.size ∧ ¬ X b) (a_p_1 : (cSl 1 fLDPart p.undo).rd S w s_p_1.v) (a_p_2 : (cSl 1 fLDPart p.redo).rd S w s_p_2.v) (a_o_0 : (cSl 3 fDPart o).rd S w s_o.v) (a_t_0 : (cSl 1 fI t).rd S w s_t.v) (oL : Sep [] X w) {r : DStory × Bool} (hx : x_spec_PastDo p o t = some r) :
    Ret Try.prog 84 [(.agg #[(.int .i64 p.n), s_p_1.v, s_p_2.v]), s_o.v, s_t.v] w (fun u w' => ∃ y : Sv × Sv, u = .tuple #[.agg #[(.int .i64 r.1.n), y.1.v, y.2.v], (.bool r.2)] ∧ Gives X S w [oC (cSl 1 fLDPart r.1.undo) y.1.v, oC (cSl 1 fLDPart r.1.redo) y.2.v] [] w') := by
  unfold x_spec_PastDo at hx
  refine enter Try.func84 rfl Try.ntmps84 (by kernel_rfl) rfl ?_
  have hM := St.enter oL hS
  have hM := hM.addE (r := rV s_p_1.v (cSl 1 fLDPart p.undo)) a_p_1
  have hM := hM.addE (r := rV s_p_2.v (cSl 1 fLDPart p.redo)) a_p_2
  have hM := hM.addE (r := rV s_o.v (cSl 3 fDPart o)) a_o_0
  have hM := hM.addE (r := rV s_t.v (cSl 1 fI t)) a_t_0
  refine wc_seq ?_
  refine wc_region ?_
  refine w_ex rfl (x_box rfl hM ?_); intro b75 w74 hR76 hM
  replace hM : St ⟨w, X, S⟩ [oBox b75 #[(.int .i64 p.n), s_p_1.v, s_p_2.v] 25] [rV s_t.v (cSl 1 fI t), rV s_o.v (cSl 3 fDPart o), rV s_p_2.v (cSl 1 fLDPart p.redo), rV s_p_1.v (cSl 1 fLDPart p.undo)] _ := hM
  refine w_ex rfl (x_alloc sz25 hM ?_); intro b79 w78 hR80 hM
  replace hM : St ⟨w, X, S⟩ [oBox b79 #[(.int .i64 0), (.slice none 0 0), (.slice none 0 0)] 25, oBox b75 #[(.int .i64 p.n), s_p_1.v, s_p_2.v] 25] [rV s_t.v (cSl 1 fI t), rV s_o.v (cSl 3 fDPart o), rV s_p_2.v (cSl 1 fLDPart p.redo), rV s_p_1.v (cSl 1 fLDPart p.undo)] _ := hM
  refine wv rfl (r_assign rfl) ?_
  refine wl_nil ?_
  refine sq_n ?_
  refine wc_seq ?_
  refine wc_region ?_
  refine wv rfl (r_move rfl) ?_
  refine wv rfl (r_move rfl) ?_
  obtain ⟨r85, h86, hx⟩ := bind_some' hx
  refine w_call rfl rfl (hM.callO (l := []) fun X S oL hS hR hO => ct_spec_Invert _ X S o s_o t s_t hS (hR _ (.tail _ (.head _))) (hR _ (.head _)) oL h86) ?_
  rintro _ w87 ⟨s88, rfl, hM⟩
  replace hM : St ⟨w, X, S⟩ [oC (cSl 3 fDPart r85.1) s88.v, oBox b79 #[(.int .i64 0), (.slice none 0 0), (.slice none 0 0)] 25, oBox b75 #[(.int .i64 p.n), s_p_1.v, s_p_2.v] 25] [rV s_t.v (cSl 1 fI t), rV s_o.v (cSl 3 fDPart o), rV s_p_2.v (cSl 1 fLDPart p.redo), rV s_p_1.v (cSl 1 fLDPart p.undo)] _ := hM
  refine wv rfl (r_move rfl) ?_
  refine wv rfl (r_extract rfl rfl) ?_
  refine wv rfl (r_extract rfl rfl) ?_
  refine wv rfl (r_assign rfl) ?_
  refine wv rfl (r_assign rfl) ?_
  refine wl_nil ?_
  refine sq_n ?_
  refine wc_seq ?_
  refine wc_seq ?_
  refine wc_region ?_
  refine wv rfl (r_ldBS Try.underlying25 sz25 rfl (us := [(.int .i64 p.n), s_p_1.v, s_p_2.v]) rfl hM (.tail _ (.tail _ (.head _))) rfl) ?_
  obtain ⟨r96, h97, hx⟩ := bind_some' hx
  refine w_call rfl rfl (hM.callV fun X S oL hS hR hO => ct_spec_PastOk _ X S p s_p_1 s_p_2 hS (hR _ (.tail _ (.tail _ (.tail _ (.head _))))) (hR _ (.tail _ (.tail _ (.head _)))) oL h97) ?_
  rintro _ w98 ⟨rfl, hR99⟩
  have hM := hM.call hR99
  refine wv rfl (r_not rfl) ?_
  refine wv rfl (r_move rfl) ?_
  obtain ⟨c102, hx, hx109⟩ := bind_some' hx
  refine wl_mid 6 (fun _ : Unit => [(25, (.bool c102)), (1, s_o.v), (3, (.pointer (some ⟨b75, 0, none⟩))), (6, (.pointer (some ⟨b79, 0, none⟩))), (8, s88.v), (9, (.bool r85.2))]) (fun _ w' => St ⟨w, X, S⟩ [oC (cSl 3 fDPart r85.1) s88.v, oBox b79 #[(.int .i64 0), (.slice none 0 0), (.slice none 0 0)] 25, oBox b75 #[(.int .i64 p.n), s_p_1.v, s_p_2.v] 25] [rV s_t.v (cSl 1 fI t), rV s_o.v (cSl 3 fDPart o), rV s_p_2.v (cSl 1 fLDPart p.redo), rV s_p_1.v (cSl 1 fLDPart p.undo)] w') ?_ ?_
  · rcases Bool.eq_false_or_eq_true (!r96) with hg103 | hg103
    · replace hx := xif_t hg103 hx
      refine gs rfl (isB_no hg103) rfl ?_
      refine gs rfl (isB_no hg103) rfl ?_
      refine gs rfl (isB_no hg103) rfl ?_
      refine gs rfl (isB_no hg103) rfl ?_
      refine gs rfl (isB_no hg103) rfl ?_
      refine wv rfl (p_t rfl hg103 rfl) ?_
      obtain rfl := Option.some.inj hx
      exact mid_nil () ⟨rfl, rfl, rfl, rfl, rfl, rfl, trivial⟩ hM
    · replace hx := xif_f hg103 hx
      refine gv rfl hg103 rfl (r_move rfl) ?_
      refine gv rfl hg103 rfl (r_lenC Try.underlying26 rfl (hM.seeR (.head _))) ?_
      refine gv rfl hg103 rfl (r_fld Try.underlying25 rfl rfl sz3 rfl) ?_
      refine gv rfl hg103 rfl (r_ldB Try.underlying3 rfl rfl hM (.tail _ (.tail _ (.head _))) rfl) ?_
      refine gv rfl hg103 rfl (r_neq rfl rfl) ?_
      refine wv rfl (p_f rfl hg103 rfl) ?_
      obtain rfl := Option.some.inj hx
      exact mid_nil () ⟨rfl, rfl, rfl, rfl, rfl, rfl, trivial⟩ hM
  rintro _ w115 hM
  replace hx := hx109
  refine wv rfl (r_move rfl) ?_
  obtain ⟨c117, hx, hx121⟩ := bind_some' hx
  refine wl_mid 3 (fun _ : Unit => [(29, (.bool c117)), (1, s_o.v), (3, (.pointer (some ⟨b75, 0, none⟩))), (6, (.pointer (some ⟨b79, 0, none⟩))), (8, s88.v)]) (fun _ w' => St ⟨w, X, S⟩ [oC (cSl 3 fDPart r85.1) s88.v, oBox b79 #[(.int .i64 0), (.slice none 0 0), (.slice none 0 0)] 25, oBox b75 #[(.int .i64 p.n), s_p_1.v, s_p_2.v] 25] [rV s_t.v (cSl 1 fI t), rV s_o.v (cSl 3 fDPart o), rV s_p_2.v (cSl 1 fLDPart p.redo), rV s_p_1.v (cSl 1 fLDPart p.undo)] w') ?_ ?_
  · rcases Bool.eq_false_or_eq_true c102 with hg118 | hg118
    · replace hx := xif_t hg118 hx
      refine gs rfl (isB_no hg118) rfl ?_
      refine gs rfl (isB_no hg118) rfl ?_
      refine wv rfl (p_t rfl hg118 rfl) ?_
      obtain rfl := Option.some.inj hx
      exact mid_nil () ⟨rfl, rfl, rfl, rfl, rfl, trivial⟩ hM
    · replace hx := xif_f hg118 hx
      refine gv rfl hg118 rfl (r_move rfl) ?_
      refine gv rfl hg118 rfl (r_not rfl) ?_
      refine wv rfl (p_f rfl hg118 rfl) ?_
      obtain rfl := Option.some.inj hx
      exact mid_nil () ⟨rfl, rfl, rfl, rfl, rfl, trivial⟩ hM
  rintro _ w124 hM
  replace hx := hx121
  refine wl_nil ?_
  refine sq_n ?_
  refine wc_cond rfl (fun hc125 => ?_) (fun hc125 => ?_)
  · replace hx := xif_t hc125 hx
    refine wc_seq ?_
    refine wc_region ?_
    refine wv rfl (r_build (cells := #[(.int .i64 0), (.slice none 0 0), (.slice none 0 0)]) rfl (by kernel_rfl)) ?_
    replace hM := hM.p1
    refine w_exu (x_stB #[(.int .i64 0), (.slice none 0 0), (.slice none 0 0)] sz25 rfl rfl rfl rfl rfl rfl hM ?_); intro w127 hM
    refine wv rfl (r_assign rfl) ?_
    refine wl_nil ?_
    refine sq_n ?_
    refine wc_ret ?_
    refine sq_ret ?_
    obtain rfl := Option.some.inj hx
    have hM := hM.nil0 (T := List DPart) 1 fLDPart
    have hM := hM.nil0 (T := List DPart) 1 fLDPart
    refine fin_ret [(.agg #[(.int .i64 0), nS.v, nS.v]), (.bool false)] ⟨rv_box Try.underlying25 sz25 rfl rfl hM (.tail _ (.tail _ (.head _))), rfl, trivial⟩ ?_
    replace hM := hM.p1
    replace hM := hM.t2
    have hM := hM.fewer rsN
    exact ⟨(nS, nS), rfl, hM.gives⟩
  · replace hx := xif_f hc125 hx
    refine wc_skip ?_
    refine sq_n ?_
    refine wc_seq ?_
    refine wc_draw [(0, 0), (1, 0), (2, 0), (3, 0), (4, 0), (5, 2), (6, 0), (7, 2), (8, 0)] Try_mixed (by kernel_rfl) rfl (by kernel_rfl) rfl ?_
    refine ov rfl (fun w' h' => r_move rfl) ?_
    obtain ⟨r133, h134, hx⟩ := bind_some' hx
    refine oc rfl rfl (fun w' h' => (hM.call h').callV fun X S oL hS hR hO => ct_spec_OpTo _ X S o s_o hS (hR _ (.tail _ (.head _))) oL h134) ?_
    refine ov rfl (fun w' h' => r_fld Try.underlying25 rfl rfl sz23 rfl) ?_
    refine ov rfl (fun w' h' => r_ldB Try.underlying23 rfl rfl (hM.call h') (.tail _ (.tail _ (.head _))) rfl) ?_
    refine ov rfl (fun w' h' => r_move rfl) ?_
    obtain ⟨r139, h140, hx⟩ := bind_some' hx
    refine o_call rfl rfl (fun w' h' => (hM.call h').callO (l := []) fun X S oL hS hR hO => ct_spec_l24Add _ X S p.undo s_p_1 r85.1 s88 hS (hR _ (.tail _ (.tail _ (.tail _ (.head _))))) (seeA hO (.head _)) oL h140) ?_
    rintro w143 h144 _ w141 ⟨s142, rfl, hM⟩
    replace hM : St ⟨w, X, S⟩ [oC (cSl 1 fLDPart r139) s142.v, oC (cSl 3 fDPart r85.1) s88.v, oBox b79 #[(.int .i64 0), (.slice none 0 0), (.slice none 0 0)] 25, oBox b75 #[(.int .i64 p.n), s_p_1.v, s_p_2.v] 25] [rV s_t.v (cSl 1 fI t), rV s_o.v (cSl 3 fDPart o), rV s_p_2.v (cSl 1 fLDPart p.redo), rV s_p_1.v (cSl 1 fLDPart p.undo)] _ := hM
    refine ov rfl (fun w' h' => r_build (cells := #[(.int .i64 r133), s142.v, (.slice none 0 0)]) rfl (by kernel_rfl)) ?_
    replace hM := hM.p2
    refine o_exu fun w149 h150 => ?_
    have hM := hM.call h150
    refine x_stB #[(.int .i64 r133), s142.v, (.slice none 0 0)] sz25 rfl rfl rfl rfl rfl rfl hM ?_; intro w147 hM
    refine ov rfl (fun w' h' => r_assign rfl) ?_
    refine o_nil fun w152 hw153 => ?_
    have hM := hM.call hw153
    refine sq_n ?_
    refine wc_ret ?_
    obtain rfl := Option.some.inj hx
    have hM := hM.nil0 (T := List DPart) 1 fLDPart
    refine fin_ret [(.agg #[(.int .i64 r133), s142.v, nS.v]), (.bool true)] ⟨rv_box Try.underlying25 sz25 rfl rfl hM (.tail _ (.head _)), rfl, trivial⟩ ?_
    replace hM := hM.p2
    replace hM := hM.t2
    have hM := hM.fewer rsN
    exact ⟨(s142, nS), rfl, hM.gives⟩

noncomputable def x_spec_PastUndo (p : DStory) (t : List Int) : Option (DStory × List DPart × Bool) :=
  xg (inI ((p.undo.length : Int) - 1)) <| Option.bind (x_spec_PastOk p) fun r18 => Option.bind (bif !r18 then (some true) else (Option.bind (x_spec_TextOk t) fun r33 => some (!r33))) fun c24 => Option.bind (bif c24 then (some true) else (some (!decide ((t.length : Int) = p.n)))) fun c39 => Option.bind (bif c39 then (some true) else (some (decide (((p.undo.length : Int) - 1) < 0)))) fun c52 => bif c52 then (some ((⟨0, [], []⟩ : DStory), [], false)) else (xg (0 ≤ ((p.undo.length : Int) - 1) ∧ ((p.undo.length : Int) - 1) < (p.undo.length : Int)) <| Option.bind (x_spec_l02Copy (el p.undo (((p.undo.length : Int) - 1).toNat))) fun r72 => Option.bind (x_spec_Invert r72 t) fun r80 => Option.bind (x_spec_OpTo r72) fun r91 => xg (0 ≤ ((p.undo.length : Int) - 1) ∧ ((p.undo.length : Int) - 1) ≤ (p.undo.length : Int)) <| Option.bind (x_spec_l24List ((p.undo.take (((p.undo.length : Int) - 1).toNat)).drop 0)) fun r103 => Option.bind (x_spec_l24Add p.redo r80.1) fun r111 => some ((⟨r91, r103, r111⟩ : DStory), r72, true))
theorem ct_spec_PastUndo (w : World) (X S : Bs) (p : DStory) (s_p_1 : Sv) (s_p_2 : Sv) (t : List Int) (s_t : Sv) (hS : ∀ b, S b → b < w.heap.size ∧ ¬ X b) (a_p_1 : (cSl 1 fLDPart p.undo).rd S w s_p_1.v) (a_p_2 : (cSl 1 fLDPart p.redo).rd S w s_p_2.v) (a_t_0 : (cSl 1 fI t).rd S w s_t.v) (oL : Sep [] X w) {r : DStory × List DPart × Bool} (hx : x_spec_PastUndo p t = some r) :
    Ret Try.prog 81 [(.agg #[(.int .i64 p.n), s_p_1.v, s_p_2.v]), s_t.v] w (fun u w' => ∃ y : Sv × Sv × Sv, u = .tuple #[.agg #[(.int .i64 r.1.n), y.1.v, y.2.1.v], y.2.2.v, (.bool r.2.2)] ∧ Gives X S w [oC (cSl 1 fLDPart r.1.undo) y.1.v, oC (cSl 1 fLDPart r.1.redo) y.2.1.v, oC (cSl 3 fDPart r.2.1) y.2.2.v] [] w') := by
  unfold x_spec_PastUndo at hx
  refine enter Try.func81 rfl Try.ntmps81 (by kernel_rfl) rfl ?_
  have hM := St.enter oL hS
  have hM := hM.addE (r := rV s_p_1.v (cSl 1 fLDPart p.undo)) a_p_1
  have hM := hM.addE (r := rV s_p_2.v (cSl 1 fLDPart p.redo)) a_p_2
  have hM := hM.addE (r := rV s_t.v (cSl 1 fI t)) a_t_0
  refine wc_seq ?_
  refine wc_region ?_
  refine w_ex rfl (x_box rfl hM ?_); intro b128 w127 hR129 hM
  replace hM : St ⟨w, X, S⟩ [oBox b128 #[(.int .i64 p.n), s_p_1.v, s_p_2.v] 25] [rV s_t.v (cSl 1 fI t), rV s_p_2.v (cSl 1 fLDPart p.redo), rV s_p_1.v (cSl 1 fLDPart p.undo)] _ := hM
  refine w_ex rfl (x_alloc sz25 hM ?_); intro b132 w131 hR133 hM
  replace hM : St ⟨w, X, S⟩ [oBox b132 #[(.int .i64 0), (.slice none 0 0), (.slice none 0 0)] 25, oBox b128 #[(.int .i64 p.n), s_p_1.v, s_p_2.v] 25] [rV s_t.v (cSl 1 fI t), rV s_p_2.v (cSl 1 fLDPart p.redo), rV s_p_1.v (cSl 1 fLDPart p.undo)] _ := hM
  refine wv rfl (r_assign rfl) ?_
  refine wv rfl (r_assign rfl) ?_
  refine wl_nil ?_
  refine sq_n ?_
  refine wc_seq ?_
  refine wc_region ?_
  refine wv rfl (r_fld Try.underlying25 rfl rfl sz23 rfl) ?_
  refine wv rfl (r_ldB Try.underlying23 rfl rfl hM (.tail _ (.head _)) rfl) ?_
  refine wv rfl (r_lenC Try.underlying23 rfl (hM.seeR (.tail _ (.tail _ (.head _))))) ?_
  obtain ⟨hg141, hx⟩ := xg_some hx
  refine wv rfl (r_sub rfl rfl hg141) ?_
  refine wv rfl (r_assign rfl) ?_
  refine wl_nil ?_
  refine sq_n ?_
  refine wc_seq ?_
  refine wc_seq ?_
  refine wc_region ?_
  refine wv rfl (r_ldBS Try.underlying25 sz25 rfl (us := [(.int .i64 p.n), s_p_1.v, s_p_2.v]) rfl hM (.tail _ (.head _)) rfl) ?_
  obtain ⟨r144, h145, hx⟩ := bind_some' hx
  refine w_call rfl rfl (hM.callV fun X S oL hS hR hO => ct_spec_PastOk _ X S p s_p_1 s_p_2 hS (hR _ (.tail _ (.tail _ (.head _)))) (hR _ (.tail _ (.head _))) oL h145) ?_
  rintro _ w146 ⟨rfl, hR147⟩
  have hM := hM.call hR147
  refine wv rfl (r_not rfl) ?_
  refine wv rfl (r_move rfl) ?_
  obtain ⟨c150, hx, hx158⟩ := bind_some' hx
  refine wl_mid 4 (fun _ : Unit => [(22, (.bool c150)), (1, s_t.v), (2, (.pointer (some ⟨b128, 0, none⟩))), (4, (.pointer (some ⟨b132, 0, none⟩))), (7, (.int .i64 ((p.undo.length : Int) - 1)))]) (fun _ w' => St ⟨w, X, S⟩ [oBox b132 #[(.int .i64 0), (.slice none 0 0), (.slice none 0 0)] 25, oBox b128 #[(.int .i64 p.n), s_p_1.v, s_p_2.v] 25] [rV s_t.v (cSl 1 fI t), rV s_p_2.v (cSl 1 fLDPart p.redo), rV s_p_1.v (cSl 1 fLDPart p.undo)] w') ?_ ?_
  · rcases Bool.eq_false_or_eq_true (!r144) with hg151 | hg151
    · replace hx := xif_t hg151 hx
      refine gs rfl (isB_no hg151) rfl ?_
      refine gs rfl (isB_no hg151) rfl ?_
      refine gs rfl (isB_no hg151) rfl ?_
      refine wv rfl (p_t rfl hg151 rfl) ?_
      obtain rfl := Option.some.inj hx
      exact mid_nil () ⟨rfl, rfl, rfl, rfl, rfl, trivial⟩ hM
    · replace hx := xif_f hg151 hx
      refine gv rfl hg151 rfl (r_move rfl) ?_
      obtain ⟨r160, h161, hx⟩ := bind_some' hx
      refine gc rfl hg151 rfl rfl (hM.callV fun X S oL hS hR hO => ct_spec_TextOk _ X S t s_t hS (hR _ (.head _)) oL h161) ?_
      rintro _ w162 ⟨rfl, hR163⟩
      have hM := hM.call hR163
      refine gv rfl hg151 rfl (r_not rfl) ?_
      refine wv rfl (p_f rfl hg151 rfl) ?_
      obtain rfl := Option.some.inj hx
      exact mid_nil () ⟨rfl, rfl, rfl, rfl, rfl, trivial⟩ hM
  rintro _ w165 hM
  replace hx := hx158
  refine wv rfl (r_move rfl) ?_
  obtain ⟨c167, hx, hx174⟩ := bind_some' hx
  refine wl_mid 6 (fun _ : Unit => [(29, (.bool c167)), (1, s_t.v), (2, (.pointer (some ⟨b128, 0, none⟩))), (4, (.pointer (some ⟨b132, 0, none⟩))), (7, (.int .i64 ((p.undo.length : Int) - 1)))]) (fun _ w' => St ⟨w, X, S⟩ [oBox b132 #[(.int .i64 0), (.slice none 0 0), (.slice none 0 0)] 25, oBox b128 #[(.int .i64 p.n), s_p_1.v, s_p_2.v] 25] [rV s_t.v (cSl 1 fI t), rV s_p_2.v (cSl 1 fLDPart p.redo), rV s_p_1.v (cSl 1 fLDPart p.undo)] w') ?_ ?_
  · rcases Bool.eq_false_or_eq_true c150 with hg168 | hg168
    · replace hx := xif_t hg168 hx
      refine gs rfl (isB_no hg168) rfl ?_
      refine gs rfl (isB_no hg168) rfl ?_
      refine gs rfl (isB_no hg168) rfl ?_
      refine gs rfl (isB_no hg168) rfl ?_
      refine gs rfl (isB_no hg168) rfl ?_
      refine wv rfl (p_t rfl hg168 rfl) ?_
      obtain rfl := Option.some.inj hx
      exact mid_nil () ⟨rfl, rfl, rfl, rfl, rfl, trivial⟩ hM
    · replace hx := xif_f hg168 hx
      refine gv rfl hg168 rfl (r_move rfl) ?_
      refine gv rfl hg168 rfl (r_lenC Try.underlying26 rfl (hM.seeR (.head _))) ?_
      refine gv rfl hg168 rfl (r_fld Try.underlying25 rfl rfl sz3 rfl) ?_
      refine gv rfl hg168 rfl (r_ldB Try.underlying3 rfl rfl hM (.tail _ (.head _)) rfl) ?_
      refine gv rfl hg168 rfl (r_neq rfl rfl) ?_
      refine wv rfl (p_f rfl hg168 rfl) ?_
      obtain rfl := Option.some.inj hx
      exact mid_nil () ⟨rfl, rfl, rfl, rfl, rfl, trivial⟩ hM
  rintro _ w180 hM
  replace hx := hx174
  refine wv rfl (r_move rfl) ?_
  obtain ⟨c182, hx, hx186⟩ := bind_some' hx
  refine wl_mid 3 (fun _ : Unit => [(33, (.bool c182)), (1, s_t.v), (2, (.pointer (some ⟨b128, 0, none⟩))), (4, (.pointer (some ⟨b132, 0, none⟩))), (7, (.int .i64 ((p.undo.length : Int) - 1)))]) (fun _ w' => St ⟨w, X, S⟩ [oBox b132 #[(.int .i64 0), (.slice none 0 0), (.slice none 0 0)] 25, oBox b128 #[(.int .i64 p.n), s_p_1.v, s_p_2.v] 25] [rV s_t.v (cSl 1 fI t), rV s_p_2.v (cSl 1 fLDPart p.redo), rV s_p_1.v (cSl 1 fLDPart p.undo)] w') ?_ ?_
  · rcases Bool.eq_false_or_eq_true c167 with hg183 | hg183
    · replace hx := xif_t hg183 hx
      refine gs rfl (isB_no hg183) rfl ?_
      refine gs rfl (isB_no hg183) rfl ?_
      refine wv rfl (p_t rfl hg183 rfl) ?_
      obtain rfl := Option.some.inj hx
      exact mid_nil () ⟨rfl, rfl, rfl, rfl, rfl, trivial⟩ hM
    · replace hx := xif_f hg183 hx
      refine gv rfl hg183 rfl (r_move rfl) ?_
      refine gv rfl hg183 rfl (r_lss rfl rfl) ?_
      refine wv rfl (p_f rfl hg183 rfl) ?_
      obtain rfl := Option.some.inj hx
      exact mid_nil () ⟨rfl, rfl, rfl, rfl, rfl, trivial⟩ hM
  rintro _ w189 hM
  replace hx := hx186
  refine wl_nil ?_
  refine sq_n ?_
  refine wc_cond rfl (fun hc190 => ?_) (fun hc190 => ?_)
  · replace hx := xif_t hc190 hx
    refine wc_seq ?_
    refine wc_region ?_
    refine wv rfl (r_build (cells := #[(.int .i64 0), (.slice none 0 0), (.slice none 0 0)]) rfl (by kernel_rfl)) ?_
    refine w_exu (x_stB #[(.int .i64 0), (.slice none 0 0), (.slice none 0 0)] sz25 rfl rfl rfl rfl rfl rfl hM ?_); intro w192 hM
    refine wv rfl (r_assign rfl) ?_
    refine wv rfl (r_assign rfl) ?_
    refine wl_nil ?_
    refine sq_n ?_
    refine wc_ret ?_
    refine sq_ret ?_
    obtain rfl := Option.some.inj hx
    have hM := hM.nil0 (T := List DPart) 1 fLDPart
    have hM := hM.nil0 (T := List DPart) 1 fLDPart
    have hM := hM.nil0 (T := DPart) 3 fDPart
    refine fin_ret [(.agg #[(.int .i64 0), nS.v, nS.v]), nS.v, (.bool false)] ⟨rv_box Try.underlying25 sz25 rfl rfl hM (.tail _ (.tail _ (.tail _ (.head _)))), rfl, rfl, trivial⟩ ?_
    replace hM := hM.p1.p2
    replace hM := hM.t3
    have hM := hM.fewer rsN
    exact ⟨(nS, nS, nS), rfl, hM.gives⟩
  · replace hx := xif_f hc190 hx
    refine wc_skip ?_
    refine sq_n ?_
    refine wc_seq ?_
    refine wc_region ?_
    refine wv rfl (r_fld Try.underlying25 rfl rfl sz23 rfl) ?_
    refine wv rfl (r_ldB Try.underlying23 rfl rfl hM (.tail _ (.head _)) rfl) ?_
    refine wv rfl (r_move rfl) ?_
    obtain ⟨hg204, hx⟩ := xg_some hx
    have hi203 : (((p.undo.length : Int) - 1).toNat) < p.undo.length := by omega
    refine wv rfl (r_ixC Try.underlying23 sz29 rfl rfl (hM.seeR (.tail _ (.tail _ (.head _)))) hg204) ?_
    obtain ⟨s206, hM, hc207⟩ := hM.leaf (i := (((p.undo.length : Int) - 1).toNat)) (j := 0) (.tail _ (.tail _ (.head _))) (fun _ => rfl) hi203 rfl
    refine wv rfl (r_ld Try.underlying29 rfl rfl (hc207 _ (Rel.refl _))) ?_
    obtain ⟨r208, h209, hx⟩ := bind_some' hx
    refine w_call rfl rfl (hM.callO (l := []) fun X S oL hS hR hO => ct_spec_l02Copy _ X S (el p.undo (((p.undo.length : Int) - 1).toNat)) s206 hS (hR _ (.head _)) oL h209) ?_
    rintro _ w210 ⟨s211, rfl, hM⟩
    replace hM : St ⟨w, X, S⟩ [oC (cSl 3 fDPart r208) s211.v, oBox b132 #[(.int .i64 0), (.slice none 0 0), (.slice none 0 0)] 25, oBox b128 #[(.int .i64 p.n), s_p_1.v, s_p_2.v] 25] [rV s206.v (cSl 3 fDPart (el p.undo (((p.undo.length : Int) - 1).toNat))), rV s_t.v (cSl 1 fI t), rV s_p_2.v (cSl 1 fLDPart p.redo), rV s_p_1.v (cSl 1 fLDPart p.undo)] _ := hM
    refine wv rfl (r_assign rfl) ?_
    refine wl_nil ?_
    refine sq_n ?_
    refine wc_seq ?_
    refine wc_region ?_
    refine wv rfl (r_move rfl) ?_
    refine wv rfl (r_move rfl) ?_
    obtain ⟨r216, h217, hx⟩ := bind_some' hx
    refine w_call rfl rfl (hM.callO (l := []) fun X S oL hS hR hO => ct_spec_Invert _ X S r208 s211 t s_t hS (seeA hO (.head _)) (hR _ (.tail _ (.head _))) oL h217) ?_
    rintro _ w218 ⟨s219, rfl, hM⟩
    replace hM : St ⟨w, X, S⟩ [oC (cSl 3 fDPart r216.1) s219.v, oC (cSl 3 fDPart r208) s211.v, oBox b132 #[(.int .i64 0), (.slice none 0 0), (.slice none 0 0)] 25, oBox b128 #[(.int .i64 p.n), s_p_1.v, s_p_2.v] 25] [rV s206.v (cSl 3 fDPart (el p.undo (((p.undo.length : Int) - 1).toNat))), rV s_t.v (cSl 1 fI t), rV s_p_2.v (cSl 1 fLDPart p.redo), rV s_p_1.v (cSl 1 fLDPart p.undo)] _ := hM
    refine wv rfl (r_move rfl) ?_
    refine wv rfl (r_extract rfl rfl) ?_
    refine wv rfl (r_extract rfl rfl) ?_
    refine wv rfl (r_assign rfl) ?_
    refine wv rfl (r_assign rfl) ?_
    refine wl_nil ?_
    refine sq_n ?_
    refine wc_seq ?_
    refine wc_draw [(0, 0), (1, 0), (2, 0), (3, 0), (4, 0), (5, 0), (7, 0), (8, 0), (9, 0), (12, 0), (6, 1), (10, 2), (11, 0), (13, 2), (14, 0), (15, 0)] Try_mixed (by kernel_rfl) rfl (by kernel_rfl) rfl ?_
    refine ov rfl (fun w' h' => r_move rfl) ?_
    obtain ⟨r227, h228, hx⟩ := bind_some' hx
    refine oc rfl rfl (fun w' h' => (hM.call h').callV fun X S oL hS hR hO => ct_spec_OpTo _ X S r208 s211 hS (seeA hO (.tail _ (.head _))) oL h228) ?_
    refine ov rfl (fun w' h' => r_fld Try.underlying25 rfl rfl sz23 rfl) ?_
    refine ov rfl (fun w' h' => r_ldB Try.underlying23 rfl rfl (hM.call h') (.tail _ (.tail _ (.tail _ (.head _)))) rfl) ?_
    refine ov rfl (fun w' h' => r_move rfl) ?_
    obtain ⟨hg234, hx⟩ := xg_some hx
    have hM := hM.cutR (L := p.undo) (f := fLDPart) (lo := 0) (hi := (((p.undo.length : Int) - 1).toNat)) (fun _ => rfl) (by omega) (by omega) (.tail _ (.tail _ (.tail _ (.head _))))
    refine ov rfl (fun w' h' => r_slc_hi Try.underlying23 sz29 rfl rfl ((hM.call h').seeR (.tail _ (.tail _ (.tail _ (.tail _ (.head _)))))) hg234) ?_
    refine ov rfl (fun w' h' => r_fld Try.underlying25 rfl rfl sz23 rfl) ?_
    refine ov rfl (fun w' h' => r_ldB Try.underlying23 rfl rfl (hM.call h') (.tail _ (.tail _ (.tail _ (.head _)))) rfl) ?_
    refine ov rfl (fun w' h' => r_move rfl) ?_
    refine ov rfl (fun w' h' => r_move rfl) ?_
    obtain ⟨r239, h240, hx⟩ := bind_some' hx
    refine o_forced rfl rfl (fun w' h' => (hM.call h').callF fun X S oL hS hR hO => ct_spec_l24List _ X S ((p.undo.take (((p.undo.length : Int) - 1).toNat)).drop 0) (s_p_1.cut 1 0 (((p.undo.length : Int) - 1).toNat)) hS (hR _ (.head _)) oL h240) ?_
    rintro w243 h244 _ w241 ⟨hR245, s242, rfl, hM⟩
    refine ⟨hR245, ?_⟩
    replace hM : St ⟨w, X, S⟩ [oC (cSl 1 fLDPart r239) s242.v, oC (cSl 3 fDPart r216.1) s219.v, oC (cSl 3 fDPart r208) s211.v, oBox b132 #[(.int .i64 0), (.slice none 0 0), (.slice none 0 0)] 25, oBox b128 #[(.int .i64 p.n), s_p_1.v, s_p_2.v] 25] [rV (s_p_1.cut 1 0 (((p.undo.length : Int) - 1).toNat)).v (cSl 1 fLDPart ((p.undo.take (((p.undo.length : Int) - 1).toNat)).drop 0)), rV s206.v (cSl 3 fDPart (el p.undo (((p.undo.length : Int) - 1).toNat))), rV s_t.v (cSl 1 fI t), rV s_p_2.v (cSl 1 fLDPart p.redo), rV s_p_1.v (cSl 1 fLDPart p.undo)] _ := hM
    obtain ⟨r247, h248, hx⟩ := bind_some' hx
    refine o_call rfl rfl (fun w' h' => (hM.call h').callO (l := []) fun X S oL hS hR hO => ct_spec_l24Add _ X S p.redo s_p_2 r216.1 s219 hS (hR _ (.tail _ (.tail _ (.tail _ (.head _))))) (seeA hO (.tail _ (.head _))) oL h248) ?_
    rintro w251 h252 _ w249 ⟨s250, rfl, hM⟩
    replace hM : St ⟨w, X, S⟩ [oC (cSl 1 fLDPart r247) s250.v, oC (cSl 1 fLDPart r239) s242.v, oC (cSl 3 fDPart r216.1) s219.v, oC (cSl 3 fDPart r208) s211.v, oBox b132 #[(.int .i64 0), (.slice none 0 0), (.slice none 0 0)] 25, oBox b128 #[(.int .i64 p.n), s_p_1.v, s_p_2.v] 25] [rV (s_p_1.cut 1 0 (((p.undo.length : Int) - 1).toNat)).v (cSl 1 fLDPart ((p.undo.take (((p.undo.length : Int) - 1).toNat)).drop 0)), rV s206.v (cSl 3 fDPart (el p.undo (((p.undo.length : Int) - 1).toNat))), rV s_t.v (cSl 1 fI t), rV s_p_2.v (cSl 1 fLDPart p.redo), rV s_p_1.v (cSl 1 fLDPart p.undo)] _ := hM
    refine ov rfl (fun w' h' => r_build (cells := #[(.int .i64 r227), s242.v, s250.v]) rfl (by kernel_rfl)) ?_
    replace hM := hM.p4
    refine o_exu fun w257 h258 => ?_
    have hM := hM.call h258
    refine x_stB #[(.int .i64 r227), s242.v, s250.v] sz25 rfl rfl rfl rfl rfl rfl hM ?_; intro w255 hM
    refine ov rfl (fun w' h' => r_assign rfl) ?_
    refine ov rfl (fun w' h' => r_assign rfl) ?_
    refine o_nil fun w261 hw262 => ?_
    have hM := hM.call hw262
    refine sq_n ?_
    refine wc_ret ?_
    obtain rfl := Option.some.inj hx
    refine fin_ret [(.agg #[(.int .i64 r227), s242.v, s250.v]), s211.v, (.bool true)] ⟨rv_box Try.underlying25 sz25 rfl rfl hM (.head _), rfl, rfl, trivial⟩ ?_
    replace hM := hM.p4.p2.p3
    replace hM := hM.t3
    have hM := hM.fewer rsN
    exact ⟨(s242, s250, s211), rfl, hM.gives⟩

noncomputable def x_spec_PastRedo (p : DStory) (t : List Int) : Option (DStory × List DPart × Bool) :=
  Option.bind (x_spec_PastUndo (⟨p.n, p.redo, p.undo⟩ : DStory) t) fun r19 => some ((⟨r19.1.n, r19.1.redo, r19.1.undo⟩ : DStory), r19.2.1, r19.2.2)
theorem ct_spec_PastRedo (w : World) (X S : Bs) (p : DStory) (s_p_1 : Sv) (s_p_2 : Sv) (t : List Int) (s_t : Sv) (hS : ∀ b, S b → b < w.heap.size ∧ ¬ X b) (a_p_1 : (cSl 1 fLDPart p.undo).rd S w s_p_1.v) (a_p_2 : (cSl 1 fLDPart p.redo).rd S w s_p_2.v) (a_t_0 : (cSl 1 fI t).rd S w s_t.v) (oL : Sep [] X w) {r : DStory × List DPart × Bool} (hx : x_spec_PastRedo p t = some r) :
    Ret Try.prog 82 [(.agg #[(.int .i64 p.n), s_p_1.v, s_p_2.v]), s_t.v] w (fun u w' => ∃ y : Sv × Sv × Sv, u = .tuple #[.agg #[(.int .i64 r.1.n), y.1.v, y.2.1.v], y.2.2.v, (.bool r.2.2)] ∧ Gives X S w [oC (cSl 1 fLDPart r.1.undo) y.1.v, oC (cSl 1 fLDPart r.1.redo) y.2.1.v, oC (cSl 3 fDPart r.2.1) y.2.2.v] [] w') := by
  unfold x_spec_PastRedo at hx
  refine enter Try.func82 rfl Try.ntmps82 (by kernel_rfl) rfl ?_
  have hM := St.enter oL hS
  have hM := hM.addE (r := rV s_p_1.v (cSl 1 fLDPart p.undo)) a_p_1
  have hM := hM.addE (r := rV s_p_2.v (cSl 1 fLDPart p.redo)) a_p_2
  have hM := hM.addE (r := rV s_t.v (cSl 1 fI t)) a_t_0
  refine wc_seq ?_
  refine wc_region ?_
  refine w_ex rfl (x_box rfl hM ?_); intro b54 w53 hR55 hM
  replace hM : St ⟨w, X, S⟩ [oBox b54 #[(.int .i64 p.n), s_p_1.v, s_p_2.v] 25] [rV s_t.v (cSl 1 fI t), rV s_p_2.v (cSl 1 fLDPart p.redo), rV s_p_1.v (cSl 1 fLDPart p.undo)] _ := hM
  refine w_ex rfl (x_alloc sz25 hM ?_); intro b58 w57 hR59 hM
  replace hM : St ⟨w, X, S⟩ [oBox b58 #[(.int .i64 0), (.slice none 0 0), (.slice none 0 0)] 25, oBox b54 #[(.int .i64 p.n), s_p_1.v, s_p_2.v] 25] [rV s_t.v (cSl 1 fI t), rV s_p_2.v (cSl 1 fLDPart p.redo), rV s_p_1.v (cSl 1 fLDPart p.undo)] _ := hM
  refine wv rfl (r_assign rfl) ?_
  refine wv rfl (r_assign rfl) ?_
  refine wl_nil ?_
  refine sq_n ?_
  refine wc_seq ?_
  refine wc_region ?_
  refine wv rfl (r_fld Try.underlying25 rfl rfl sz3 rfl) ?_
  refine wv rfl (r_ldB Try.underlying3 rfl rfl hM (.tail _ (.head _)) rfl) ?_
  refine wv rfl (r_fld Try.underlying25 rfl rfl sz23 rfl) ?_
  refine wv rfl (r_ldB Try.underlying23 rfl rfl hM (.tail _ (.head _)) rfl) ?_
  refine wv rfl (r_fld Try.underlying25 rfl rfl sz23 rfl) ?_
  refine wv rfl (r_ldB Try.underlying23 rfl rfl hM (.tail _ (.head _)) rfl) ?_
  refine wv rfl (r_build (cells := #[(.int .i64 p.n), s_p_2.v, s_p_1.v]) rfl (by kernel_rfl)) ?_
  refine wv rfl (r_move rfl) ?_
  obtain ⟨r71, h72, hx⟩ := bind_some' hx
  refine w_call rfl rfl (hM.callO (l := []) fun X S oL hS hR hO => ct_spec_PastUndo _ X S (⟨p.n, p.redo, p.undo⟩ : DStory) s_p_2 s_p_1 t s_t hS (hR _ (.tail _ (.head _))) (hR _ (.tail _ (.tail _ (.head _)))) (hR _ (.head _)) oL h72) ?_
  rintro _ w73 ⟨⟨s74, s75, s76⟩, rfl, hM⟩
  replace hM : St ⟨w, X, S⟩ [oC (cSl 1 fLDPart r71.1.undo) s74.v, oC (cSl 1 fLDPart r71.1.redo) s75.v, oC (cSl 3 fDPart r71.2.1) s76.v, oBox b58 #[(.int .i64 0), (.slice none 0 0), (.slice none 0 0)] 25, oBox b54 #[(.int .i64 p.n), s_p_1.v, s_p_2.v] 25] [rV s_t.v (cSl 1 fI t), rV s_p_2.v (cSl 1 fLDPart p.redo), rV s_p_1.v (cSl 1 fLDPart p.undo)] _ := hM
  refine wv rfl (r_move rfl) ?_
  refine wv rfl (r_extract rfl rfl) ?_
  refine wv rfl (r_extract rfl rfl) ?_
  refine wv rfl (r_extract rfl rfl) ?_
  refine w_ex rfl (x_alloc sz25 hM ?_); intro b85 w84 hR86 hM
  replace hM : St ⟨w, X, S⟩ [oBox b85 #[(.int .i64 0), (.slice none 0 0), (.slice none 0 0)] 25, oC (cSl 1 fLDPart r71.1.undo) s74.v, oC (cSl 1 fLDPart r71.1.redo) s75.v, oC (cSl 3 fDPart r71.2.1) s76.v, oBox b58 #[(.int .i64 0), (.slice none 0 0), (.slice none 0 0)] 25, oBox b54 #[(.int .i64 p.n), s_p_1.v, s_p_2.v] 25] [rV s_t.v (cSl 1 fI t), rV s_p_2.v (cSl 1 fLDPart p.redo), rV s_p_1.v (cSl 1 fLDPart p.undo)] _ := hM
  refine w_exu (x_stB #[(.int .i64 r71.1.n), s74.v, s75.v] sz25 rfl rfl rfl rfl rfl rfl hM ?_); intro w88 hM
  refine wv rfl (r_assign rfl) ?_
  refine wv rfl (r_assign rfl) ?_
  refine wl_nil ?_
  refine sq_n ?_
  refine wc_seq ?_
  refine wc_region ?_
  refine wv rfl (r_fld Try.underlying25 rfl rfl sz3 rfl) ?_
  refine wv rfl (r_ldB Try.underlying3 rfl rfl hM (.head _) rfl) ?_
  refine wv rfl (r_fld Try.underlying25 rfl rfl sz23 rfl) ?_
  refine wv rfl (r_ldB Try.underlying23 rfl rfl hM (.head _) rfl) ?_
  refine wv rfl (r_fld Try.underlying25 rfl rfl sz23 rfl) ?_
  refine wv rfl (r_ldB Try.underlying23 rfl rfl hM (.head _) rfl) ?_
  refine wv rfl (r_build (cells := #[(.int .i64 r71.1.n), s75.v, s74.v]) rfl (by kernel_rfl)) ?_
  refine wv rfl (r_move rfl) ?_
  refine wv rfl (r_move rfl) ?_
  replace hM := hM.p4
  refine w_exu (x_stB #[(.int .i64 r71.1.n), s75.v, s74.v] sz25 rfl rfl rfl rfl rfl rfl hM ?_); intro w101 hM
  refine wv rfl (r_assign rfl) ?_
  refine wv rfl (r_assign rfl) ?_
  refine wl_nil ?_
  refine sq_n ?_
  refine wc_ret ?_
  obtain rfl := Option.some.inj hx
  refine fin_ret [(.agg #[(.int .i64 r71.1.n), s75.v, s74.v]), s76.v, (.bool r71.2.2)] ⟨rv_box Try.underlying25 sz25 rfl rfl hM (.head _), rfl, rfl, trivial⟩ ?_
  replace hM := hM.p4.p3.p4
  replace hM := hM.t3
  have hM := hM.fewer rsN
  exact ⟨(s75, s74, s76), rfl, hM.gives⟩

noncomputable def x_spec_PastNew (n : Int) : Option (DStory × Bool) :=
  Option.bind (x_spec_l01In n 0 200) fun r7 => bif !r7 then (some ((⟨0, [], []⟩ : DStory), false)) else (some ((⟨n, [], []⟩ : DStory), true))
theorem ct_spec_PastNew (w : World) (X S : Bs) (n : Int) (hS : ∀ b, S b → b < w.heap.size ∧ ¬ X b)  (oL : Sep [] X w) {r : DStory × Bool} (hx : x_spec_PastNew n = some r) :
    Ret Try.prog 79 [(.int .i64 n)] w (fun u w' => ∃ y : Sv × Sv, u = .tuple #[.agg #[(.int .i64 r.1.n), y.1.v, y.2.v], (.bool r.2)] ∧ Gives X S w [oC (cSl 1 fLDPart r.1.undo) y.1.v, oC (cSl 1 fLDPart r.1.redo) y.2.v] [] w') := by
  unfold x_spec_PastNew at hx
  refine enter Try.func79 rfl Try.ntmps79 (by kernel_rfl) rfl ?_
  have hM := St.enter oL hS
  refine wc_seq ?_
  refine wc_region ?_
  refine w_ex rfl (x_alloc sz25 hM ?_); intro b22 w21 hR23 hM
  replace hM : St ⟨w, X, S⟩ [oBox b22 #[(.int .i64 0), (.slice none 0 0), (.slice none 0 0)] 25] [] _ := hM
  refine wv rfl (r_assign rfl) ?_
  refine wl_nil ?_
  refine sq_n ?_
  refine wc_seq ?_
  refine wc_seq ?_
  refine wc_region ?_
  refine wv rfl (r_move rfl) ?_
  obtain ⟨r27, h28, hx⟩ := bind_some' hx
  refine w_call rfl rfl (hM.callV fun X S oL hS hR hO => ct_spec_l01In _ X S n (0 : Int) (200 : Int) hS  oL h28) ?_
  rintro _ w29 ⟨rfl, hR30⟩
  have hM := hM.call hR30
  refine wv rfl (r_not rfl) ?_
  refine wl_nil ?_
  refine sq_n ?_
  refine wc_cond rfl (fun hc32 => ?_) (fun hc32 => ?_)
  · replace hx := xif_t hc32 hx
    refine wc_seq ?_
    refine wc_region ?_
    refine wv rfl (r_build (cells := #[(.int .i64 0), (.slice none 0 0), (.slice none 0 0)]) rfl (by kernel_rfl)) ?_
    refine w_exu (x_stB #[(.int .i64 0), (.slice none 0 0), (.slice none 0 0)] sz25 rfl rfl rfl rfl rfl rfl hM ?_); intro w34 hM
    refine wv rfl (r_assign rfl) ?_
    refine wl_nil ?_
    refine sq_n ?_
    refine wc_ret ?_
    refine sq_ret ?_
    obtain rfl := Option.some.inj hx
    have hM := hM.nil0 (T := List DPart) 1 fLDPart
    have hM := hM.nil0 (T := List DPart) 1 fLDPart
    refine fin_ret [(.agg #[(.int .i64 0), nS.v, nS.v]), (.bool false)] ⟨rv_box Try.underlying25 sz25 rfl rfl hM (.tail _ (.tail _ (.head _))), rfl, trivial⟩ ?_
    replace hM := hM.p1
    replace hM := hM.t2
    have hM := hM.fewer rsN
    exact ⟨(nS, nS), rfl, hM.gives⟩
  · replace hx := xif_f hc32 hx
    refine wc_skip ?_
    refine sq_n ?_
    refine wc_seq ?_
    refine wc_region ?_
    refine wv rfl (r_move rfl) ?_
    refine wv rfl (r_build (cells := #[(.int .i64 n), (.slice none 0 0), (.slice none 0 0)]) rfl (by kernel_rfl)) ?_
    refine w_exu (x_stB #[(.int .i64 n), (.slice none 0 0), (.slice none 0 0)] sz25 rfl rfl rfl rfl rfl rfl hM ?_); intro w41 hM
    refine wv rfl (r_assign rfl) ?_
    refine wl_nil ?_
    refine sq_n ?_
    refine wc_ret ?_
    obtain rfl := Option.some.inj hx
    have hM := hM.nil0 (T := List DPart) 1 fLDPart
    have hM := hM.nil0 (T := List DPart) 1 fLDPart
    refine fin_ret [(.agg #[(.int .i64 n), nS.v, nS.v]), (.bool true)] ⟨rv_box Try.underlying25 sz25 rfl rfl hM (.tail _ (.tail _ (.head _))), rfl, trivial⟩ ?_
    replace hM := hM.p1
    replace hM := hM.t2
    have hM := hM.fewer rsN
    exact ⟨(nS, nS), rfl, hM.gives⟩

noncomputable def x_slices_EqualFunc_impl_Part_impl_Part_impl_Part_impl_Part_v2_b0 (s2_ : List (List DPart)) (_s1_ : List (List DPart)) (k11 : Nat) (x70 : List DPart) : Option (Lr Unit (Sum Unit Unit)) :=
  xg (0 ≤ (k11 : Int) ∧ (k11 : Int) < (s2_.length : Int)) <| Option.bind (x_impl_OpSame x70 (el s2_ k11)) fun r62 => bif !r62 then (some (Lr.out (Sum.inr (())))) else (some (Lr.go ()))
noncomputable def x_slices_EqualFunc_impl_Part_impl_Part_impl_Part_impl_Part_v2_f0 (s2_ : List (List DPart)) (s1_ : List (List DPart)) (k11 : Nat) (_s71 : Unit) : Option (Lr Unit (Sum Unit Unit)) := x_slices_EqualFunc_impl_Part_impl_Part_impl_Part_impl_Part_v2_b0 s2_ s1_ k11 (el s1_ k11)
noncomputable def x_slices_EqualFunc_impl_Part_impl_Part_impl_Part_impl_Part_v2 (s1_ : List (List DPart)) (s2_ : List (List DPart)) : Option Bool :=
  bif !decide ((s1_.length : Int) = (s2_.length : Int)) then (some false) else (Option.bind (eachN (x_slices_EqualFunc_impl_Part_impl_Part_impl_Part_impl_Part_v2_f0 s2_ s1_) (fun (_s71 : Unit) => (Sum.inl () : Sum Unit Unit)) s1_.length 0 ()) fun (y72 : Sum Unit Unit) => Sum.elim (fun _y73 => some true) (fun _y74 => some false) y72)
theorem ct_slices_EqualFunc_impl_Part_impl_Part_impl_Part_impl_Part_v2 (w : World) (X S : Bs) (s1_ : List (List DPart)) (s_s1_ : Sv) (s2_ : List (List DPart)) (s_s2_ : Sv) (hS : ∀ b, S b → b < w.heap.size ∧ ¬ X b) (a_s1__0 : (cSl 1 fLDPart s1_).rd S w s_s1_.v) (a_s2__0 : (cSl 1 fLDPart s2_).rd S w s_s2_.v) (oL : Sep [] X w) {r : Bool} (hx : x_slices_EqualFunc_impl_Part_impl_Part_impl_Part_impl_Part_v2 s1_ s2_ = some r) :
    Ret Try.prog 51 [s_s1_.v, s_s2_.v, (.func (.func 17) #[] #[])] w (fun u w' => ∃ _ : Unit, u = (.bool r) ∧ Gives X S w [] [] w') := by
  unfold x_slices_EqualFunc_impl_Part_impl_Part_impl_Part_impl_Part_v2 at hx
  refine enter Try.func51 rfl Try.ntmps51 (by kernel_rfl) rfl ?_
  have hM := St.enter oL hS
  have hM := hM.addE (r := rV s_s1_.v (cSl 1 fLDPart s1_)) a_s1__0
  have hM := hM.addE (r := rV s_s2_.v (cSl 1 fLDPart s2_)) a_s2__0
  refine wc_seq ?_
  refine wc_region ?_
  refine wv rfl (r_assign rfl) ?_
  refine wl_nil ?_
  refine sq_n ?_
  refine wc_seq ?_
  refine wc_seq ?_
  refine wc_region ?_
  refine wv rfl (r_move rfl) ?_
  refine wv rfl (r_lenC Try.underlying23 rfl (hM.seeR (.tail _ (.head _)))) ?_
  refine wv rfl (r_move rfl) ?_
  refine wv rfl (r_lenC Try.underlying23 rfl (hM.seeR (.head _))) ?_
  refine wv rfl (r_neq rfl rfl) ?_
  refine wl_nil ?_
  refine sq_n ?_
  refine wc_cond rfl (fun hc82 => ?_) (fun hc82 => ?_)
  · replace hx := xif_t hc82 hx
    refine wc_seq ?_
    refine wc_region ?_
    refine wv rfl (r_assign rfl) ?_
    refine wl_nil ?_
    refine sq_n ?_
    refine wc_ret ?_
    refine sq_ret ?_
    obtain rfl := Option.some.inj hx
    refine fin_ret [(.bool false)] ⟨rfl, trivial⟩ ?_
    replace hM := hM.t0
    have hM := hM.fewer rsN
    exact ⟨(), rfl, hM.gives⟩
  · replace hx := xif_f hc82 hx
    refine wc_skip ?_
    refine sq_n ?_
    refine wc_seq ?_
    refine wc_seq ?_
    refine wc_region ?_
    refine wv rfl (r_move rfl) ?_
    refine wv rfl (r_lenC Try.underlying23 rfl (hM.seeR (.tail _ (.head _)))) ?_
    refine wv rfl (r_move rfl) ?_
    refine wl_nil ?_
    refine sq_n ?_
    refine wc_block ?_
    obtain ⟨y87, hx, hx88⟩ := bind_some' hx
    have hl92 := Cs.le (hM.seeR (.tail _ (.head _)))
    refine wc_loop (un fun (m89 : Nat) => fun (k90 : Nat) => [(1, s_s2_.v), (2, (.func (.func 17) #[] #[])), (15, s_s1_.v), (16, (.int .i64 (s1_.length : Int))), (17, (.int .i64 (k90 : Int)))]) (un fun (m89 : Nat) => fun (k90 : Nat) w' => St ⟨w, X, S⟩ [] [rV s_s2_.v (cSl 1 fLDPart s2_), rV s_s1_.v (cSl 1 fLDPart s1_)] w' ∧ eachN _ _ m89 k90 () = some y87 ∧ k90 + m89 = s1_.length) (fun p => p.1) (s1_.length, 0) ⟨rfl, rfl, rfl, rfl, rfl, trivial⟩ ⟨hM, hx, Nat.zero_add _⟩ ?_
    rintro ⟨m89, k90⟩ w93 ⟨hM, hx, hk91⟩
    refine wc_seq ?_
    refine wc_region ?_
    refine wv rfl (r_lss rfl rfl) ?_
    refine wl_nil ?_
    refine sq_n ?_
    refine wc_seq ?_
    refine wc_cond rfl (fun hc95 => ?_) (fun hc95 => ?_)
    · replace hc95 := of_decide_eq_true hc95
      obtain ⟨m96, z97, rfl, hk91, hx, hx98⟩ := eachN_step hx hk91 hc95
      unfold x_slices_EqualFunc_impl_Part_impl_Part_impl_Part_impl_Part_v2_f0 x_slices_EqualFunc_impl_Part_impl_Part_impl_Part_impl_Part_v2_b0 at hx
      try dsimp only at hx
      refine wc_skip ?_
      refine sq_n ?_
      refine wc_seq ?_
      refine wc_block ?_
      refine wc_seq ?_
      refine wc_region ?_
      refine wv rfl (r_move rfl) ?_
      have hi101 : k90 < s1_.length := by omega
      refine wv rfl (r_ixC Try.underlying23 sz29 rfl rfl (hM.seeR (.tail _ (.head _))) ⟨by omega, hc95⟩) ?_
      obtain ⟨s103, hM, hc104⟩ := hM.leaf (i := k90) (j := 0) (.tail _ (.head _)) (fun _ => rfl) hi101 rfl
      refine wv rfl (r_ld Try.underlying29 rfl rfl (hc104 _ (Rel.refl _))) ?_
      refine wv rfl (r_assign rfl) ?_
      refine wv rfl (r_assign rfl) ?_
      refine wl_nil ?_
      refine sq_n ?_
      refine wc_seq ?_
      refine wc_region ?_
      refine wv rfl (r_move rfl) ?_
      refine wv rfl (r_move rfl) ?_
      obtain ⟨hg111, hx⟩ := xg_some hx
      have hi110 : k90 < s2_.length := by omega
      refine wv rfl (r_ixC Try.underlying23 sz29 rfl rfl (hM.seeR (.tail _ (.head _))) hg111) ?_
      obtain ⟨s113, hM, hc114⟩ := hM.leaf (i := k90) (j := 0) (.tail _ (.head _)) (fun _ => rfl) hi110 rfl
      refine wv rfl (r_ld Try.underlying29 rfl rfl (hc114 _ (Rel.refl _))) ?_
      refine wv rfl (r_assign rfl) ?_
      refine wl_nil ?_
      refine sq_n ?_
      refine wc_seq ?_
      refine wc_region ?_
      refine wv rfl (r_move rfl) ?_
      refine wv rfl (r_move rfl) ?_
      refine wv rfl (r_move rfl) ?_
      obtain ⟨r119, h120, hx⟩ := bind_some' hx
      refine w_callv (cap := []) rfl rfl rfl (hM.callV fun X S oL hS hR hO => ct_impl_OpSame _ X S (el s1_ k90) s103 (el s2_ k90) s113 hS (hR _ (.tail _ (.head _))) (hR _ (.head _)) oL h120) ?_
      rintro _ w121 ⟨rfl, hR122⟩
      have hM := hM.call hR122
      refine wv rfl (r_not rfl) ?_
      refine wl_nil ?_
      refine sq_n ?_
      refine wc_cond rfl (fun hc124 => ?_) (fun hc124 => ?_)
      · replace hx := xif_t hc124 hx
        refine wc_seq ?_
        refine wc_region ?_
        refine wv rfl (r_assign rfl) ?_
        refine wl_nil ?_
        refine sq_n ?_
        refine wc_ret ?_
        refine bk_ret ?_
        refine sq_ret ?_
        refine lp1_ret ?_
        obtain rfl := Option.some.inj hx
        obtain rfl := Option.some.inj hx98
        replace hx := hx88
        try dsimp only [Sum.elim_inl, Sum.elim_inr] at hx
        refine bk_ret ?_
        refine sq_ret ?_
        obtain rfl := Option.some.inj hx
        refine fin_ret [(.bool false)] ⟨rfl, trivial⟩ ?_
        replace hM := hM.t0
        have hM := hM.fewer rsN
        exact ⟨(), rfl, hM.gives⟩
      · replace hx := xif_f hc124 hx
        refine wc_skip ?_
        refine bk_n ?_
        refine sq_n ?_
        refine wc_region ?_
        refine wv rfl (r_add rfl rfl ⟨by omega, by omega⟩) ?_
        refine wv rfl (r_move rfl) ?_
        refine wl_nil ?_
        obtain rfl := Option.some.inj hx
        have hM := hM.fewer (rsC (.tail _ (.tail _ (.head _))) (rsC (.tail _ (.tail _ (.tail _ (.head _)))) rsN))
        replace hM : St ⟨w, X, S⟩ [] [rV s_s2_.v (cSl 1 fLDPart s2_), rV s_s1_.v (cSl 1 fLDPart s1_)] _ := hM
        exact lp_end (m96, k90 + 1) (Nat.lt_succ_self _) ⟨rfl, rfl, rfl, rfl, rfl, trivial⟩ ⟨hM, hx98, hk91⟩
    · replace hc95 := of_decide_eq_false hc95
      obtain rfl := eachN_end hx hk91 hc95
      refine wc_exit ?_
      refine sq_exit ?_
      refine lp1_exit ?_
      replace hx := hx88
      try dsimp only [Sum.elim_inl, Sum.elim_inr] at hx
      refine bk_here ?_
      refine sq_n ?_
      refine wc_seq ?_
      refine wc_region ?_
      refine wv rfl (r_assign rfl) ?_
      refine wl_nil ?_
      refine sq_n ?_
      refine wc_ret ?_
      obtain rfl := Option.some.inj hx
      refine fin_ret [(.bool true)] ⟨rfl, trivial⟩ ?_
      replace hM := hM.t0
      have hM := hM.fewer rsN
      exact ⟨(), rfl, hM.gives⟩

noncomputable def x_impl_PastSame (p : DStory) (q : DStory) : Option Bool :=
  Option.bind (bif decide (p.n = q.n) then (Option.bind (x_slices_EqualFunc_impl_Part_impl_Part_impl_Part_impl_Part_v2 p.undo q.undo) fun r30 => some r30) else (some false)) fun c16 => Option.bind (bif c16 then (Option.bind (x_slices_EqualFunc_impl_Part_impl_Part_impl_Part_impl_Part_v2 p.redo q.redo) fun r49 => some r49) else (some false)) fun c35 => some c35
theorem ct_impl_PastSame (w : World) (X S : Bs) (p : DStory) (s_p_1 : Sv) (s_p_2 : Sv) (q : DStory) (s_q_1 : Sv) (s_q_2 : Sv) (hS : ∀ b, S b → b < w.heap.size ∧ ¬ X b) (a_p_1 : (cSl 1 fLDPart p.undo).rd S w s_p_1.v) (a_p_2 : (cSl 1 fLDPart p.redo).rd S w s_p_2.v) (a_q_1 : (cSl 1 fLDPart q.undo).rd S w s_q_1.v) (a_q_2 : (cSl 1 fLDPart q.redo).rd S w s_q_2.v) (oL : Sep [] X w) {r : Bool} (hx : x_impl_PastSame p q = some r) :
    Ret Try.prog 16 [(.agg #[(.int .i64 p.n), s_p_1.v, s_p_2.v]), (.agg #[(.int .i64 q.n), s_q_1.v, s_q_2.v])] w (fun u w' => ∃ _ : Unit, u = (.bool r) ∧ Gives X S w [] [] w') := by
  unfold x_impl_PastSame at hx
  refine enter Try.func16 rfl Try.ntmps16 (by kernel_rfl) rfl ?_
  have hM := St.enter oL hS
  have hM := hM.addE (r := rV s_p_1.v (cSl 1 fLDPart p.undo)) a_p_1
  have hM := hM.addE (r := rV s_p_2.v (cSl 1 fLDPart p.redo)) a_p_2
  have hM := hM.addE (r := rV s_q_1.v (cSl 1 fLDPart q.undo)) a_q_1
  have hM := hM.addE (r := rV s_q_2.v (cSl 1 fLDPart q.redo)) a_q_2
  refine wc_seq ?_
  refine wc_region ?_
  refine w_ex rfl (x_box rfl hM ?_); intro b55 w54 hR56 hM
  replace hM : St ⟨w, X, S⟩ [oBox b55 #[(.int .i64 p.n), s_p_1.v, s_p_2.v] 25] [rV s_q_2.v (cSl 1 fLDPart q.redo), rV s_q_1.v (cSl 1 fLDPart q.undo), rV s_p_2.v (cSl 1 fLDPart p.redo), rV s_p_1.v (cSl 1 fLDPart p.undo)] _ := hM
  refine w_ex rfl (x_box rfl hM ?_); intro b59 w58 hR60 hM
  replace hM : St ⟨w, X, S⟩ [oBox b59 #[(.int .i64 q.n), s_q_1.v, s_q_2.v] 25, oBox b55 #[(.int .i64 p.n), s_p_1.v, s_p_2.v] 25] [rV s_q_2.v (cSl 1 fLDPart q.redo), rV s_q_1.v (cSl 1 fLDPart q.undo), rV s_p_2.v (cSl 1 fLDPart p.redo), rV s_p_1.v (cSl 1 fLDPart p.undo)] _ := hM
  refine wv rfl (r_assign rfl) ?_
  refine wl_nil ?_
  refine sq_n ?_
  refine wc_seq ?_
  refine wc_region ?_
  refine wv rfl (r_fld Try.underlying25 rfl rfl sz3 rfl) ?_
  refine wv rfl (r_ldB Try.underlying3 rfl rfl hM (.tail _ (.head _)) rfl) ?_
  refine wv rfl (r_fld Try.underlying25 rfl rfl sz3 rfl) ?_
  refine wv rfl (r_ldB Try.underlying3 rfl rfl hM (.head _) rfl) ?_
  refine wv rfl (r_eql rfl rfl) ?_
  refine wv rfl (r_move rfl) ?_
  obtain ⟨c69, hx, hx79⟩ := bind_some' hx
  refine wl_mid 6 (fun _ : Unit => [(16, (.bool c69)), (2, (.pointer (some ⟨b55, 0, none⟩))), (3, (.pointer (some ⟨b59, 0, none⟩)))]) (fun _ w' => St ⟨w, X, S⟩ [oBox b59 #[(.int .i64 q.n), s_q_1.v, s_q_2.v] 25, oBox b55 #[(.int .i64 p.n), s_p_1.v, s_p_2.v] 25] [rV s_q_2.v (cSl 1 fLDPart q.redo), rV s_q_1.v (cSl 1 fLDPart q.undo), rV s_p_2.v (cSl 1 fLDPart p.redo), rV s_p_1.v (cSl 1 fLDPart p.undo)] w') ?_ ?_
  · rcases Bool.eq_false_or_eq_true (decide (p.n = q.n)) with hg70 | hg70
    · replace hx := xif_t hg70 hx
      refine gv rfl hg70 rfl (r_fld Try.underlying25 rfl rfl sz23 rfl) ?_
      refine gv rfl hg70 rfl (r_ldB Try.underlying23 rfl rfl hM (.tail _ (.head _)) rfl) ?_
      refine gv rfl hg70 rfl (r_fld Try.underlying25 rfl rfl sz23 rfl) ?_
      refine gv rfl hg70 rfl (r_ldB Try.underlying23 rfl rfl hM (.head _) rfl) ?_
      obtain ⟨r84, h85, hx⟩ := bind_some' hx
      refine gc rfl hg70 rfl rfl (hM.callV fun X S oL hS hR hO => ct_slices_EqualFunc_impl_Part_impl_Part_impl_Part_impl_Part_v2 _ X S p.undo s_p_1 q.undo s_q_1 hS (hR _ (.tail _ (.tail _ (.tail _ (.head _))))) (hR _ (.tail _ (.head _))) oL h85) ?_
      rintro _ w86 ⟨rfl, hR87⟩
      have hM := hM.call hR87
      refine wv rfl (p_t rfl hg70 rfl) ?_
      obtain rfl := Option.some.inj hx
      exact mid_nil () ⟨rfl, rfl, rfl, trivial⟩ hM
    · replace hx := xif_f hg70 hx
      refine gs rfl (isB_no hg70) rfl ?_
      refine gs rfl (isB_no hg70) rfl ?_
      refine gs rfl (isB_no hg70) rfl ?_
      refine gs rfl (isB_no hg70) rfl ?_
      refine gs rfl (isB_no hg70) rfl ?_
      refine wv rfl (p_f rfl hg70 rfl) ?_
      obtain rfl := Option.some.inj hx
      exact mid_nil () ⟨rfl, rfl, rfl, trivial⟩ hM
  rintro _ w88 hM
  replace hx := hx79
  refine wv rfl (r_move rfl) ?_
  obtain ⟨c90, hx, hx100⟩ := bind_some' hx
  refine wl_mid 6 (fun _ : Unit => [(23, (.bool c90))]) (fun _ w' => St ⟨w, X, S⟩ [oBox b59 #[(.int .i64 q.n), s_q_1.v, s_q_2.v] 25, oBox b55 #[(.int .i64 p.n), s_p_1.v, s_p_2.v] 25] [rV s_q_2.v (cSl 1 fLDPart q.redo), rV s_q_1.v (cSl 1 fLDPart q.undo), rV s_p_2.v (cSl 1 fLDPart p.redo), rV s_p_1.v (cSl 1 fLDPart p.undo)] w') ?_ ?_
  · rcases Bool.eq_false_or_eq_true c69 with hg91 | hg91
    · replace hx := xif_t hg91 hx
      refine gv rfl hg91 rfl (r_fld Try.underlying25 rfl rfl sz23 rfl) ?_
      refine gv rfl hg91 rfl (r_ldB Try.underlying23 rfl rfl hM (.tail _ (.head _)) rfl) ?_
      refine gv rfl hg91 rfl (r_fld Try.underlying25 rfl rfl sz23 rfl) ?_
      refine gv rfl hg91 rfl (r_ldB Try.underlying23 rfl rfl hM (.head _) rfl) ?_
      obtain ⟨r105, h106, hx⟩ := bind_some' hx
      refine gc rfl hg91 rfl rfl (hM.callV fun X S oL hS hR hO => ct_slices_EqualFunc_impl_Part_impl_Part_impl_Part_impl_Part_v2 _ X S p.redo s_p_2 q.redo s_q_2 hS (hR _ (.tail _ (.tail _ (.head _)))) (hR _ (.head _)) oL h106) ?_
      rintro _ w107 ⟨rfl, hR108⟩
      have hM := hM.call hR108
      refine wv rfl (p_t rfl hg91 rfl) ?_
      obtain rfl := Option.some.inj hx
      exact mid_nil () ⟨rfl, trivial⟩ hM
    · replace hx := xif_f hg91 hx
      refine gs rfl (isB_no hg91) rfl ?_
      refine gs rfl (isB_no hg91) rfl ?_
      refine gs rfl (isB_no hg91) rfl ?_
      refine gs rfl (isB_no hg91) rfl ?_
      refine gs rfl (isB_no hg91) rfl ?_
      refine wv rfl (p_f rfl hg91 rfl) ?_
      obtain rfl := Option.some.inj hx
      exact mid_nil () ⟨rfl, trivial⟩ hM
  rintro _ w109 hM
  replace hx := hx100
  refine wv rfl (r_assign rfl) ?_
  refine wl_nil ?_
  refine sq_n ?_
  refine wc_ret ?_
  obtain rfl := Option.some.inj hx
  refine fin_ret [(.bool c90)] ⟨rfl, trivial⟩ ?_
  replace hM := hM.t0
  have hM := hM.fewer rsN
  exact ⟨(), rfl, hM.gives⟩

end Go.Proofs.Ythfkcpdechjmnaa
