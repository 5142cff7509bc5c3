/- Walks of functions of this program (printed by a program of ours, by the rules of the layer). No condition. -/
import Derived.Test.YtnpfbhejekpmaaaG4
namespace Go.Proofs.Ytnpfbhejekpmaaa
open Go.RowKit

noncomputable def x_impl_Rows_b0 (_t : List Int) (k17 : Nat) (x63 : Int) (out18 : List Int) : Option (Lr (List Int) (List Int)) :=
  bif decide (x63 = 10) then (xg (out18.length < 1099511627776) <| some (Lr.go (out18 ++ [(k17 : Int) + 1]))) else (some (Lr.go out18))
noncomputable def x_impl_Rows_f0 (t : List Int) (k17 : Nat) (s64 : List Int) : Option (Lr (List Int) (List Int)) := x_impl_Rows_b0 t k17 (el t k17) s64
noncomputable def x_impl_Rows (t : List Int) : Option (List Int) :=
  Option.bind (x_impl_TextOk t) fun r3 => bif !r3 then (some []) else (Option.bind (eachN (x_impl_Rows_f0 t) (fun (s64 : List Int) => (s64 : List Int)) t.length 0 [0]) fun (y65 : List Int) => some y65)
theorem ct_impl_Rows (w : World) (X S : Bs) (t : List Int) (s_t : Sv) (hS : ∀ b, S b → b < w.heap.size ∧ ¬ X b) (a_t_0 : (cSl 1 fI t).rd S w s_t.v) (oL : Sep [] X w) {r : List Int} (hx : x_impl_Rows t = some r) :
    Ret Try.prog 76 [s_t.v] w (fun u w' => ∃ y : Sv, u = y.v ∧ Gives X S w [oC (cSl 1 fI r) y.v] [] w') := by
  unfold x_impl_Rows at hx
  refine enter Try.func76 rfl Try.ntmps76 (by kernel_rfl) rfl ?_
  have hM := St.enter oL hS
  have hM := hM.addE (r := rV s_t.v (cSl 1 fI t)) a_t_0
  refine wc_seq ?_
  refine wc_region ?_
  refine wv rfl (r_assign rfl) ?_
  refine wl_nil ?_
  refine sq_n ?_
  refine wc_seq ?_
  refine wc_seq ?_
  refine wc_region ?_
  refine wv rfl (r_move rfl) ?_
  obtain ⟨r72, h73, hx⟩ := bind_some' hx
  refine w_call rfl rfl (hM.callV fun X S oL hS hR hO => ct_impl_TextOk _ X S t s_t hS (hR _ (.head _)) oL h73) ?_
  rintro _ w74 ⟨rfl, hR75⟩
  have hM := hM.call hR75
  refine wv rfl (r_not rfl) ?_
  refine wl_nil ?_
  refine sq_n ?_
  refine wc_cond rfl (fun hc77 => ?_) (fun hc77 => ?_)
  · replace hx := xif_t hc77 hx
    refine wc_seq ?_
    refine wc_region ?_
    refine wv rfl (r_assign rfl) ?_
    refine wl_nil ?_
    refine sq_n ?_
    refine wc_ret ?_
    refine sq_ret ?_
    obtain rfl := Option.some.inj hx
    have hM := hM.nil0 (T := Int) 1 fI
    refine fin_ret [nS.v] ⟨rfl, trivial⟩ ?_
    replace hM : St ⟨w, X, S⟩ [oC (cSl 1 fI ([] : List Int)) nS.v] [rV s_t.v (cSl 1 fI t)] _ := hM.tk 1
    have hM := hM.fewer rsN
    exact ⟨nS, rfl, hM.gives⟩
  · replace hx := xif_f hc77 hx
    refine wc_skip ?_
    refine sq_n ?_
    refine wc_seq ?_
    refine wc_region ?_
    refine w_ex rfl (x_lit (f := fI) (own := []) [0] [(.int .i64 0)] 1 Try.underlying24 sz3 (fun _ => rfl) rfl rfl rfl rfl rfl (by kernel_rfl) (fun _ => zP (pV _ rfl) zN) hM ?_); intro s81 w80 hR82 hM
    refine wv rfl (r_assign rfl) ?_
    refine wl_nil ?_
    refine sq_n ?_
    refine wc_seq ?_
    refine wc_seq ?_
    refine wc_region ?_
    refine wv rfl (r_move rfl) ?_
    refine wv rfl (r_lenC Try.underlying24 rfl (hM.seeR (.head _))) ?_
    refine wv rfl (r_move rfl) ?_
    refine wl_nil ?_
    refine sq_n ?_
    refine wc_block ?_
    obtain ⟨y88, hx, hx89⟩ := bind_some' hx
    have hl96 := Cs.le (hM.seeR (.head _))
    refine wc_loop (un fun (m93 : Nat) => un fun (k94 : Nat) => un fun (out90 : List Int) => fun (s92 : Sv) => [(3, s92.v), (10, s_t.v), (11, (.int .i64 (t.length : Int))), (12, (.int .i64 (k94 : Int)))]) (un fun (m93 : Nat) => un fun (k94 : Nat) => un fun (out90 : List Int) => fun (s92 : Sv) w' => St ⟨w, X, S⟩ [oC (cSl 1 fI out90) s92.v] [rV s_t.v (cSl 1 fI t)] w' ∧ eachN _ _ m93 k94 out90 = some y88 ∧ k94 + m93 = t.length) (fun p => p.1) (t.length, 0, [0], s81) ⟨rfl, rfl, rfl, rfl, trivial⟩ ⟨hM, hx, Nat.zero_add _⟩ ?_
    rintro ⟨m93, k94, out90, s92⟩ w97 ⟨hM, hx, hk95⟩
    refine wc_seq ?_
    refine wc_region ?_
    refine wv rfl (r_lss rfl rfl) ?_
    refine wl_nil ?_
    refine sq_n ?_
    refine wc_seq ?_
    refine wc_cond rfl (fun hc99 => ?_) (fun hc99 => ?_)
    · replace hc99 := of_decide_eq_true hc99
      obtain ⟨m100, z101, rfl, hk95, hx, hx102⟩ := eachN_step hx hk95 hc99
      unfold x_impl_Rows_f0 x_impl_Rows_b0 at hx
      try dsimp only at hx
      refine wc_skip ?_
      refine sq_n ?_
      refine wc_seq ?_
      refine wc_block ?_
      refine wc_seq ?_
      refine wc_region ?_
      refine wv rfl (r_move rfl) ?_
      have hi105 : k94 < t.length := by omega
      refine wv rfl (r_ixC Try.underlying24 sz3 rfl rfl (hM.seeR (.head _)) ⟨by omega, hc99⟩) ?_
      refine wv rfl (r_ld Try.underlying3 rfl rfl (Cs.get (i := k94) (j := 0) (hM.seeR (.head _)) (fun _ => rfl) hi105 rfl)) ?_
      refine wv rfl (r_assign rfl) ?_
      refine wv rfl (r_assign rfl) ?_
      refine wl_nil ?_
      refine sq_n ?_
      refine wc_seq ?_
      refine wc_region ?_
      refine wv rfl (r_move rfl) ?_
      refine wv rfl (r_eql rfl rfl) ?_
      refine wl_nil ?_
      refine sq_n ?_
      refine wc_cond rfl (fun hc111 => ?_) (fun hc111 => ?_)
      · replace hx := xif_t hc111 hx
        refine wc_region ?_
        refine wv rfl (r_move rfl) ?_
        refine wv rfl (r_move rfl) ?_
        refine wv rfl (r_add rfl rfl ⟨by omega, by omega⟩) ?_
        obtain ⟨hg118, hx⟩ := xg_some hx
        refine w_push (f := fI) ((k94 : Int) + 1) rfl rfl Try.underlying24 sz3 rfl rfl rfl rfl (fun _ => rfl) hM (fun _ => zP (pV _ rfl) zN) rfl hg118 rfl ?_; intro u116 s117 w115 hM
        refine wv rfl (r_assign rfl) ?_
        refine wl_nil ?_
        refine bk_n ?_
        refine sq_n ?_
        refine wc_region ?_
        refine wv rfl (r_add rfl rfl ⟨by omega, by omega⟩) ?_
        refine wv rfl (r_move rfl) ?_
        refine wl_nil ?_
        obtain rfl := Option.some.inj hx
        exact lp_end (m100, k94 + 1, out90 ++ [(k94 : Int) + 1], s117) (Nat.lt_succ_self _) ⟨rfl, rfl, rfl, rfl, trivial⟩ ⟨hM, hx102, hk95⟩
      · replace hx := xif_f hc111 hx
        refine wc_skip ?_
        refine bk_n ?_
        refine sq_n ?_
        refine wc_region ?_
        refine wv rfl (r_add rfl rfl ⟨by omega, by omega⟩) ?_
        refine wv rfl (r_move rfl) ?_
        refine wl_nil ?_
        obtain rfl := Option.some.inj hx
        exact lp_end (m100, k94 + 1, out90, s92) (Nat.lt_succ_self _) ⟨rfl, rfl, rfl, rfl, trivial⟩ ⟨hM, hx102, hk95⟩
    · replace hc99 := of_decide_eq_false hc99
      obtain rfl := eachN_end hx hk95 hc99
      refine wc_exit ?_
      refine sq_exit ?_
      refine lp1_exit ?_
      replace hx := hx89
      try dsimp only [Sum.elim_inl, Sum.elim_inr] at hx
      refine bk_here ?_
      refine sq_n ?_
      refine wc_seq ?_
      refine wc_region ?_
      refine wv rfl (r_move rfl) ?_
      refine wv rfl (r_assign rfl) ?_
      refine wl_nil ?_
      refine sq_n ?_
      refine wc_ret ?_
      obtain rfl := Option.some.inj hx
      refine fin_ret [s92.v] ⟨rfl, trivial⟩ ?_
      replace hM : St ⟨w, X, S⟩ [oC (cSl 1 fI out90) s92.v] [rV s_t.v (cSl 1 fI t)] _ := hM.tk 1
      have hM := hM.fewer rsN
      exact ⟨s92, rfl, hM.gives⟩

noncomputable def x_impl_rowEnds (t : List Int) (row : Int) : Option (Int × Int × Bool) :=
  Option.bind (x_impl_Rows t) fun r5 => xg (inI ((r5.length : Int) - 1)) <| Option.bind (x_impl_within row 0 ((r5.length : Int) - 1)) fun r16 => bif !r16 then (some (0, 0, false)) else (xg (inI (row + 1)) <| bif decide ((row + 1) < (r5.length : Int)) then (xg (0 ≤ row ∧ row < (r5.length : Int)) <| xg (inI (row + 1)) <| xg (0 ≤ (row + 1) ∧ (row + 1) < (r5.length : Int)) <| xg (inI ((el r5 ((row + 1).toNat)) - 1)) <| some (el r5 row.toNat, (el r5 ((row + 1).toNat)) - 1, true)) else (xg (0 ≤ row ∧ row < (r5.length : Int)) <| some (el r5 row.toNat, (t.length : Int), true)))
theorem ct_impl_rowEnds (w : World) (X S : Bs) (t : List Int) (s_t : Sv) (row : Int) (hS : ∀ b, S b → b < w.heap.size ∧ ¬ X b) (a_t_0 : (cSl 1 fI t).rd S w s_t.v) (oL : Sep [] X w) {r : Int × Int × Bool} (hx : x_impl_rowEnds t row = some r) :
    Ret Try.prog 79 [s_t.v, (.int .i64 row)] w (fun u w' => ∃ _ : Unit, u = .tuple #[(.int .i64 r.1), (.int .i64 r.2.1), (.bool r.2.2)] ∧ Gives X S w [] [] w') := by
  unfold x_impl_rowEnds at hx
  refine enter Try.func79 rfl Try.ntmps79 (by kernel_rfl) rfl ?_
  have hM := St.enter oL hS
  have hM := hM.addE (r := rV s_t.v (cSl 1 fI t)) a_t_0
  refine wc_seq ?_
  refine wc_region ?_
  refine wv rfl (r_assign rfl) ?_
  refine wv rfl (r_assign rfl) ?_
  refine wv rfl (r_assign rfl) ?_
  refine wl_nil ?_
  refine sq_n ?_
  refine wc_seq ?_
  refine wc_region ?_
  refine wv rfl (r_move rfl) ?_
  obtain ⟨r66, h67, hx⟩ := bind_some' hx
  refine w_call rfl rfl (hM.callO (l := []) fun X S oL hS hR hO => ct_impl_Rows _ X S t s_t hS (hR _ (.head _)) oL h67) ?_
  rintro _ w68 ⟨s69, rfl, hM⟩
  replace hM : St ⟨w, X, S⟩ [oC (cSl 1 fI r66) s69.v] [rV s_t.v (cSl 1 fI t)] _ := hM
  refine wv rfl (r_assign rfl) ?_
  refine wl_nil ?_
  refine sq_n ?_
  refine wc_seq ?_
  refine wc_seq ?_
  refine wc_region ?_
  refine wv rfl (r_move rfl) ?_
  refine wv rfl (r_move rfl) ?_
  refine wv rfl (r_lenC Try.underlying24 rfl (hM.seeO (.head _))) ?_
  obtain ⟨hg76, hx⟩ := xg_some hx
  refine wv rfl (r_sub rfl rfl hg76) ?_
  obtain ⟨r77, h78, hx⟩ := bind_some' hx
  refine w_call rfl rfl (hM.callV fun X S oL hS hR hO => ct_impl_within _ X S row (0 : Int) ((r66.length : Int) - 1) hS  oL h78) ?_
  rintro _ w79 ⟨rfl, hR80⟩
  have hM := hM.call hR80
  refine wv rfl (r_not rfl) ?_
  refine wl_nil ?_
  refine sq_n ?_
  refine wc_cond rfl (fun hc82 => ?_) (fun hc82 => ?_)
  · replace hx := xif_t hc82 hx
    refine wc_seq ?_
    refine wc_region ?_
    refine wv rfl (r_assign rfl) ?_
    refine wv rfl (r_assign rfl) ?_
    refine wv rfl (r_assign rfl) ?_
    refine wl_nil ?_
    refine sq_n ?_
    refine wc_ret ?_
    refine sq_ret ?_
    obtain rfl := Option.some.inj hx
    refine fin_ret [(.int .i64 0), (.int .i64 0), (.bool false)] ⟨rfl, rfl, rfl, trivial⟩ ?_
    replace hM : St ⟨w, X, S⟩ [] [rV s_t.v (cSl 1 fI t)] _ := hM.tk 0
    have hM := hM.fewer rsN
    exact ⟨(), rfl, hM.gives⟩
  · replace hx := xif_f hc82 hx
    refine wc_skip ?_
    refine sq_n ?_
    refine wc_seq ?_
    refine wc_seq ?_
    refine wc_region ?_
    refine wv rfl (r_move rfl) ?_
    obtain ⟨hg88, hx⟩ := xg_some hx
    refine wv rfl (r_add rfl rfl hg88) ?_
    refine wv rfl (r_move rfl) ?_
    refine wv rfl (r_lenC Try.underlying24 rfl (hM.seeO (.head _))) ?_
    refine wv rfl (r_lss rfl rfl) ?_
    refine wl_nil ?_
    refine sq_n ?_
    refine wc_cond rfl (fun hc92 => ?_) (fun hc92 => ?_)
    · replace hx := xif_t hc92 hx
      refine wc_seq ?_
      refine wc_draw [(0, 0), (1, 0), (2, 0), (3, 0), (4, 0), (5, 0), (6, 0), (7, 0), (8, 0), (9, 0), (10, 0), (11, 0), (12, 0)] Try_mixed (by kernel_rfl) rfl (by kernel_rfl) rfl ?_
      refine ov rfl (fun w' h' => r_move rfl) ?_
      refine ov rfl (fun w' h' => r_move rfl) ?_
      obtain ⟨hg97, hx⟩ := xg_some hx
      have hi96 : row.toNat < r66.length := by omega
      refine ov rfl (fun w' h' => r_ixC Try.underlying24 sz3 rfl rfl ((hM.call h').seeO (.head _)) hg97) ?_
      refine ov rfl (fun w' h' => r_ld Try.underlying3 rfl rfl (Cs.get (i := row.toNat) (j := 0) ((hM.call h').seeO (.head _)) (fun _ => rfl) hi96 rfl)) ?_
      refine ov rfl (fun w' h' => r_move rfl) ?_
      refine ov rfl (fun w' h' => r_move rfl) ?_
      obtain ⟨hg102, hx⟩ := xg_some hx
      refine ov rfl (fun w' h' => r_add rfl rfl hg102) ?_
      obtain ⟨hg105, hx⟩ := xg_some hx
      have hi104 : ((row + 1).toNat) < r66.length := by omega
      refine ov rfl (fun w' h' => r_ixC Try.underlying24 sz3 rfl rfl ((hM.call h').seeO (.head _)) hg105) ?_
      refine ov rfl (fun w' h' => r_ld Try.underlying3 rfl rfl (Cs.get (i := ((row + 1).toNat)) (j := 0) ((hM.call h').seeO (.head _)) (fun _ => rfl) hi104 rfl)) ?_
      obtain ⟨hg108, hx⟩ := xg_some hx
      refine ov rfl (fun w' h' => r_sub rfl rfl hg108) ?_
      refine ov rfl (fun w' h' => r_assign rfl) ?_
      refine ov rfl (fun w' h' => r_assign rfl) ?_
      refine ov rfl (fun w' h' => r_assign rfl) ?_
      refine o_nil fun w112 hw113 => ?_
      have hM := hM.call hw113
      refine sq_n ?_
      refine wc_ret ?_
      refine sq_ret ?_
      obtain rfl := Option.some.inj hx
      refine fin_ret [(.int .i64 (el r66 row.toNat)), (.int .i64 ((el r66 ((row + 1).toNat)) - 1)), (.bool true)] ⟨rfl, rfl, rfl, trivial⟩ ?_
      replace hM : St ⟨w, X, S⟩ [] [rV s_t.v (cSl 1 fI t)] _ := hM.tk 0
      have hM := hM.fewer rsN
      exact ⟨(), rfl, hM.gives⟩
    · replace hx := xif_f hc92 hx
      refine wc_skip ?_
      refine sq_n ?_
      refine wc_seq ?_
      refine wc_region ?_
      refine wv rfl (r_move rfl) ?_
      refine wv rfl (r_move rfl) ?_
      obtain ⟨hg118, hx⟩ := xg_some hx
      have hi117 : row.toNat < r66.length := by omega
      refine wv rfl (r_ixC Try.underlying24 sz3 rfl rfl (hM.seeO (.head _)) hg118) ?_
      refine wv rfl (r_ld Try.underlying3 rfl rfl (Cs.get (i := row.toNat) (j := 0) (hM.seeO (.head _)) (fun _ => rfl) hi117 rfl)) ?_
      refine wv rfl (r_move rfl) ?_
      refine wv rfl (r_lenC Try.underlying24 rfl (hM.seeR (.head _))) ?_
      refine wv rfl (r_assign rfl) ?_
      refine wv rfl (r_assign rfl) ?_
      refine wv rfl (r_assign rfl) ?_
      refine wl_nil ?_
      refine sq_n ?_
      refine wc_ret ?_
      obtain rfl := Option.some.inj hx
      refine fin_ret [(.int .i64 (el r66 row.toNat)), (.int .i64 (t.length : Int)), (.bool true)] ⟨rfl, rfl, rfl, trivial⟩ ?_
      replace hM : St ⟨w, X, S⟩ [] [rV s_t.v (cSl 1 fI t)] _ := hM.tk 0
      have hM := hM.fewer rsN
      exact ⟨(), rfl, hM.gives⟩

noncomputable def x_impl_RowsDrop (t : List Int) (row : Int) : Option (List DPart × Bool) :=
  Option.bind (x_impl_rowEnds t row) fun r5 => bif !r5.2.2 then (some ([], false)) else (bif decide (r5.2.1 < (t.length : Int)) then (xg (inI (r5.2.1 + 1)) <| xg (inI ((r5.2.1 + 1) - r5.1)) <| Option.bind (x_impl_DropAt (t.length : Int) r5.1 ((r5.2.1 + 1) - r5.1)) fun r37 => some (r37.1, r37.2)) else (bif decide ((0 : Int) < r5.1) then (xg (inI (r5.1 - 1)) <| xg (inI (r5.2.1 - (r5.1 - 1))) <| Option.bind (x_impl_DropAt (t.length : Int) (r5.1 - 1) (r5.2.1 - (r5.1 - 1))) fun r60 => some (r60.1, r60.2)) else (xg (inI (r5.2.1 - r5.1)) <| Option.bind (x_impl_DropAt (t.length : Int) r5.1 (r5.2.1 - r5.1)) fun r76 => some (r76.1, r76.2))))
theorem ct_impl_RowsDrop (w : World) (X S : Bs) (t : List Int) (s_t : Sv) (row : Int) (hS : ∀ b, S b → b < w.heap.size ∧ ¬ X b) (a_t_0 : (cSl 1 fI t).rd S w s_t.v) (oL : Sep [] X w) {r : List DPart × Bool} (hx : x_impl_RowsDrop t row = some r) :
    Ret Try.prog 33 [s_t.v, (.int .i64 row)] w (fun u w' => ∃ y : Sv, u = .tuple #[y.v, (.bool r.2)] ∧ Gives X S w [oC (cSl 3 fDPart r.1) y.v] [] w') := by
  unfold x_impl_RowsDrop at hx
  refine enter Try.func33 rfl Try.ntmps33 (by kernel_rfl) rfl ?_
  have hM := St.enter oL hS
  have hM := hM.addE (r := rV s_t.v (cSl 1 fI t)) a_t_0
  refine wc_seq ?_
  refine wc_region ?_
  refine wv rfl (r_assign rfl) ?_
  refine wv rfl (r_assign rfl) ?_
  refine wl_nil ?_
  refine sq_n ?_
  refine wc_seq ?_
  refine wc_region ?_
  refine wv rfl (r_move rfl) ?_
  refine wv rfl (r_move rfl) ?_
  obtain ⟨r89, h90, hx⟩ := bind_some' hx
  refine w_call rfl rfl (hM.callV fun X S oL hS hR hO => ct_impl_rowEnds _ X S t s_t row hS (hR _ (.head _)) oL h90) ?_
  rintro _ w91 ⟨rfl, hR92⟩
  have hM := hM.call hR92
  refine wv rfl (r_move rfl) ?_
  refine wv rfl (r_extract rfl rfl) ?_
  refine wv rfl (r_extract rfl rfl) ?_
  refine wv rfl (r_extract rfl rfl) ?_
  refine wv rfl (r_assign rfl) ?_
  refine wv rfl (r_assign rfl) ?_
  refine wv rfl (r_assign rfl) ?_
  refine wl_nil ?_
  refine sq_n ?_
  refine wc_seq ?_
  refine wc_block ?_
  refine wc_seq ?_
  refine wc_region ?_
  refine wv rfl (r_move rfl) ?_
  refine wv rfl (r_not rfl) ?_
  refine wv rfl (r_assign rfl) ?_
  refine wl_nil ?_
  refine sq_n ?_
  refine wc_cond rfl (fun hc103 => ?_) (fun hc103 => ?_)
  · replace hx := xif_t hc103 hx
    refine wc_seq ?_
    refine wc_region ?_
    refine wv rfl (r_assign rfl) ?_
    refine wv rfl (r_assign rfl) ?_
    refine wl_nil ?_
    refine sq_n ?_
    refine wc_ret ?_
    refine bk_ret ?_
    refine sq_ret ?_
    obtain rfl := Option.some.inj hx
    have hM := hM.nil0 (T := DPart) 3 fDPart
    refine fin_ret [nS.v, (.bool false)] ⟨rfl, rfl, trivial⟩ ?_
    replace hM : St ⟨w, X, S⟩ [oC (cSl 3 fDPart ([] : List DPart)) nS.v] [rV s_t.v (cSl 1 fI t)] _ := hM.tk 1
    have hM := hM.fewer rsN
    exact ⟨nS, rfl, hM.gives⟩
  · replace hx := xif_f hc103 hx
    refine wc_seq ?_
    refine wc_region ?_
    refine wv rfl (r_move rfl) ?_
    refine wv rfl (r_move rfl) ?_
    refine wv rfl (r_lenC Try.underlying24 rfl (hM.seeR (.head _))) ?_
    refine wv rfl (r_lss rfl rfl) ?_
    refine wv rfl (r_assign rfl) ?_
    refine wl_nil ?_
    refine sq_n ?_
    refine wc_cond rfl (fun hc112 => ?_) (fun hc112 => ?_)
    · replace hx := xif_t hc112 hx
      refine wc_region ?_
      refine wv rfl (r_move rfl) ?_
      obtain ⟨hg115, hx⟩ := xg_some hx
      refine wv rfl (r_add rfl rfl hg115) ?_
      refine wv rfl (r_assign rfl) ?_
      refine wl_nil ?_
      refine bk_n ?_
      refine sq_n ?_
      refine wc_seq ?_
      refine wc_region ?_
      refine wv rfl (r_move rfl) ?_
      refine wv rfl (r_lenC Try.underlying24 rfl (hM.seeR (.head _))) ?_
      refine wv rfl (r_move rfl) ?_
      refine wv rfl (r_move rfl) ?_
      refine wv rfl (r_move rfl) ?_
      obtain ⟨hg123, hx⟩ := xg_some hx
      refine wv rfl (r_sub rfl rfl hg123) ?_
      obtain ⟨r124, h125, hx⟩ := bind_some' hx
      refine w_call rfl rfl (hM.callO (l := []) fun X S oL hS hR hO => ct_impl_DropAt _ X S (t.length : Int) r89.1 ((r89.2.1 + 1) - r89.1) hS  oL h125) ?_
      rintro _ w126 ⟨s127, rfl, hM⟩
      replace hM : St ⟨w, X, S⟩ [oC (cSl 3 fDPart r124.1) s127.v] [rV s_t.v (cSl 1 fI t)] _ := hM
      refine wv rfl (r_extract rfl rfl) ?_
      refine wv rfl (r_extract rfl rfl) ?_
      refine wv rfl (r_assign rfl) ?_
      refine wv rfl (r_assign rfl) ?_
      refine wl_nil ?_
      refine sq_n ?_
      refine wc_ret ?_
      obtain rfl := Option.some.inj hx
      refine fin_ret [s127.v, (.bool r124.2)] ⟨rfl, rfl, trivial⟩ ?_
      replace hM : St ⟨w, X, S⟩ [oC (cSl 3 fDPart r124.1) s127.v] [rV s_t.v (cSl 1 fI t)] _ := hM.tk 1
      have hM := hM.fewer rsN
      exact ⟨s127, rfl, hM.gives⟩
    · replace hx := xif_f hc112 hx
      refine wc_seq ?_
      refine wc_region ?_
      refine wv rfl (r_move rfl) ?_
      refine wv rfl (r_gtr rfl rfl) ?_
      refine wv rfl (r_assign rfl) ?_
      refine wl_nil ?_
      refine sq_n ?_
      refine wc_cond rfl (fun hc136 => ?_) (fun hc136 => ?_)
      · replace hx := xif_t hc136 hx
        refine wc_region ?_
        refine wv rfl (r_move rfl) ?_
        obtain ⟨hg139, hx⟩ := xg_some hx
        refine wv rfl (r_sub rfl rfl hg139) ?_
        refine wv rfl (r_assign rfl) ?_
        refine wl_nil ?_
        refine bk_n ?_
        refine sq_n ?_
        refine wc_seq ?_
        refine wc_region ?_
        refine wv rfl (r_move rfl) ?_
        refine wv rfl (r_lenC Try.underlying24 rfl (hM.seeR (.head _))) ?_
        refine wv rfl (r_move rfl) ?_
        refine wv rfl (r_move rfl) ?_
        refine wv rfl (r_move rfl) ?_
        obtain ⟨hg147, hx⟩ := xg_some hx
        refine wv rfl (r_sub rfl rfl hg147) ?_
        obtain ⟨r148, h149, hx⟩ := bind_some' hx
        refine w_call rfl rfl (hM.callO (l := []) fun X S oL hS hR hO => ct_impl_DropAt _ X S (t.length : Int) (r89.1 - 1) (r89.2.1 - (r89.1 - 1)) hS  oL h149) ?_
        rintro _ w150 ⟨s151, rfl, hM⟩
        replace hM : St ⟨w, X, S⟩ [oC (cSl 3 fDPart r148.1) s151.v] [rV s_t.v (cSl 1 fI t)] _ := hM
        refine wv rfl (r_extract rfl rfl) ?_
        refine wv rfl (r_extract rfl rfl) ?_
        refine wv rfl (r_assign rfl) ?_
        refine wv rfl (r_assign rfl) ?_
        refine wl_nil ?_
        refine sq_n ?_
        refine wc_ret ?_
        obtain rfl := Option.some.inj hx
        refine fin_ret [s151.v, (.bool r148.2)] ⟨rfl, rfl, trivial⟩ ?_
        replace hM : St ⟨w, X, S⟩ [oC (cSl 3 fDPart r148.1) s151.v] [rV s_t.v (cSl 1 fI t)] _ := hM.tk 1
        have hM := hM.fewer rsN
        exact ⟨s151, rfl, hM.gives⟩
      · replace hx := xif_f hc136 hx
        refine wc_skip ?_
        refine bk_n ?_
        refine sq_n ?_
        refine wc_seq ?_
        refine wc_region ?_
        refine wv rfl (r_move rfl) ?_
        refine wv rfl (r_lenC Try.underlying24 rfl (hM.seeR (.head _))) ?_
        refine wv rfl (r_move rfl) ?_
        refine wv rfl (r_move rfl) ?_
        refine wv rfl (r_move rfl) ?_
        obtain ⟨hg163, hx⟩ := xg_some hx
        refine wv rfl (r_sub rfl rfl hg163) ?_
        obtain ⟨r164, h165, hx⟩ := bind_some' hx
        refine w_call rfl rfl (hM.callO (l := []) fun X S oL hS hR hO => ct_impl_DropAt _ X S (t.length : Int) r89.1 (r89.2.1 - r89.1) hS  oL h165) ?_
        rintro _ w166 ⟨s167, rfl, hM⟩
        replace hM : St ⟨w, X, S⟩ [oC (cSl 3 fDPart r164.1) s167.v] [rV s_t.v (cSl 1 fI t)] _ := hM
        refine wv rfl (r_extract rfl rfl) ?_
        refine wv rfl (r_extract rfl rfl) ?_
        refine wv rfl (r_assign rfl) ?_
        refine wv rfl (r_assign rfl) ?_
        refine wl_nil ?_
        refine sq_n ?_
        refine wc_ret ?_
        obtain rfl := Option.some.inj hx
        refine fin_ret [s167.v, (.bool r164.2)] ⟨rfl, rfl, trivial⟩ ?_
        replace hM : St ⟨w, X, S⟩ [oC (cSl 3 fDPart r164.1) s167.v] [rV s_t.v (cSl 1 fI t)] _ := hM.tk 1
        have hM := hM.fewer rsN
        exact ⟨s167, rfl, hM.gives⟩

noncomputable def x_spec_Rows_b0 (_t : List Int) (k17 : Nat) (x63 : Int) (out18 : List Int) : Option (Lr (List Int) (List Int)) :=
  bif decide (x63 = 10) then (xg (out18.length < 1099511627776) <| some (Lr.go (out18 ++ [(k17 : Int) + 1]))) else (some (Lr.go out18))
noncomputable def x_spec_Rows_f0 (t : List Int) (k17 : Nat) (s64 : List Int) : Option (Lr (List Int) (List Int)) := x_spec_Rows_b0 t k17 (el t k17) s64
noncomputable def x_spec_Rows (t : List Int) : Option (List Int) :=
  Option.bind (x_spec_TextOk t) fun r3 => bif !r3 then (some []) else (Option.bind (eachN (x_spec_Rows_f0 t) (fun (s64 : List Int) => (s64 : List Int)) t.length 0 [0]) fun (y65 : List Int) => some y65)
theorem ct_spec_Rows (w : World) (X S : Bs) (t : List Int) (s_t : Sv) (hS : ∀ b, S b → b < w.heap.size ∧ ¬ X b) (a_t_0 : (cSl 1 fI t).rd S w s_t.v) (oL : Sep [] X w) {r : List Int} (hx : x_spec_Rows t = some r) :
    Ret Try.prog 120 [s_t.v] w (fun u w' => ∃ y : Sv, u = y.v ∧ Gives X S w [oC (cSl 1 fI r) y.v] [] w') := by
  unfold x_spec_Rows at hx
  refine enter Try.func120 rfl Try.ntmps120 (by kernel_rfl) rfl ?_
  have hM := St.enter oL hS
  have hM := hM.addE (r := rV s_t.v (cSl 1 fI t)) a_t_0
  refine wc_seq ?_
  refine wc_region ?_
  refine wv rfl (r_assign rfl) ?_
  refine wl_nil ?_
  refine sq_n ?_
  refine wc_seq ?_
  refine wc_seq ?_
  refine wc_region ?_
  refine wv rfl (r_move rfl) ?_
  obtain ⟨r72, h73, hx⟩ := bind_some' hx
  refine w_call rfl rfl (hM.callV fun X S oL hS hR hO => ct_spec_TextOk _ X S t s_t hS (hR _ (.head _)) oL h73) ?_
  rintro _ w74 ⟨rfl, hR75⟩
  have hM := hM.call hR75
  refine wv rfl (r_not rfl) ?_
  refine wl_nil ?_
  refine sq_n ?_
  refine wc_cond rfl (fun hc77 => ?_) (fun hc77 => ?_)
  · replace hx := xif_t hc77 hx
    refine wc_seq ?_
    refine wc_region ?_
    refine wv rfl (r_assign rfl) ?_
    refine wl_nil ?_
    refine sq_n ?_
    refine wc_ret ?_
    refine sq_ret ?_
    obtain rfl := Option.some.inj hx
    have hM := hM.nil0 (T := Int) 1 fI
    refine fin_ret [nS.v] ⟨rfl, trivial⟩ ?_
    replace hM : St ⟨w, X, S⟩ [oC (cSl 1 fI ([] : List Int)) nS.v] [rV s_t.v (cSl 1 fI t)] _ := hM.tk 1
    have hM := hM.fewer rsN
    exact ⟨nS, rfl, hM.gives⟩
  · replace hx := xif_f hc77 hx
    refine wc_skip ?_
    refine sq_n ?_
    refine wc_seq ?_
    refine wc_region ?_
    refine w_ex rfl (x_lit (f := fI) (own := []) [0] [(.int .i64 0)] 1 Try.underlying24 sz3 (fun _ => rfl) rfl rfl rfl rfl rfl (by kernel_rfl) (fun _ => zP (pV _ rfl) zN) hM ?_); intro s81 w80 hR82 hM
    refine wv rfl (r_assign rfl) ?_
    refine wl_nil ?_
    refine sq_n ?_
    refine wc_seq ?_
    refine wc_seq ?_
    refine wc_region ?_
    refine wv rfl (r_move rfl) ?_
    refine wv rfl (r_lenC Try.underlying24 rfl (hM.seeR (.head _))) ?_
    refine wv rfl (r_move rfl) ?_
    refine wl_nil ?_
    refine sq_n ?_
    refine wc_block ?_
    obtain ⟨y88, hx, hx89⟩ := bind_some' hx
    have hl96 := Cs.le (hM.seeR (.head _))
    refine wc_loop (un fun (m93 : Nat) => un fun (k94 : Nat) => un fun (out90 : List Int) => fun (s92 : Sv) => [(3, s92.v), (10, s_t.v), (11, (.int .i64 (t.length : Int))), (12, (.int .i64 (k94 : Int)))]) (un fun (m93 : Nat) => un fun (k94 : Nat) => un fun (out90 : List Int) => fun (s92 : Sv) w' => St ⟨w, X, S⟩ [oC (cSl 1 fI out90) s92.v] [rV s_t.v (cSl 1 fI t)] w' ∧ eachN _ _ m93 k94 out90 = some y88 ∧ k94 + m93 = t.length) (fun p => p.1) (t.length, 0, [0], s81) ⟨rfl, rfl, rfl, rfl, trivial⟩ ⟨hM, hx, Nat.zero_add _⟩ ?_
    rintro ⟨m93, k94, out90, s92⟩ w97 ⟨hM, hx, hk95⟩
    refine wc_seq ?_
    refine wc_region ?_
    refine wv rfl (r_lss rfl rfl) ?_
    refine wl_nil ?_
    refine sq_n ?_
    refine wc_seq ?_
    refine wc_cond rfl (fun hc99 => ?_) (fun hc99 => ?_)
    · replace hc99 := of_decide_eq_true hc99
      obtain ⟨m100, z101, rfl, hk95, hx, hx102⟩ := eachN_step hx hk95 hc99
      unfold x_spec_Rows_f0 x_spec_Rows_b0 at hx
      try dsimp only at hx
      refine wc_skip ?_
      refine sq_n ?_
      refine wc_seq ?_
      refine wc_block ?_
      refine wc_seq ?_
      refine wc_region ?_
      refine wv rfl (r_move rfl) ?_
      have hi105 : k94 < t.length := by omega
      refine wv rfl (r_ixC Try.underlying24 sz3 rfl rfl (hM.seeR (.head _)) ⟨by omega, hc99⟩) ?_
      refine wv rfl (r_ld Try.underlying3 rfl rfl (Cs.get (i := k94) (j := 0) (hM.seeR (.head _)) (fun _ => rfl) hi105 rfl)) ?_
      refine wv rfl (r_assign rfl) ?_
      refine wv rfl (r_assign rfl) ?_
      refine wl_nil ?_
      refine sq_n ?_
      refine wc_seq ?_
      refine wc_region ?_
      refine wv rfl (r_move rfl) ?_
      refine wv rfl (r_eql rfl rfl) ?_
      refine wl_nil ?_
      refine sq_n ?_
      refine wc_cond rfl (fun hc111 => ?_) (fun hc111 => ?_)
      · replace hx := xif_t hc111 hx
        refine wc_region ?_
        refine wv rfl (r_move rfl) ?_
        refine wv rfl (r_move rfl) ?_
        refine wv rfl (r_add rfl rfl ⟨by omega, by omega⟩) ?_
        obtain ⟨hg118, hx⟩ := xg_some hx
        refine w_push (f := fI) ((k94 : Int) + 1) rfl rfl Try.underlying24 sz3 rfl rfl rfl rfl (fun _ => rfl) hM (fun _ => zP (pV _ rfl) zN) rfl hg118 rfl ?_; intro u116 s117 w115 hM
        refine wv rfl (r_assign rfl) ?_
        refine wl_nil ?_
        refine bk_n ?_
        refine sq_n ?_
        refine wc_region ?_
        refine wv rfl (r_add rfl rfl ⟨by omega, by omega⟩) ?_
        refine wv rfl (r_move rfl) ?_
        refine wl_nil ?_
        obtain rfl := Option.some.inj hx
        exact lp_end (m100, k94 + 1, out90 ++ [(k94 : Int) + 1], s117) (Nat.lt_succ_self _) ⟨rfl, rfl, rfl, rfl, trivial⟩ ⟨hM, hx102, hk95⟩
      · replace hx := xif_f hc111 hx
        refine wc_skip ?_
        refine bk_n ?_
        refine sq_n ?_
        refine wc_region ?_
        refine wv rfl (r_add rfl rfl ⟨by omega, by omega⟩) ?_
        refine wv rfl (r_move rfl) ?_
        refine wl_nil ?_
        obtain rfl := Option.some.inj hx
        exact lp_end (m100, k94 + 1, out90, s92) (Nat.lt_succ_self _) ⟨rfl, rfl, rfl, rfl, trivial⟩ ⟨hM, hx102, hk95⟩
    · replace hc99 := of_decide_eq_false hc99
      obtain rfl := eachN_end hx hk95 hc99
      refine wc_exit ?_
      refine sq_exit ?_
      refine lp1_exit ?_
      replace hx := hx89
      try dsimp only [Sum.elim_inl, Sum.elim_inr] at hx
      refine bk_here ?_
      refine sq_n ?_
      refine wc_seq ?_
      refine wc_region ?_
      refine wv rfl (r_move rfl) ?_
      refine wv rfl (r_assign rfl) ?_
      refine wl_nil ?_
      refine sq_n ?_
      refine wc_ret ?_
      obtain rfl := Option.some.inj hx
      refine fin_ret [s92.v] ⟨rfl, trivial⟩ ?_
      replace hM : St ⟨w, X, S⟩ [oC (cSl 1 fI out90) s92.v] [rV s_t.v (cSl 1 fI t)] _ := hM.tk 1
      have hM := hM.fewer rsN
      exact ⟨s92, rfl, hM.gives⟩

noncomputable def x_spec_l26Ends (t : List Int) (row : Int) : Option (Int × Int × Bool) :=
  Option.bind (x_spec_Rows t) fun r5 => xg (inI ((r5.length : Int) - 1)) <| Option.bind (x_spec_l01In row 0 ((r5.length : Int) - 1)) fun r16 => bif !r16 then (some (0, 0, false)) else (xg (inI ((r5.length : Int) - 1)) <| bif decide (row = ((r5.length : Int) - 1)) then (xg (0 ≤ row ∧ row < (r5.length : Int)) <| some (el r5 row.toNat, (t.length : Int), true)) else (xg (0 ≤ row ∧ row < (r5.length : Int)) <| xg (inI (row + 1)) <| xg (0 ≤ (row + 1) ∧ (row + 1) < (r5.length : Int)) <| xg (inI ((el r5 ((row + 1).toNat)) - 1)) <| some (el r5 row.toNat, (el r5 ((row + 1).toNat)) - 1, true)))
theorem ct_spec_l26Ends (w : World) (X S : Bs) (t : List Int) (s_t : Sv) (row : Int) (hS : ∀ b, S b → b < w.heap.size ∧ ¬ X b) (a_t_0 : (cSl 1 fI t).rd S w s_t.v) (oL : Sep [] X w) {r : Int × Int × Bool} (hx : x_spec_l26Ends t row = some r) :
    Ret Try.prog 71 [s_t.v, (.int .i64 row)] w (fun u w' => ∃ _ : Unit, u = .tuple #[(.int .i64 r.1), (.int .i64 r.2.1), (.bool r.2.2)] ∧ Gives X S w [] [] w') := by
  unfold x_spec_l26Ends at hx
  refine enter Try.func71 rfl Try.ntmps71 (by kernel_rfl) rfl ?_
  have hM := St.enter oL hS
  have hM := hM.addE (r := rV s_t.v (cSl 1 fI t)) a_t_0
  refine wc_seq ?_
  refine wc_region ?_
  refine wv rfl (r_assign rfl) ?_
  refine wv rfl (r_assign rfl) ?_
  refine wv rfl (r_assign rfl) ?_
  refine wl_nil ?_
  refine sq_n ?_
  refine wc_seq ?_
  refine wc_region ?_
  refine wv rfl (r_move rfl) ?_
  obtain ⟨r66, h67, hx⟩ := bind_some' hx
  refine w_call rfl rfl (hM.callO (l := []) fun X S oL hS hR hO => ct_spec_Rows _ X S t s_t hS (hR _ (.head _)) oL h67) ?_
  rintro _ w68 ⟨s69, rfl, hM⟩
  replace hM : St ⟨w, X, S⟩ [oC (cSl 1 fI r66) s69.v] [rV s_t.v (cSl 1 fI t)] _ := hM
  refine wv rfl (r_assign rfl) ?_
  refine wl_nil ?_
  refine sq_n ?_
  refine wc_seq ?_
  refine wc_seq ?_
  refine wc_region ?_
  refine wv rfl (r_move rfl) ?_
  refine wv rfl (r_move rfl) ?_
  refine wv rfl (r_lenC Try.underlying24 rfl (hM.seeO (.head _))) ?_
  obtain ⟨hg76, hx⟩ := xg_some hx
  refine wv rfl (r_sub rfl rfl hg76) ?_
  obtain ⟨r77, h78, hx⟩ := bind_some' hx
  refine w_call rfl rfl (hM.callV fun X S oL hS hR hO => ct_spec_l01In _ X S row (0 : Int) ((r66.length : Int) - 1) hS  oL h78) ?_
  rintro _ w79 ⟨rfl, hR80⟩
  have hM := hM.call hR80
  refine wv rfl (r_not rfl) ?_
  refine wl_nil ?_
  refine sq_n ?_
  refine wc_cond rfl (fun hc82 => ?_) (fun hc82 => ?_)
  · replace hx := xif_t hc82 hx
    refine wc_seq ?_
    refine wc_region ?_
    refine wv rfl (r_assign rfl) ?_
    refine wv rfl (r_assign rfl) ?_
    refine wv rfl (r_assign rfl) ?_
    refine wl_nil ?_
    refine sq_n ?_
    refine wc_ret ?_
    refine sq_ret ?_
    obtain rfl := Option.some.inj hx
    refine fin_ret [(.int .i64 0), (.int .i64 0), (.bool false)] ⟨rfl, rfl, rfl, trivial⟩ ?_
    replace hM : St ⟨w, X, S⟩ [] [rV s_t.v (cSl 1 fI t)] _ := hM.tk 0
    have hM := hM.fewer rsN
    exact ⟨(), rfl, hM.gives⟩
  · replace hx := xif_f hc82 hx
    refine wc_skip ?_
    refine sq_n ?_
    refine wc_seq ?_
    refine wc_seq ?_
    refine wc_region ?_
    refine wv rfl (r_move rfl) ?_
    refine wv rfl (r_move rfl) ?_
    refine wv rfl (r_lenC Try.underlying24 rfl (hM.seeO (.head _))) ?_
    obtain ⟨hg90, hx⟩ := xg_some hx
    refine wv rfl (r_sub rfl rfl hg90) ?_
    refine wv rfl (r_eql rfl rfl) ?_
    refine wl_nil ?_
    refine sq_n ?_
    refine wc_cond rfl (fun hc92 => ?_) (fun hc92 => ?_)
    · replace hx := xif_t hc92 hx
      refine wc_seq ?_
      refine wc_region ?_
      refine wv rfl (r_move rfl) ?_
      refine wv rfl (r_move rfl) ?_
      obtain ⟨hg97, hx⟩ := xg_some hx
      have hi96 : row.toNat < r66.length := by omega
      refine wv rfl (r_ixC Try.underlying24 sz3 rfl rfl (hM.seeO (.head _)) hg97) ?_
      refine wv rfl (r_ld Try.underlying3 rfl rfl (Cs.get (i := row.toNat) (j := 0) (hM.seeO (.head _)) (fun _ => rfl) hi96 rfl)) ?_
      refine wv rfl (r_move rfl) ?_
      refine wv rfl (r_lenC Try.underlying24 rfl (hM.seeR (.head _))) ?_
      refine wv rfl (r_assign rfl) ?_
      refine wv rfl (r_assign rfl) ?_
      refine wv rfl (r_assign rfl) ?_
      refine wl_nil ?_
      refine sq_n ?_
      refine wc_ret ?_
      refine sq_ret ?_
      obtain rfl := Option.some.inj hx
      refine fin_ret [(.int .i64 (el r66 row.toNat)), (.int .i64 (t.length : Int)), (.bool true)] ⟨rfl, rfl, rfl, trivial⟩ ?_
      replace hM : St ⟨w, X, S⟩ [] [rV s_t.v (cSl 1 fI t)] _ := hM.tk 0
      have hM := hM.fewer rsN
      exact ⟨(), rfl, hM.gives⟩
    · replace hx := xif_f hc92 hx
      refine wc_skip ?_
      refine sq_n ?_
      refine wc_seq ?_
      refine wc_draw [(0, 0), (1, 0), (2, 0), (3, 0), (4, 0), (5, 0), (6, 0), (7, 0), (8, 0), (9, 0), (10, 0), (11, 0), (12, 0)] Try_mixed (by kernel_rfl) rfl (by kernel_rfl) rfl ?_
      refine ov rfl (fun w' h' => r_move rfl) ?_
      refine ov rfl (fun w' h' => r_move rfl) ?_
      obtain ⟨hg108, hx⟩ := xg_some hx
      have hi107 : row.toNat < r66.length := by omega
      refine ov rfl (fun w' h' => r_ixC Try.underlying24 sz3 rfl rfl ((hM.call h').seeO (.head _)) hg108) ?_
      refine ov rfl (fun w' h' => r_ld Try.underlying3 rfl rfl (Cs.get (i := row.toNat) (j := 0) ((hM.call h').seeO (.head _)) (fun _ => rfl) hi107 rfl)) ?_
      refine ov rfl (fun w' h' => r_move rfl) ?_
      refine ov rfl (fun w' h' => r_move rfl) ?_
      obtain ⟨hg113, hx⟩ := xg_some hx
      refine ov rfl (fun w' h' => r_add rfl rfl hg113) ?_
      obtain ⟨hg116, hx⟩ := xg_some hx
      have hi115 : ((row + 1).toNat) < r66.length := by omega
      refine ov rfl (fun w' h' => r_ixC Try.underlying24 sz3 rfl rfl ((hM.call h').seeO (.head _)) hg116) ?_
      refine ov rfl (fun w' h' => r_ld Try.underlying3 rfl rfl (Cs.get (i := ((row + 1).toNat)) (j := 0) ((hM.call h').seeO (.head _)) (fun _ => rfl) hi115 rfl)) ?_
      obtain ⟨hg119, hx⟩ := xg_some hx
      refine ov rfl (fun w' h' => r_sub rfl rfl hg119) ?_
      refine ov rfl (fun w' h' => r_assign rfl) ?_
      refine ov rfl (fun w' h' => r_assign rfl) ?_
      refine ov rfl (fun w' h' => r_assign rfl) ?_
      refine o_nil fun w123 hw124 => ?_
      have hM := hM.call hw124
      refine sq_n ?_
      refine wc_ret ?_
      obtain rfl := Option.some.inj hx
      refine fin_ret [(.int .i64 (el r66 row.toNat)), (.int .i64 ((el r66 ((row + 1).toNat)) - 1)), (.bool true)] ⟨rfl, rfl, rfl, trivial⟩ ?_
      replace hM : St ⟨w, X, S⟩ [] [rV s_t.v (cSl 1 fI t)] _ := hM.tk 0
      have hM := hM.fewer rsN
      exact ⟨(), rfl, hM.gives⟩

noncomputable def x_spec_RowsDrop (t : List Int) (row : Int) : Option (List DPart × Bool) :=
  Option.bind (x_spec_l26Ends t row) fun r5 => bif !r5.2.2 then (some ([], false)) else (bif decide (r5.2.1 < (t.length : Int)) then (xg (inI (r5.2.1 + 1)) <| xg (inI ((r5.2.1 + 1) - r5.1)) <| Option.bind (x_spec_DropAt (t.length : Int) r5.1 ((r5.2.1 + 1) - r5.1)) fun r35 => some (r35.1, r35.2)) else (bif decide ((0 : Int) < r5.1) then (xg (inI (r5.1 - 1)) <| xg (inI (r5.2.1 - (r5.1 - 1))) <| Option.bind (x_spec_DropAt (t.length : Int) (r5.1 - 1) (r5.2.1 - (r5.1 - 1))) fun r57 => some (r57.1, r57.2)) else (xg (inI (r5.2.1 - r5.1)) <| Option.bind (x_spec_DropAt (t.length : Int) r5.1 (r5.2.1 - r5.1)) fun r73 => some (r73.1, r73.2))))
theorem ct_spec_RowsDrop (w : World) (X S : Bs) (t : List Int) (s_t : Sv) (row : Int) (hS : ∀ b, S b → b < w.heap.size ∧ ¬ X b) (a_t_0 : (cSl 1 fI t).rd S w s_t.v) (oL : Sep [] X w) {r : List DPart × Bool} (hx : x_spec_RowsDrop t row = some r) :
    Ret Try.prog 32 [s_t.v, (.int .i64 row)] w (fun u w' => ∃ y : Sv, u = .tuple #[y.v, (.bool r.2)] ∧ Gives X S w [oC (cSl 3 fDPart r.1) y.v] [] w') := by
  unfold x_spec_RowsDrop at hx
  refine enter Try.func32 rfl Try.ntmps32 (by kernel_rfl) rfl ?_
  have hM := St.enter oL hS
  have hM := hM.addE (r := rV s_t.v (cSl 1 fI t)) a_t_0
  refine wc_seq ?_
  refine wc_region ?_
  refine wv rfl (r_assign rfl) ?_
  refine wv rfl (r_assign rfl) ?_
  refine wl_nil ?_
  refine sq_n ?_
  refine wc_seq ?_
  refine wc_region ?_
  refine wv rfl (r_move rfl) ?_
  refine wv rfl (r_move rfl) ?_
  obtain ⟨r86, h87, hx⟩ := bind_some' hx
  refine w_call rfl rfl (hM.callV fun X S oL hS hR hO => ct_spec_l26Ends _ X S t s_t row hS (hR _ (.head _)) oL h87) ?_
  rintro _ w88 ⟨rfl, hR89⟩
  have hM := hM.call hR89
  refine wv rfl (r_move rfl) ?_
  refine wv rfl (r_extract rfl rfl) ?_
  refine wv rfl (r_extract rfl rfl) ?_
  refine wv rfl (r_extract rfl rfl) ?_
  refine wv rfl (r_assign rfl) ?_
  refine wv rfl (r_assign rfl) ?_
  refine wv rfl (r_assign rfl) ?_
  refine wl_nil ?_
  refine sq_n ?_
  refine wc_seq ?_
  refine wc_seq ?_
  refine wc_region ?_
  refine wv rfl (r_move rfl) ?_
  refine wv rfl (r_not rfl) ?_
  refine wl_nil ?_
  refine sq_n ?_
  refine wc_cond rfl (fun hc99 => ?_) (fun hc99 => ?_)
  · replace hx := xif_t hc99 hx
    refine wc_seq ?_
    refine wc_region ?_
    refine wv rfl (r_assign rfl) ?_
    refine wv rfl (r_assign rfl) ?_
    refine wl_nil ?_
    refine sq_n ?_
    refine wc_ret ?_
    refine sq_ret ?_
    obtain rfl := Option.some.inj hx
    have hM := hM.nil0 (T := DPart) 3 fDPart
    refine fin_ret [nS.v, (.bool false)] ⟨rfl, rfl, trivial⟩ ?_
    replace hM : St ⟨w, X, S⟩ [oC (cSl 3 fDPart ([] : List DPart)) nS.v] [rV s_t.v (cSl 1 fI t)] _ := hM.tk 1
    have hM := hM.fewer rsN
    exact ⟨nS, rfl, hM.gives⟩
  · replace hx := xif_f hc99 hx
    refine wc_skip ?_
    refine sq_n ?_
    refine wc_seq ?_
    refine wc_seq ?_
    refine wc_region ?_
    refine wv rfl (r_move rfl) ?_
    refine wv rfl (r_move rfl) ?_
    refine wv rfl (r_lenC Try.underlying24 rfl (hM.seeR (.head _))) ?_
    refine wv rfl (r_lss rfl rfl) ?_
    refine wl_nil ?_
    refine sq_n ?_
    refine wc_cond rfl (fun hc107 => ?_) (fun hc107 => ?_)
    · replace hx := xif_t hc107 hx
      refine wc_region ?_
      refine wv rfl (r_move rfl) ?_
      obtain ⟨hg110, hx⟩ := xg_some hx
      refine wv rfl (r_add rfl rfl hg110) ?_
      refine wv rfl (r_assign rfl) ?_
      refine wl_nil ?_
      refine sq_n ?_
      refine wc_seq ?_
      refine wc_region ?_
      refine wv rfl (r_move rfl) ?_
      refine wv rfl (r_lenC Try.underlying24 rfl (hM.seeR (.head _))) ?_
      refine wv rfl (r_move rfl) ?_
      refine wv rfl (r_move rfl) ?_
      refine wv rfl (r_move rfl) ?_
      obtain ⟨hg118, hx⟩ := xg_some hx
      refine wv rfl (r_sub rfl rfl hg118) ?_
      obtain ⟨r119, h120, hx⟩ := bind_some' hx
      refine w_call rfl rfl (hM.callO (l := []) fun X S oL hS hR hO => ct_spec_DropAt _ X S (t.length : Int) r86.1 ((r86.2.1 + 1) - r86.1) hS  oL h120) ?_
      rintro _ w121 ⟨s122, rfl, hM⟩
      replace hM : St ⟨w, X, S⟩ [oC (cSl 3 fDPart r119.1) s122.v] [rV s_t.v (cSl 1 fI t)] _ := hM
      refine wv rfl (r_extract rfl rfl) ?_
      refine wv rfl (r_extract rfl rfl) ?_
      refine wv rfl (r_assign rfl) ?_
      refine wv rfl (r_assign rfl) ?_
      refine wl_nil ?_
      refine sq_n ?_
      refine wc_ret ?_
      obtain rfl := Option.some.inj hx
      refine fin_ret [s122.v, (.bool r119.2)] ⟨rfl, rfl, trivial⟩ ?_
      replace hM : St ⟨w, X, S⟩ [oC (cSl 3 fDPart r119.1) s122.v] [rV s_t.v (cSl 1 fI t)] _ := hM.tk 1
      have hM := hM.fewer rsN
      exact ⟨s122, rfl, hM.gives⟩
    · replace hx := xif_f hc107 hx
      refine wc_seq ?_
      refine wc_region ?_
      refine wv rfl (r_move rfl) ?_
      refine wv rfl (r_gtr rfl rfl) ?_
      refine wl_nil ?_
      refine sq_n ?_
      refine wc_cond rfl (fun hc130 => ?_) (fun hc130 => ?_)
      · replace hx := xif_t hc130 hx
        refine wc_region ?_
        refine wv rfl (r_move rfl) ?_
        obtain ⟨hg133, hx⟩ := xg_some hx
        refine wv rfl (r_sub rfl rfl hg133) ?_
        refine wv rfl (r_assign rfl) ?_
        refine wl_nil ?_
        refine sq_n ?_
        refine wc_seq ?_
        refine wc_region ?_
        refine wv rfl (r_move rfl) ?_
        refine wv rfl (r_lenC Try.underlying24 rfl (hM.seeR (.head _))) ?_
        refine wv rfl (r_move rfl) ?_
        refine wv rfl (r_move rfl) ?_
        refine wv rfl (r_move rfl) ?_
        obtain ⟨hg141, hx⟩ := xg_some hx
        refine wv rfl (r_sub rfl rfl hg141) ?_
        obtain ⟨r142, h143, hx⟩ := bind_some' hx
        refine w_call rfl rfl (hM.callO (l := []) fun X S oL hS hR hO => ct_spec_DropAt _ X S (t.length : Int) (r86.1 - 1) (r86.2.1 - (r86.1 - 1)) hS  oL h143) ?_
        rintro _ w144 ⟨s145, rfl, hM⟩
        replace hM : St ⟨w, X, S⟩ [oC (cSl 3 fDPart r142.1) s145.v] [rV s_t.v (cSl 1 fI t)] _ := hM
        refine wv rfl (r_extract rfl rfl) ?_
        refine wv rfl (r_extract rfl rfl) ?_
        refine wv rfl (r_assign rfl) ?_
        refine wv rfl (r_assign rfl) ?_
        refine wl_nil ?_
        refine sq_n ?_
        refine wc_ret ?_
        obtain rfl := Option.some.inj hx
        refine fin_ret [s145.v, (.bool r142.2)] ⟨rfl, rfl, trivial⟩ ?_
        replace hM : St ⟨w, X, S⟩ [oC (cSl 3 fDPart r142.1) s145.v] [rV s_t.v (cSl 1 fI t)] _ := hM.tk 1
        have hM := hM.fewer rsN
        exact ⟨s145, rfl, hM.gives⟩
      · replace hx := xif_f hc130 hx
        refine wc_skip ?_
        refine sq_n ?_
        refine wc_seq ?_
        refine wc_region ?_
        refine wv rfl (r_move rfl) ?_
        refine wv rfl (r_lenC Try.underlying24 rfl (hM.seeR (.head _))) ?_
        refine wv rfl (r_move rfl) ?_
        refine wv rfl (r_move rfl) ?_
        refine wv rfl (r_move rfl) ?_
        obtain ⟨hg157, hx⟩ := xg_some hx
        refine wv rfl (r_sub rfl rfl hg157) ?_
        obtain ⟨r158, h159, hx⟩ := bind_some' hx
        refine w_call rfl rfl (hM.callO (l := []) fun X S oL hS hR hO => ct_spec_DropAt _ X S (t.length : Int) r86.1 (r86.2.1 - r86.1) hS  oL h159) ?_
        rintro _ w160 ⟨s161, rfl, hM⟩
        replace hM : St ⟨w, X, S⟩ [oC (cSl 3 fDPart r158.1) s161.v] [rV s_t.v (cSl 1 fI t)] _ := hM
        refine wv rfl (r_extract rfl rfl) ?_
        refine wv rfl (r_extract rfl rfl) ?_
        refine wv rfl (r_assign rfl) ?_
        refine wv rfl (r_assign rfl) ?_
        refine wl_nil ?_
        refine sq_n ?_
        refine wc_ret ?_
        obtain rfl := Option.some.inj hx
        refine fin_ret [s161.v, (.bool r158.2)] ⟨rfl, rfl, trivial⟩ ?_
        replace hM : St ⟨w, X, S⟩ [oC (cSl 3 fDPart r158.1) s161.v] [rV s_t.v (cSl 1 fI t)] _ := hM.tk 1
        have hM := hM.fewer rsN
        exact ⟨s161, rfl, hM.gives⟩

noncomputable def x_impl_RowOf_b0 (r33 : List Int) (at_ : Int) (k44 : Int) : Option (Lr Int Int) :=
  xg (0 ≤ k44 ∧ k44 < (r33.length : Int)) <| bif decide (at_ < (el r33 k44.toNat)) then (xg (inI (k44 - 1)) <| some (Lr.go (k44 - 1))) else (some (Lr.out k44))
noncomputable def x_impl_RowOf_f0 (r33 : List Int) (at_ : Int) (s69 : Int) : Option (Lr Int Int) := x_impl_RowOf_b0 r33 at_ s69
noncomputable def x_impl_RowOf (t : List Int) (at_ : Int) : Option (Int × Int × Bool) :=
  Option.bind (x_impl_TextOk t) fun r5 => Option.bind (bif !r5 then (some true) else (Option.bind (x_impl_within at_ 0 (t.length : Int)) fun r24 => some (!r24))) fun c11 => bif c11 then (some (0, 0, false)) else (Option.bind (x_impl_Rows t) fun r33 => xg (inI ((r33.length : Int) - 1)) <| Option.bind (iter (x_impl_RowOf_f0 r33 at_) ((r33.length : Int) - 1)) fun (y70 : Int) => xg (0 ≤ y70 ∧ y70 < (r33.length : Int)) <| xg (inI (at_ - (el r33 y70.toNat))) <| some (y70, at_ - (el r33 y70.toNat), true))
theorem ct_impl_RowOf (w : World) (X S : Bs) (t : List Int) (s_t : Sv) (at_ : Int) (hS : ∀ b, S b → b < w.heap.size ∧ ¬ X b) (a_t_0 : (cSl 1 fI t).rd S w s_t.v) (oL : Sep [] X w) {r : Int × Int × Bool} (hx : x_impl_RowOf t at_ = some r) :
    Ret Try.prog 91 [s_t.v, (.int .i64 at_)] w (fun u w' => ∃ _ : Unit, u = .tuple #[(.int .i64 r.1), (.int .i64 r.2.1), (.bool r.2.2)] ∧ Gives X S w [] [] w') := by
  unfold x_impl_RowOf at hx
  refine enter Try.func91 rfl Try.ntmps91 (by kernel_rfl) rfl ?_
  have hM := St.enter oL hS
  have hM := hM.addE (r := rV s_t.v (cSl 1 fI t)) a_t_0
  refine wc_seq ?_
  refine wc_region ?_
  refine wv rfl (r_assign rfl) ?_
  refine wv rfl (r_assign rfl) ?_
  refine wv rfl (r_assign rfl) ?_
  refine wl_nil ?_
  refine sq_n ?_
  refine wc_seq ?_
  refine wc_seq ?_
  refine wc_region ?_
  refine wv rfl (r_move rfl) ?_
  obtain ⟨r90, h91, hx⟩ := bind_some' hx
  refine w_call rfl rfl (hM.callV fun X S oL hS hR hO => ct_impl_TextOk _ X S t s_t hS (hR _ (.head _)) oL h91) ?_
  rintro _ w92 ⟨rfl, hR93⟩
  have hM := hM.call hR93
  refine wv rfl (r_not rfl) ?_
  refine wv rfl (r_move rfl) ?_
  obtain ⟨c96, hx, hx106⟩ := bind_some' hx
  refine wl_mid 6 (fun _ : Unit => [(18, (.bool c96)), (0, s_t.v), (1, (.int .i64 at_))]) (fun _ w' => St ⟨w, X, S⟩ [] [rV s_t.v (cSl 1 fI t)] w') ?_ ?_
  · rcases Bool.eq_false_or_eq_true (!r90) with hg97 | hg97
    · replace hx := xif_t hg97 hx
      refine gs rfl (isB_no hg97) rfl ?_
      refine gs rfl (isB_no hg97) rfl ?_
      refine gs rfl (isB_no hg97) rfl ?_
      refine gs rfl (isB_no hg97) rfl ?_
      refine gs rfl (isB_no hg97) rfl ?_
      refine wv rfl (p_t rfl hg97 rfl) ?_
      obtain rfl := Option.some.inj hx
      exact mid_nil () ⟨rfl, rfl, rfl, trivial⟩ hM
    · replace hx := xif_f hg97 hx
      refine gv rfl hg97 rfl (r_move rfl) ?_
      refine gv rfl hg97 rfl (r_move rfl) ?_
      refine gv rfl hg97 rfl (r_lenC Try.underlying24 rfl (hM.seeR (.head _))) ?_
      obtain ⟨r110, h111, hx⟩ := bind_some' hx
      refine gc rfl hg97 rfl rfl (hM.callV fun X S oL hS hR hO => ct_impl_within _ X S at_ (0 : Int) (t.length : Int) hS  oL h111) ?_
      rintro _ w112 ⟨rfl, hR113⟩
      have hM := hM.call hR113
      refine gv rfl hg97 rfl (r_not rfl) ?_
      refine wv rfl (p_f rfl hg97 rfl) ?_
      obtain rfl := Option.some.inj hx
      exact mid_nil () ⟨rfl, rfl, rfl, trivial⟩ hM
  rintro _ w115 hM
  replace hx := hx106
  refine wl_nil ?_
  refine sq_n ?_
  refine wc_cond rfl (fun hc116 => ?_) (fun hc116 => ?_)
  · replace hx := xif_t hc116 hx
    refine wc_seq ?_
    refine wc_region ?_
    refine wv rfl (r_assign rfl) ?_
    refine wv rfl (r_assign rfl) ?_
    refine wv rfl (r_assign rfl) ?_
    refine wl_nil ?_
    refine sq_n ?_
    refine wc_ret ?_
    refine sq_ret ?_
    obtain rfl := Option.some.inj hx
    refine fin_ret [(.int .i64 0), (.int .i64 0), (.bool false)] ⟨rfl, rfl, rfl, trivial⟩ ?_
    replace hM : St ⟨w, X, S⟩ [] [rV s_t.v (cSl 1 fI t)] _ := hM.tk 0
    have hM := hM.fewer rsN
    exact ⟨(), rfl, hM.gives⟩
  · replace hx := xif_f hc116 hx
    refine wc_skip ?_
    refine sq_n ?_
    refine wc_seq ?_
    refine wc_region ?_
    refine wv rfl (r_move rfl) ?_
    obtain ⟨r121, h122, hx⟩ := bind_some' hx
    refine w_call rfl rfl (hM.callO (l := []) fun X S oL hS hR hO => ct_impl_Rows _ X S t s_t hS (hR _ (.head _)) oL h122) ?_
    rintro _ w123 ⟨s124, rfl, hM⟩
    replace hM : St ⟨w, X, S⟩ [oC (cSl 1 fI r121) s124.v] [rV s_t.v (cSl 1 fI t)] _ := hM
    refine wv rfl (r_assign rfl) ?_
    refine wl_nil ?_
    refine sq_n ?_
    refine wc_seq ?_
    refine wc_region ?_
    refine wv rfl (r_move rfl) ?_
    refine wv rfl (r_lenC Try.underlying24 rfl (hM.seeO (.head _))) ?_
    obtain ⟨hg130, hx⟩ := xg_some hx
    refine wv rfl (r_sub rfl rfl hg130) ?_
    refine wv rfl (r_assign rfl) ?_
    refine wl_nil ?_
    refine sq_n ?_
    refine wc_seq ?_
    refine wc_block ?_
    obtain ⟨y132, hx, hx133⟩ := bind_some' hx
    have hM := hM.fewer rsN
    replace hM : St ⟨w, X, S⟩ [oC (cSl 1 fI r121) s124.v] [] _ := hM
    obtain ⟨m137, hx⟩ := iter_run hx
    refine wc_loop (un fun (m135 : Nat) => fun (k134 : Int) => [(1, (.int .i64 at_)), (7, s124.v), (8, (.int .i64 k134))]) (un fun (m135 : Nat) => fun (k134 : Int) w' => St ⟨w, X, S⟩ [oC (cSl 1 fI r121) s124.v] [] w' ∧ iterN _ m135 k134 = some y132) (fun p => p.1) (m137, (r121.length : Int) - 1) ⟨rfl, rfl, rfl, trivial⟩ ⟨hM, hx⟩ ?_
    rintro ⟨m135, k134⟩ w138 ⟨hM, hx⟩
    obtain ⟨m139, z140, rfl, hx, hx141⟩ := iterN_step hx
    unfold x_impl_RowOf_f0 x_impl_RowOf_b0 at hx
    try dsimp only at hx
    refine wc_seq ?_
    refine wc_seq ?_
    refine wc_region ?_
    refine wv rfl (r_move rfl) ?_
    refine wv rfl (r_move rfl) ?_
    obtain ⟨hg146, hx⟩ := xg_some hx
    have hi145 : k134.toNat < r121.length := by omega
    refine wv rfl (r_ixC Try.underlying24 sz3 rfl rfl (hM.seeO (.head _)) hg146) ?_
    refine wv rfl (r_ld Try.underlying3 rfl rfl (Cs.get (i := k134.toNat) (j := 0) (hM.seeO (.head _)) (fun _ => rfl) hi145 rfl)) ?_
    refine wv rfl (r_move rfl) ?_
    refine wv rfl (r_gtr rfl rfl) ?_
    refine wl_nil ?_
    refine sq_n ?_
    refine wc_cond rfl (fun hc150 => ?_) (fun hc150 => ?_)
    · replace hx := xif_t hc150 hx
      refine wc_skip ?_
      refine sq_n ?_
      refine wc_block ?_
      refine wc_region ?_
      refine wv rfl (r_move rfl) ?_
      obtain ⟨hg153, hx⟩ := xg_some hx
      refine wv rfl (r_sub rfl rfl hg153) ?_
      refine wv rfl (r_assign rfl) ?_
      refine wl_nil ?_
      refine bk_n ?_
      obtain rfl := Option.some.inj hx
      exact lp_end (m139, k134 - 1) (Nat.lt_succ_self _) ⟨rfl, rfl, rfl, trivial⟩ ⟨hM, hx141⟩
    · replace hx := xif_f hc150 hx
      refine wc_exit ?_
      refine sq_exit ?_
      refine lp1_exit ?_
      obtain rfl := Option.some.inj hx
      obtain rfl := Option.some.inj hx141
      replace hx := hx133
      try dsimp only [Sum.elim_inl, Sum.elim_inr] at hx
      refine bk_here ?_
      refine sq_n ?_
      refine wc_seq ?_
      refine wc_draw [(0, 0), (1, 0), (2, 0), (3, 0), (4, 0), (5, 0), (6, 0), (7, 0), (8, 0), (9, 0)] Try_mixed (by kernel_rfl) rfl (by kernel_rfl) rfl ?_
      refine ov rfl (fun w' h' => r_move rfl) ?_
      refine ov rfl (fun w' h' => r_move rfl) ?_
      refine ov rfl (fun w' h' => r_move rfl) ?_
      refine ov rfl (fun w' h' => r_move rfl) ?_
      obtain ⟨hg161, hx⟩ := xg_some hx
      have hi160 : k134.toNat < r121.length := by omega
      refine ov rfl (fun w' h' => r_ixC Try.underlying24 sz3 rfl rfl ((hM.call h').seeO (.head _)) hg161) ?_
      refine ov rfl (fun w' h' => r_ld Try.underlying3 rfl rfl (Cs.get (i := k134.toNat) (j := 0) ((hM.call h').seeO (.head _)) (fun _ => rfl) hi160 rfl)) ?_
      obtain ⟨hg164, hx⟩ := xg_some hx
      refine ov rfl (fun w' h' => r_sub rfl rfl hg164) ?_
      refine ov rfl (fun w' h' => r_assign rfl) ?_
      refine ov rfl (fun w' h' => r_assign rfl) ?_
      refine ov rfl (fun w' h' => r_assign rfl) ?_
      refine o_nil fun w168 hw169 => ?_
      have hM := hM.call hw169
      refine sq_n ?_
      refine wc_ret ?_
      obtain rfl := Option.some.inj hx
      refine fin_ret [(.int .i64 k134), (.int .i64 (at_ - (el r121 k134.toNat))), (.bool true)] ⟨rfl, rfl, rfl, trivial⟩ ?_
      replace hM : St ⟨w, X, S⟩ [] [] _ := hM.tk 0
      have hM := hM.fewer rsN
      exact ⟨(), rfl, hM.gives⟩

noncomputable def x_impl_RowMoved (t : List Int) (o : List DPart) (row : Int) : Option (Int × Bool) :=
  Option.bind (x_impl_rowEnds t row) fun r5 => Option.bind (x_impl_Apply o t) fun r18 => Option.bind (bif !r5.2.2 then (some true) else (some (!r18.2))) fun c31 => bif c31 then (some (0, false)) else (Option.bind (x_impl_Shift o r5.1 true) fun r41 => Option.bind (x_impl_RowOf r18.1 r41.1) fun r52 => some (r52.1, true))
theorem ct_impl_RowMoved (w : World) (X S : Bs) (t : List Int) (s_t : Sv) (o : List DPart) (s_o : Sv) (row : Int) (hS : ∀ b, S b → b < w.heap.size ∧ ¬ X b) (a_t_0 : (cSl 1 fI t).rd S w s_t.v) (a_o_0 : (cSl 3 fDPart o).rd S w s_o.v) (oL : Sep [] X w) {r : Int × Bool} (hx : x_impl_RowMoved t o row = some r) :
    Ret Try.prog 40 [s_t.v, s_o.v, (.int .i64 row)] w (fun u w' => ∃ _ : Unit, u = .tuple #[(.int .i64 r.1), (.bool r.2)] ∧ Gives X S w [] [] w') := by
  unfold x_impl_RowMoved at hx
  refine enter Try.func40 rfl Try.ntmps40 (by kernel_rfl) rfl ?_
  have hM := St.enter oL hS
  have hM := hM.addE (r := rV s_t.v (cSl 1 fI t)) a_t_0
  have hM := hM.addE (r := rV s_o.v (cSl 3 fDPart o)) a_o_0
  refine wc_seq ?_
  refine wc_region ?_
  refine wv rfl (r_assign rfl) ?_
  refine wv rfl (r_assign rfl) ?_
  refine wl_nil ?_
  refine sq_n ?_
  refine wc_seq ?_
  refine wc_region ?_
  refine wv rfl (r_move rfl) ?_
  refine wv rfl (r_move rfl) ?_
  obtain ⟨r70, h71, hx⟩ := bind_some' hx
  refine w_call rfl rfl (hM.callV fun X S oL hS hR hO => ct_impl_rowEnds _ X S t s_t row hS (hR _ (.tail _ (.head _))) oL h71) ?_
  rintro _ w72 ⟨rfl, hR73⟩
  have hM := hM.call hR73
  refine wv rfl (r_move rfl) ?_
  refine wv rfl (r_extract rfl rfl) ?_
  refine wv rfl (r_extract rfl rfl) ?_
  refine wv rfl (r_extract rfl rfl) ?_
  refine wv rfl (r_assign rfl) ?_
  refine wv rfl (r_assign rfl) ?_
  refine wv rfl (r_assign rfl) ?_
  refine wl_nil ?_
  refine sq_n ?_
  refine wc_seq ?_
  refine wc_region ?_
  refine wv rfl (r_move rfl) ?_
  refine wv rfl (r_move rfl) ?_
  obtain ⟨r83, h84, hx⟩ := bind_some' hx
  refine w_call rfl rfl (hM.callO (l := []) fun X S oL hS hR hO => ct_impl_Apply _ X S o s_o t s_t hS (hR _ (.head _)) (hR _ (.tail _ (.head _))) oL h84) ?_
  rintro _ w85 ⟨s86, rfl, hM⟩
  replace hM : St ⟨w, X, S⟩ [oC (cSl 1 fI r83.1) s86.v] [rV s_o.v (cSl 3 fDPart o), rV s_t.v (cSl 1 fI t)] _ := hM
  refine wv rfl (r_move rfl) ?_
  refine wv rfl (r_extract rfl rfl) ?_
  refine wv rfl (r_extract rfl rfl) ?_
  refine wv rfl (r_assign rfl) ?_
  refine wv rfl (r_assign rfl) ?_
  refine wl_nil ?_
  refine sq_n ?_
  refine wc_seq ?_
  refine wc_seq ?_
  refine wc_region ?_
  refine wv rfl (r_move rfl) ?_
  refine wv rfl (r_not rfl) ?_
  refine wv rfl (r_move rfl) ?_
  obtain ⟨c96, hx, hx100⟩ := bind_some' hx
  refine wl_mid 3 (fun _ : Unit => [(36, (.bool c96)), (1, s_o.v), (8, (.int .i64 r70.1)), (11, s86.v)]) (fun _ w' => St ⟨w, X, S⟩ [oC (cSl 1 fI r83.1) s86.v] [rV s_o.v (cSl 3 fDPart o), rV s_t.v (cSl 1 fI t)] w') ?_ ?_
  · rcases Bool.eq_false_or_eq_true (!r70.2.2) with hg97 | hg97
    · replace hx := xif_t hg97 hx
      refine gs rfl (isB_no hg97) rfl ?_
      refine gs rfl (isB_no hg97) rfl ?_
      refine wv rfl (p_t rfl hg97 rfl) ?_
      obtain rfl := Option.some.inj hx
      exact mid_nil () ⟨rfl, rfl, rfl, rfl, trivial⟩ hM
    · replace hx := xif_f hg97 hx
      refine gv rfl hg97 rfl (r_move rfl) ?_
      refine gv rfl hg97 rfl (r_not rfl) ?_
      refine wv rfl (p_f rfl hg97 rfl) ?_
      obtain rfl := Option.some.inj hx
      exact mid_nil () ⟨rfl, rfl, rfl, rfl, trivial⟩ hM
  rintro _ w103 hM
  replace hx := hx100
  refine wl_nil ?_
  refine sq_n ?_
  refine wc_cond rfl (fun hc104 => ?_) (fun hc104 => ?_)
  · replace hx := xif_t hc104 hx
    refine wc_seq ?_
    refine wc_region ?_
    refine wv rfl (r_assign rfl) ?_
    refine wv rfl (r_assign rfl) ?_
    refine wl_nil ?_
    refine sq_n ?_
    refine wc_ret ?_
    refine sq_ret ?_
    obtain rfl := Option.some.inj hx
    refine fin_ret [(.int .i64 0), (.bool false)] ⟨rfl, rfl, trivial⟩ ?_
    replace hM : St ⟨w, X, S⟩ [] [rV s_o.v (cSl 3 fDPart o), rV s_t.v (cSl 1 fI t)] _ := hM.tk 0
    have hM := hM.fewer rsN
    exact ⟨(), rfl, hM.gives⟩
  · replace hx := xif_f hc104 hx
    refine wc_skip ?_
    refine sq_n ?_
    refine wc_seq ?_
    refine wc_region ?_
    refine wv rfl (r_move rfl) ?_
    refine wv rfl (r_move rfl) ?_
    obtain ⟨r109, h110, hx⟩ := bind_some' hx
    refine w_call rfl rfl (hM.callV fun X S oL hS hR hO => ct_impl_Shift _ X S o s_o r70.1 true hS (hR _ (.head _)) oL h110) ?_
    rintro _ w111 ⟨rfl, hR112⟩
    have hM := hM.call hR112
    refine wv rfl (r_move rfl) ?_
    refine wv rfl (r_extract rfl rfl) ?_
    refine wv rfl (r_extract rfl rfl) ?_
    refine wv rfl (r_assign rfl) ?_
    refine wv rfl (r_assign rfl) ?_
    refine wl_nil ?_
    refine sq_n ?_
    refine wc_seq ?_
    refine wc_region ?_
    refine wv rfl (r_move rfl) ?_
    refine wv rfl (r_move rfl) ?_
    obtain ⟨r120, h121, hx⟩ := bind_some' hx
    refine w_call rfl rfl (hM.callV fun X S oL hS hR hO => ct_impl_RowOf _ X S r83.1 s86 r109.1 hS (seeA hO (.head _)) oL h121) ?_
    rintro _ w122 ⟨rfl, hR123⟩
    have hM := hM.call hR123
    refine wv rfl (r_move rfl) ?_
    refine wv rfl (r_extract rfl rfl) ?_
    refine wv rfl (r_extract rfl rfl) ?_
    refine wv rfl (r_extract rfl rfl) ?_
    refine wv rfl (r_assign rfl) ?_
    refine wv rfl (r_assign rfl) ?_
    refine wv rfl (r_assign rfl) ?_
    refine wl_nil ?_
    refine sq_n ?_
    refine wc_seq ?_
    refine wc_region ?_
    refine wv rfl (r_move rfl) ?_
    refine wv rfl (r_assign rfl) ?_
    refine wv rfl (r_assign rfl) ?_
    refine wl_nil ?_
    refine sq_n ?_
    refine wc_ret ?_
    obtain rfl := Option.some.inj hx
    refine fin_ret [(.int .i64 r120.1), (.bool true)] ⟨rfl, rfl, trivial⟩ ?_
    replace hM : St ⟨w, X, S⟩ [] [rV s_o.v (cSl 3 fDPart o), rV s_t.v (cSl 1 fI t)] _ := hM.tk 0
    have hM := hM.fewer rsN
    exact ⟨(), rfl, hM.gives⟩

noncomputable def x_spec_RowOf_b0 (r5 : List Int) (at_ : Int) (k41 : Int) : Option (Lr Int Int) :=
  xg (0 ≤ k41 ∧ k41 < (r5.length : Int)) <| bif decide (at_ < (el r5 k41.toNat)) then (xg (inI (k41 - 1)) <| some (Lr.go (k41 - 1))) else (some (Lr.out k41))
noncomputable def x_spec_RowOf_f0 (r5 : List Int) (at_ : Int) (s66 : Int) : Option (Lr Int Int) := x_spec_RowOf_b0 r5 at_ s66
noncomputable def x_spec_RowOf (t : List Int) (at_ : Int) : Option (Int × Int × Bool) :=
  Option.bind (x_spec_Rows t) fun r5 => Option.bind (bif decide ((r5.length : Int) = 0) then (some true) else (Option.bind (x_spec_l01In at_ 0 (t.length : Int)) fun r28 => some (!r28))) fun c15 => bif c15 then (some (0, 0, false)) else (xg (inI ((r5.length : Int) - 1)) <| Option.bind (iter (x_spec_RowOf_f0 r5 at_) ((r5.length : Int) - 1)) fun (y67 : Int) => xg (0 ≤ y67 ∧ y67 < (r5.length : Int)) <| xg (inI (at_ - (el r5 y67.toNat))) <| some (y67, at_ - (el r5 y67.toNat), true))
theorem ct_spec_RowOf (w : World) (X S : Bs) (t : List Int) (s_t : Sv) (at_ : Int) (hS : ∀ b, S b → b < w.heap.size ∧ ¬ X b) (a_t_0 : (cSl 1 fI t).rd S w s_t.v) (oL : Sep [] X w) {r : Int × Int × Bool} (hx : x_spec_RowOf t at_ = some r) :
    Ret Try.prog 88 [s_t.v, (.int .i64 at_)] w (fun u w' => ∃ _ : Unit, u = .tuple #[(.int .i64 r.1), (.int .i64 r.2.1), (.bool r.2.2)] ∧ Gives X S w [] [] w') := by
  unfold x_spec_RowOf at hx
  refine enter Try.func88 rfl Try.ntmps88 (by kernel_rfl) rfl ?_
  have hM := St.enter oL hS
  have hM := hM.addE (r := rV s_t.v (cSl 1 fI t)) a_t_0
  refine wc_seq ?_
  refine wc_region ?_
  refine wv rfl (r_assign rfl) ?_
  refine wv rfl (r_assign rfl) ?_
  refine wv rfl (r_assign rfl) ?_
  refine wl_nil ?_
  refine sq_n ?_
  refine wc_seq ?_
  refine wc_region ?_
  refine wv rfl (r_move rfl) ?_
  obtain ⟨r87, h88, hx⟩ := bind_some' hx
  refine w_call rfl rfl (hM.callO (l := []) fun X S oL hS hR hO => ct_spec_Rows _ X S t s_t hS (hR _ (.head _)) oL h88) ?_
  rintro _ w89 ⟨s90, rfl, hM⟩
  replace hM : St ⟨w, X, S⟩ [oC (cSl 1 fI r87) s90.v] [rV s_t.v (cSl 1 fI t)] _ := hM
  refine wv rfl (r_assign rfl) ?_
  refine wl_nil ?_
  refine sq_n ?_
  refine wc_seq ?_
  refine wc_seq ?_
  refine wc_region ?_
  refine wv rfl (r_move rfl) ?_
  refine wv rfl (r_lenC Try.underlying24 rfl (hM.seeO (.head _))) ?_
  refine wv rfl (r_eql rfl rfl) ?_
  refine wv rfl (r_move rfl) ?_
  obtain ⟨c97, hx, hx107⟩ := bind_some' hx
  refine wl_mid 6 (fun _ : Unit => [(20, (.bool c97)), (1, (.int .i64 at_)), (7, s90.v)]) (fun _ w' => St ⟨w, X, S⟩ [oC (cSl 1 fI r87) s90.v] [rV s_t.v (cSl 1 fI t)] w') ?_ ?_
  · rcases Bool.eq_false_or_eq_true (decide ((r87.length : Int) = 0)) with hg98 | hg98
    · replace hx := xif_t hg98 hx
      refine gs rfl (isB_no hg98) rfl ?_
      refine gs rfl (isB_no hg98) rfl ?_
      refine gs rfl (isB_no hg98) rfl ?_
      refine gs rfl (isB_no hg98) rfl ?_
      refine gs rfl (isB_no hg98) rfl ?_
      refine wv rfl (p_t rfl hg98 rfl) ?_
      obtain rfl := Option.some.inj hx
      exact mid_nil () ⟨rfl, rfl, rfl, trivial⟩ hM
    · replace hx := xif_f hg98 hx
      refine gv rfl hg98 rfl (r_move rfl) ?_
      refine gv rfl hg98 rfl (r_move rfl) ?_
      refine gv rfl hg98 rfl (r_lenC Try.underlying24 rfl (hM.seeR (.head _))) ?_
      obtain ⟨r111, h112, hx⟩ := bind_some' hx
      refine gc rfl hg98 rfl rfl (hM.callV fun X S oL hS hR hO => ct_spec_l01In _ X S at_ (0 : Int) (t.length : Int) hS  oL h112) ?_
      rintro _ w113 ⟨rfl, hR114⟩
      have hM := hM.call hR114
      refine gv rfl hg98 rfl (r_not rfl) ?_
      refine wv rfl (p_f rfl hg98 rfl) ?_
      obtain rfl := Option.some.inj hx
      exact mid_nil () ⟨rfl, rfl, rfl, trivial⟩ hM
  rintro _ w116 hM
  replace hx := hx107
  refine wl_nil ?_
  refine sq_n ?_
  refine wc_cond rfl (fun hc117 => ?_) (fun hc117 => ?_)
  · replace hx := xif_t hc117 hx
    refine wc_seq ?_
    refine wc_region ?_
    refine wv rfl (r_assign rfl) ?_
    refine wv rfl (r_assign rfl) ?_
    refine wv rfl (r_assign rfl) ?_
    refine wl_nil ?_
    refine sq_n ?_
    refine wc_ret ?_
    refine sq_ret ?_
    obtain rfl := Option.some.inj hx
    refine fin_ret [(.int .i64 0), (.int .i64 0), (.bool false)] ⟨rfl, rfl, rfl, trivial⟩ ?_
    replace hM : St ⟨w, X, S⟩ [] [rV s_t.v (cSl 1 fI t)] _ := hM.tk 0
    have hM := hM.fewer rsN
    exact ⟨(), rfl, hM.gives⟩
  · replace hx := xif_f hc117 hx
    refine wc_skip ?_
    refine sq_n ?_
    refine wc_seq ?_
    refine wc_region ?_
    refine wv rfl (r_move rfl) ?_
    refine wv rfl (r_lenC Try.underlying24 rfl (hM.seeO (.head _))) ?_
    obtain ⟨hg124, hx⟩ := xg_some hx
    refine wv rfl (r_sub rfl rfl hg124) ?_
    refine wv rfl (r_assign rfl) ?_
    refine wl_nil ?_
    refine sq_n ?_
    refine wc_seq ?_
    refine wc_block ?_
    obtain ⟨y126, hx, hx127⟩ := bind_some' hx
    have hM := hM.fewer rsN
    replace hM : St ⟨w, X, S⟩ [oC (cSl 1 fI r87) s90.v] [] _ := hM
    obtain ⟨m131, hx⟩ := iter_run hx
    refine wc_loop (un fun (m129 : Nat) => fun (k128 : Int) => [(1, (.int .i64 at_)), (7, s90.v), (8, (.int .i64 k128))]) (un fun (m129 : Nat) => fun (k128 : Int) w' => St ⟨w, X, S⟩ [oC (cSl 1 fI r87) s90.v] [] w' ∧ iterN _ m129 k128 = some y126) (fun p => p.1) (m131, (r87.length : Int) - 1) ⟨rfl, rfl, rfl, trivial⟩ ⟨hM, hx⟩ ?_
    rintro ⟨m129, k128⟩ w132 ⟨hM, hx⟩
    obtain ⟨m133, z134, rfl, hx, hx135⟩ := iterN_step hx
    unfold x_spec_RowOf_f0 x_spec_RowOf_b0 at hx
    try dsimp only at hx
    refine wc_seq ?_
    refine wc_seq ?_
    refine wc_region ?_
    refine wv rfl (r_move rfl) ?_
    refine wv rfl (r_move rfl) ?_
    obtain ⟨hg140, hx⟩ := xg_some hx
    have hi139 : k128.toNat < r87.length := by omega
    refine wv rfl (r_ixC Try.underlying24 sz3 rfl rfl (hM.seeO (.head _)) hg140) ?_
    refine wv rfl (r_ld Try.underlying3 rfl rfl (Cs.get (i := k128.toNat) (j := 0) (hM.seeO (.head _)) (fun _ => rfl) hi139 rfl)) ?_
    refine wv rfl (r_move rfl) ?_
    refine wv rfl (r_gtr rfl rfl) ?_
    refine wl_nil ?_
    refine sq_n ?_
    refine wc_cond rfl (fun hc144 => ?_) (fun hc144 => ?_)
    · replace hx := xif_t hc144 hx
      refine wc_skip ?_
      refine sq_n ?_
      refine wc_block ?_
      refine wc_region ?_
      refine wv rfl (r_move rfl) ?_
      obtain ⟨hg147, hx⟩ := xg_some hx
      refine wv rfl (r_sub rfl rfl hg147) ?_
      refine wv rfl (r_assign rfl) ?_
      refine wl_nil ?_
      refine bk_n ?_
      obtain rfl := Option.some.inj hx
      exact lp_end (m133, k128 - 1) (Nat.lt_succ_self _) ⟨rfl, rfl, rfl, trivial⟩ ⟨hM, hx135⟩
    · replace hx := xif_f hc144 hx
      refine wc_exit ?_
      refine sq_exit ?_
      refine lp1_exit ?_
      obtain rfl := Option.some.inj hx
      obtain rfl := Option.some.inj hx135
      replace hx := hx127
      try dsimp only [Sum.elim_inl, Sum.elim_inr] at hx
      refine bk_here ?_
      refine sq_n ?_
      refine wc_seq ?_
      refine wc_draw [(0, 0), (1, 0), (2, 0), (3, 0), (4, 0), (5, 0), (6, 0), (7, 0), (8, 0), (9, 0)] Try_mixed (by kernel_rfl) rfl (by kernel_rfl) rfl ?_
      refine ov rfl (fun w' h' => r_move rfl) ?_
      refine ov rfl (fun w' h' => r_move rfl) ?_
      refine ov rfl (fun w' h' => r_move rfl) ?_
      refine ov rfl (fun w' h' => r_move rfl) ?_
      obtain ⟨hg155, hx⟩ := xg_some hx
      have hi154 : k128.toNat < r87.length := by omega
      refine ov rfl (fun w' h' => r_ixC Try.underlying24 sz3 rfl rfl ((hM.call h').seeO (.head _)) hg155) ?_
      refine ov rfl (fun w' h' => r_ld Try.underlying3 rfl rfl (Cs.get (i := k128.toNat) (j := 0) ((hM.call h').seeO (.head _)) (fun _ => rfl) hi154 rfl)) ?_
      obtain ⟨hg158, hx⟩ := xg_some hx
      refine ov rfl (fun w' h' => r_sub rfl rfl hg158) ?_
      refine ov rfl (fun w' h' => r_assign rfl) ?_
      refine ov rfl (fun w' h' => r_assign rfl) ?_
      refine ov rfl (fun w' h' => r_assign rfl) ?_
      refine o_nil fun w162 hw163 => ?_
      have hM := hM.call hw163
      refine sq_n ?_
      refine wc_ret ?_
      obtain rfl := Option.some.inj hx
      refine fin_ret [(.int .i64 k128), (.int .i64 (at_ - (el r87 k128.toNat))), (.bool true)] ⟨rfl, rfl, rfl, trivial⟩ ?_
      replace hM : St ⟨w, X, S⟩ [] [] _ := hM.tk 0
      have hM := hM.fewer rsN
      exact ⟨(), rfl, hM.gives⟩

noncomputable def x_spec_RowMoved (t : List Int) (o : List DPart) (row : Int) : Option (Int × Bool) :=
  Option.bind (x_spec_Apply o t) fun r5 => Option.bind (x_spec_l26Ends t row) fun r17 => Option.bind (bif !r17.2.2 then (some true) else (some (!r5.2))) fun c31 => bif c31 then (some (0, false)) else (Option.bind (x_spec_Shift o r17.1 true) fun r41 => Option.bind (x_spec_RowOf r5.1 r41.1) fun r52 => some (r52.1, true))
theorem ct_spec_RowMoved (w : World) (X S : Bs) (t : List Int) (s_t : Sv) (o : List DPart) (s_o : Sv) (row : Int) (hS : ∀ b, S b → b < w.heap.size ∧ ¬ X b) (a_t_0 : (cSl 1 fI t).rd S w s_t.v) (a_o_0 : (cSl 3 fDPart o).rd S w s_o.v) (oL : Sep [] X w) {r : Int × Bool} (hx : x_spec_RowMoved t o row = some r) :
    Ret Try.prog 39 [s_t.v, s_o.v, (.int .i64 row)] w (fun u w' => ∃ _ : Unit, u = .tuple #[(.int .i64 r.1), (.bool r.2)] ∧ Gives X S w [] [] w') := by
  unfold x_spec_RowMoved at hx
  refine enter Try.func39 rfl Try.ntmps39 (by kernel_rfl) rfl ?_
  have hM := St.enter oL hS
  have hM := hM.addE (r := rV s_t.v (cSl 1 fI t)) a_t_0
  have hM := hM.addE (r := rV s_o.v (cSl 3 fDPart o)) a_o_0
  refine wc_seq ?_
  refine wc_region ?_
  refine wv rfl (r_assign rfl) ?_
  refine wv rfl (r_assign rfl) ?_
  refine wl_nil ?_
  refine sq_n ?_
  refine wc_seq ?_
  refine wc_region ?_
  refine wv rfl (r_move rfl) ?_
  refine wv rfl (r_move rfl) ?_
  obtain ⟨r70, h71, hx⟩ := bind_some' hx
  refine w_call rfl rfl (hM.callO (l := []) fun X S oL hS hR hO => ct_spec_Apply _ X S o s_o t s_t hS (hR _ (.head _)) (hR _ (.tail _ (.head _))) oL h71) ?_
  rintro _ w72 ⟨s73, rfl, hM⟩
  replace hM : St ⟨w, X, S⟩ [oC (cSl 1 fI r70.1) s73.v] [rV s_o.v (cSl 3 fDPart o), rV s_t.v (cSl 1 fI t)] _ := hM
  refine wv rfl (r_move rfl) ?_
  refine wv rfl (r_extract rfl rfl) ?_
  refine wv rfl (r_extract rfl rfl) ?_
  refine wv rfl (r_assign rfl) ?_
  refine wv rfl (r_assign rfl) ?_
  refine wl_nil ?_
  refine sq_n ?_
  refine wc_seq ?_
  refine wc_region ?_
  refine wv rfl (r_move rfl) ?_
  refine wv rfl (r_move rfl) ?_
  obtain ⟨r82, h83, hx⟩ := bind_some' hx
  refine w_call rfl rfl (hM.callV fun X S oL hS hR hO => ct_spec_l26Ends _ X S t s_t row hS (hR _ (.tail _ (.head _))) oL h83) ?_
  rintro _ w84 ⟨rfl, hR85⟩
  have hM := hM.call hR85
  refine wv rfl (r_move rfl) ?_
  refine wv rfl (r_extract rfl rfl) ?_
  refine wv rfl (r_extract rfl rfl) ?_
  refine wv rfl (r_extract rfl rfl) ?_
  refine wv rfl (r_assign rfl) ?_
  refine wv rfl (r_assign rfl) ?_
  refine wv rfl (r_assign rfl) ?_
  refine wl_nil ?_
  refine sq_n ?_
  refine wc_seq ?_
  refine wc_seq ?_
  refine wc_region ?_
  refine wv rfl (r_move rfl) ?_
  refine wv rfl (r_not rfl) ?_
  refine wv rfl (r_move rfl) ?_
  obtain ⟨c96, hx, hx100⟩ := bind_some' hx
  refine wl_mid 3 (fun _ : Unit => [(36, (.bool c96)), (1, s_o.v), (8, s73.v), (10, (.int .i64 r82.1))]) (fun _ w' => St ⟨w, X, S⟩ [oC (cSl 1 fI r70.1) s73.v] [rV s_o.v (cSl 3 fDPart o), rV s_t.v (cSl 1 fI t)] w') ?_ ?_
  · rcases Bool.eq_false_or_eq_true (!r82.2.2) with hg97 | hg97
    · replace hx := xif_t hg97 hx
      refine gs rfl (isB_no hg97) rfl ?_
      refine gs rfl (isB_no hg97) rfl ?_
      refine wv rfl (p_t rfl hg97 rfl) ?_
      obtain rfl := Option.some.inj hx
      exact mid_nil () ⟨rfl, rfl, rfl, rfl, trivial⟩ hM
    · replace hx := xif_f hg97 hx
      refine gv rfl hg97 rfl (r_move rfl) ?_
      refine gv rfl hg97 rfl (r_not rfl) ?_
      refine wv rfl (p_f rfl hg97 rfl) ?_
      obtain rfl := Option.some.inj hx
      exact mid_nil () ⟨rfl, rfl, rfl, rfl, trivial⟩ hM
  rintro _ w103 hM
  replace hx := hx100
  refine wl_nil ?_
  refine sq_n ?_
  refine wc_cond rfl (fun hc104 => ?_) (fun hc104 => ?_)
  · replace hx := xif_t hc104 hx
    refine wc_seq ?_
    refine wc_region ?_
    refine wv rfl (r_assign rfl) ?_
    refine wv rfl (r_assign rfl) ?_
    refine wl_nil ?_
    refine sq_n ?_
    refine wc_ret ?_
    refine sq_ret ?_
    obtain rfl := Option.some.inj hx
    refine fin_ret [(.int .i64 0), (.bool false)] ⟨rfl, rfl, trivial⟩ ?_
    replace hM : St ⟨w, X, S⟩ [] [rV s_o.v (cSl 3 fDPart o), rV s_t.v (cSl 1 fI t)] _ := hM.tk 0
    have hM := hM.fewer rsN
    exact ⟨(), rfl, hM.gives⟩
  · replace hx := xif_f hc104 hx
    refine wc_skip ?_
    refine sq_n ?_
    refine wc_seq ?_
    refine wc_region ?_
    refine wv rfl (r_move rfl) ?_
    refine wv rfl (r_move rfl) ?_
    obtain ⟨r109, h110, hx⟩ := bind_some' hx
    refine w_call rfl rfl (hM.callV fun X S oL hS hR hO => ct_spec_Shift _ X S o s_o r82.1 true hS (hR _ (.head _)) oL h110) ?_
    rintro _ w111 ⟨rfl, hR112⟩
    have hM := hM.call hR112
    refine wv rfl (r_move rfl) ?_
    refine wv rfl (r_extract rfl rfl) ?_
    refine wv rfl (r_extract rfl rfl) ?_
    refine wv rfl (r_assign rfl) ?_
    refine wv rfl (r_assign rfl) ?_
    refine wl_nil ?_
    refine sq_n ?_
    refine wc_seq ?_
    refine wc_region ?_
    refine wv rfl (r_move rfl) ?_
    refine wv rfl (r_move rfl) ?_
    obtain ⟨r120, h121, hx⟩ := bind_some' hx
    refine w_call rfl rfl (hM.callV fun X S oL hS hR hO => ct_spec_RowOf _ X S r70.1 s73 r109.1 hS (seeA hO (.head _)) oL h121) ?_
    rintro _ w122 ⟨rfl, hR123⟩
    have hM := hM.call hR123
    refine wv rfl (r_move rfl) ?_
    refine wv rfl (r_extract rfl rfl) ?_
    refine wv rfl (r_extract rfl rfl) ?_
    refine wv rfl (r_extract rfl rfl) ?_
    refine wv rfl (r_assign rfl) ?_
    refine wv rfl (r_assign rfl) ?_
    refine wv rfl (r_assign rfl) ?_
    refine wl_nil ?_
    refine sq_n ?_
    refine wc_seq ?_
    refine wc_region ?_
    refine wv rfl (r_move rfl) ?_
    refine wv rfl (r_assign rfl) ?_
    refine wv rfl (r_assign rfl) ?_
    refine wl_nil ?_
    refine sq_n ?_
    refine wc_ret ?_
    obtain rfl := Option.some.inj hx
    refine fin_ret [(.int .i64 r120.1), (.bool true)] ⟨rfl, rfl, trivial⟩ ?_
    replace hM : St ⟨w, X, S⟩ [] [rV s_o.v (cSl 3 fDPart o), rV s_t.v (cSl 1 fI t)] _ := hM.tk 0
    have hM := hM.fewer rsN
    exact ⟨(), rfl, hM.gives⟩

noncomputable def x_impl_MarksOk_b0 (l : List DMark) (n : Int) (k21 : Nat) (x256 : DMark) : Option (Lr Unit (Sum Unit Unit)) :=
  Option.bind (x_impl_within (x256.id) 1 1000000000) fun r153 => Option.bind (bif !r153 then (some true) else (Option.bind (bif decide ((0 : Int) < (k21 : Int)) then (xg (inI ((k21 : Int) - 1)) <| xg (0 ≤ ((k21 : Int) - 1) ∧ ((k21 : Int) - 1) < (l.length : Int)) <| some (decide ((x256.id) ≤ ((el l (((k21 : Int) - 1).toNat)).id)))) else (some false)) fun c192 => some c192)) fun c158 => Option.bind (bif c158 then (some true) else (some (decide ((x256.from_) < 0)))) fun c219 => Option.bind (bif c219 then (some true) else (some (decide ((x256.to) < (x256.from_))))) fun c228 => Option.bind (bif c228 then (some true) else (some (decide (n < (x256.to))))) fun c241 => bif c241 then (some (Lr.out (Sum.inr (())))) else (some (Lr.go ()))
noncomputable def x_impl_MarksOk_f0 (l : List DMark) (n : Int) (k21 : Nat) (_s257 : Unit) : Option (Lr Unit (Sum Unit Unit)) := x_impl_MarksOk_b0 l n k21 (el l k21)
noncomputable def x_impl_MarksOk (l : List DMark) (n : Int) : Option Bool :=
  Option.bind (x_impl_within n 0 200) fun r3 => Option.bind (bif !r3 then (some true) else (some (decide ((12 : Int) < (l.length : Int))))) fun c9 => bif c9 then (some false) else (Option.bind (eachN (x_impl_MarksOk_f0 l n) (fun (_s257 : Unit) => (Sum.inl () : Sum Unit Unit)) l.length 0 ()) fun (y258 : Sum Unit Unit) => Sum.elim (fun _y259 => some true) (fun _y260 => some false) y258)
theorem ct_impl_MarksOk (w : World) (X S : Bs) (l : List DMark) (s_l : Sv) (n : Int) (hS : ∀ b, S b → b < w.heap.size ∧ ¬ X b) (a_l_0 : (cSl 3 fDMark l).rd S w s_l.v) (oL : Sep [] X w) {r : Bool} (hx : x_impl_MarksOk l n = some r) :
    Ret Try.prog 94 [s_l.v, (.int .i64 n)] w (fun u w' => ∃ _ : Unit, u = (.bool r) ∧ Gives X S w [] [] w') := by
  unfold x_impl_MarksOk at hx
  refine enter Try.func94 rfl Try.ntmps94 (by kernel_rfl) rfl ?_
  have hM := St.enter oL hS
  have hM := hM.addE (r := rV s_l.v (cSl 3 fDMark l)) a_l_0
  refine wc_seq ?_
  refine wc_region ?_
  refine wv rfl (r_assign rfl) ?_
  refine wl_nil ?_
  refine sq_n ?_
  refine wc_seq ?_
  refine wc_seq ?_
  refine wc_region ?_
  refine wv rfl (r_move rfl) ?_
  obtain ⟨r264, h265, hx⟩ := bind_some' hx
  refine w_call rfl rfl (hM.callV fun X S oL hS hR hO => ct_impl_within _ X S n (0 : Int) (200 : Int) hS  oL h265) ?_
  rintro _ w266 ⟨rfl, hR267⟩
  have hM := hM.call hR267
  refine wv rfl (r_not rfl) ?_
  refine wv rfl (r_move rfl) ?_
  obtain ⟨c270, hx, hx275⟩ := bind_some' hx
  refine wl_mid 4 (fun _ : Unit => [(14, (.bool c270)), (0, s_l.v), (1, (.int .i64 n))]) (fun _ w' => St ⟨w, X, S⟩ [] [rV s_l.v (cSl 3 fDMark l)] w') ?_ ?_
  · rcases Bool.eq_false_or_eq_true (!r264) with hg271 | hg271
    · replace hx := xif_t hg271 hx
      refine gs rfl (isB_no hg271) rfl ?_
      refine gs rfl (isB_no hg271) rfl ?_
      refine gs rfl (isB_no hg271) rfl ?_
      refine wv rfl (p_t rfl hg271 rfl) ?_
      obtain rfl := Option.some.inj hx
      exact mid_nil () ⟨rfl, rfl, rfl, trivial⟩ hM
    · replace hx := xif_f hg271 hx
      refine gv rfl hg271 rfl (r_move rfl) ?_
      refine gv rfl hg271 rfl (r_lenC Try.underlying57 rfl (hM.seeR (.head _))) ?_
      refine gv rfl hg271 rfl (r_gtr rfl rfl) ?_
      refine wv rfl (p_f rfl hg271 rfl) ?_
      obtain rfl := Option.some.inj hx
      exact mid_nil () ⟨rfl, rfl, rfl, trivial⟩ hM
  rintro _ w279 hM
  replace hx := hx275
  refine wl_nil ?_
  refine sq_n ?_
  refine wc_cond rfl (fun hc280 => ?_) (fun hc280 => ?_)
  · replace hx := xif_t hc280 hx
    refine wc_seq ?_
    refine wc_region ?_
    refine wv rfl (r_assign rfl) ?_
    refine wl_nil ?_
    refine sq_n ?_
    refine wc_ret ?_
    refine sq_ret ?_
    obtain rfl := Option.some.inj hx
    refine fin_ret [(.bool false)] ⟨rfl, trivial⟩ ?_
    replace hM : St ⟨w, X, S⟩ [] [rV s_l.v (cSl 3 fDMark l)] _ := hM.tk 0
    have hM := hM.fewer rsN
    exact ⟨(), rfl, hM.gives⟩
  · replace hx := xif_f hc280 hx
    refine wc_skip ?_
    refine sq_n ?_
    refine wc_seq ?_
    refine wc_seq ?_
    refine wc_region ?_
    refine wv rfl (r_move rfl) ?_
    refine wv rfl (r_lenC Try.underlying57 rfl (hM.seeR (.head _))) ?_
    refine wv rfl (r_move rfl) ?_
    refine wl_nil ?_
    refine sq_n ?_
    refine wc_block ?_
    obtain ⟨y285, hx, hx286⟩ := bind_some' hx
    have hl290 := Cs.le (hM.seeR (.head _))
    refine wc_loop (un fun (m287 : Nat) => fun (k288 : Nat) => [(0, s_l.v), (1, (.int .i64 n)), (15, s_l.v), (16, (.int .i64 (l.length : Int))), (17, (.int .i64 (k288 : Int)))]) (un fun (m287 : Nat) => fun (k288 : Nat) w' => St ⟨w, X, S⟩ [] [rV s_l.v (cSl 3 fDMark l)] w' ∧ eachN _ _ m287 k288 () = some y285 ∧ k288 + m287 = l.length) (fun p => p.1) (l.length, 0) ⟨rfl, rfl, rfl, rfl, rfl, trivial⟩ ⟨hM, hx, Nat.zero_add _⟩ ?_
    rintro ⟨m287, k288⟩ w291 ⟨hM, hx, hk289⟩
    refine wc_seq ?_
    refine wc_region ?_
    refine wv rfl (r_lss rfl rfl) ?_
    refine wl_nil ?_
    refine sq_n ?_
    refine wc_seq ?_
    refine wc_cond rfl (fun hc293 => ?_) (fun hc293 => ?_)
    · replace hc293 := of_decide_eq_true hc293
      obtain ⟨m294, z295, rfl, hk289, hx, hx296⟩ := eachN_step hx hk289 hc293
      unfold x_impl_MarksOk_f0 x_impl_MarksOk_b0 at hx
      try dsimp only at hx
      refine wc_skip ?_
      refine sq_n ?_
      refine wc_seq ?_
      refine wc_block ?_
      refine wc_seq ?_
      refine wc_region ?_
      refine wv rfl (r_move rfl) ?_
      have hi299 : k288 < l.length := by omega
      refine wv rfl (r_ixC Try.underlying57 sz98 rfl rfl (hM.seeR (.head _)) ⟨by omega, hc293⟩) ?_
      refine wv rfl (r_ldC (o := k288 * 3) Try.underlying98 sz98 rfl (us := [(.int .i64 ((el l k288).id)), (.int .i64 ((el l k288).from_)), (.int .i64 ((el l k288).to))]) rfl (hM.seeR (.head _)) hi299 ⟨(Cs.get (i := k288) (j := 0) (hM.seeR (.head _)) (fun _ => rfl) hi299 rfl), (Cs.get (i := k288) (j := 1) (hM.seeR (.head _)) (fun _ => rfl) hi299 rfl), (Cs.get (i := k288) (j := 2) (hM.seeR (.head _)) (fun _ => rfl) hi299 rfl), trivial⟩) ?_
      refine w_ex rfl (x_alloc sz98 hM ?_); intro b302 w301 hR303 hM
      replace hM : St ⟨w, X, S⟩ [oBox b302 #[(.int .i64 0), (.int .i64 0), (.int .i64 0)] 98] [rV s_l.v (cSl 3 fDMark l)] _ := hM
      refine wv rfl (r_assign rfl) ?_
      refine w_exu (x_stB #[(.int .i64 ((el l k288).id)), (.int .i64 ((el l k288).from_)), (.int .i64 ((el l k288).to))] sz98 rfl rfl rfl rfl rfl rfl hM ?_); intro w306 hM
      refine wl_nil ?_
      refine sq_n ?_
      refine wc_seq ?_
      refine wc_draw [(0, 0), (1, 0), (2, 0), (3, 0), (4, 0), (5, 0), (6, 0), (7, 0), (8, 0), (9, 0), (10, 0), (11, 0), (12, 0), (13, 0), (14, 0), (15, 0), (16, 0), (17, 0), (18, 0), (19, 0), (20, 0), (21, 0), (22, 0), (23, 0), (24, 0), (25, 0), (26, 0), (27, 0), (28, 0), (29, 0), (30, 0), (31, 0), (32, 0), (33, 0), (34, 0), (35, 0), (36, 0)] Try_mixed (by kernel_rfl) rfl (by kernel_rfl) rfl ?_
      refine ov rfl (fun w' h' => r_fld Try.underlying98 rfl rfl sz3 rfl) ?_
      refine ov rfl (fun w' h' => r_ldB Try.underlying3 rfl rfl (hM.call h') (.head _) rfl) ?_
      obtain ⟨r310, h311, hx⟩ := bind_some' hx
      refine oc rfl rfl (fun w' h' => (hM.call h').callV fun X S oL hS hR hO => ct_impl_within _ X S ((el l k288).id) (1 : Int) (1000000000 : Int) hS  oL h311) ?_
      refine ov rfl (fun w' h' => r_not rfl) ?_
      refine ov rfl (fun w' h' => r_move rfl) ?_
      obtain ⟨c315, hx, hx346⟩ := bind_some' hx
      refine wo_mid 14 [(40, (.bool c315)), (0, s_l.v), (1, (.int .i64 n)), (6, (.pointer (some ⟨b302, 0, none⟩))), (15, s_l.v), (16, (.int .i64 (l.length : Int))), (17, (.int .i64 (k288 : Int)))] rfl ?_ ?_
      · rcases Bool.eq_false_or_eq_true (!r310) with hg316 | hg316
        · replace hx := xif_t hg316 hx
          refine ogs rfl (isB_no hg316) rfl ?_
          refine ogs rfl (isB_no hg316) rfl ?_
          refine ogs rfl (isB_no hg316) rfl ?_
          refine ogs rfl rfl rfl ?_
          refine ogs rfl rfl rfl ?_
          refine ogs rfl rfl rfl ?_
          refine ogs rfl rfl rfl ?_
          refine ogs rfl rfl rfl ?_
          refine ogs rfl rfl rfl ?_
          refine ogs rfl rfl rfl ?_
          refine ogs rfl rfl rfl ?_
          refine ogs rfl rfl rfl ?_
          refine ogs rfl (isB_no hg316) rfl ?_
          refine ov rfl (fun w' h' => p_t rfl hg316 rfl) ?_
          obtain rfl := Option.some.inj hx
          exact mid_onil ⟨rfl, rfl, rfl, rfl, rfl, rfl, rfl, trivial⟩
        · replace hx := xif_f hg316 hx
          refine ogv rfl hg316 rfl (fun w' h' => r_move rfl) ?_
          refine ogv rfl hg316 rfl (fun w' h' => r_gtr rfl rfl) ?_
          refine ogv rfl hg316 rfl (fun w' h' => r_move rfl) ?_
          obtain ⟨c350, hx, hx364⟩ := bind_some' hx
          refine wo_mid 10 [(39, (.bool c350)), (0, s_l.v), (1, (.int .i64 n)), (6, (.pointer (some ⟨b302, 0, none⟩))), (15, s_l.v), (16, (.int .i64 (l.length : Int))), (17, (.int .i64 (k288 : Int))), (26, (.bool (!r310))), (27, (.int .i64 (k288 : Int))), (28, (.bool (decide ((0 : Int) < (k288 : Int))))), (29, (.bool (decide ((0 : Int) < (k288 : Int)))))] rfl ?_ ?_
          · rcases Bool.eq_false_or_eq_true (decide ((0 : Int) < (k288 : Int))) with hg351 | hg351
            · replace hx := xif_t hg351 hx
              refine ogv rfl hg351 rfl (fun w' h' => r_move rfl) ?_
              refine ogv rfl hg351 rfl (fun w' h' => r_move rfl) ?_
              obtain ⟨hg368, hx⟩ := xg_some hx
              refine ogv rfl hg351 rfl (fun w' h' => r_sub rfl rfl hg368) ?_
              obtain ⟨hg371, hx⟩ := xg_some hx
              have hi370 : (((k288 : Int) - 1).toNat) < l.length := by omega
              refine ogv rfl hg351 rfl (fun w' h' => r_ixC Try.underlying57 sz98 rfl rfl ((hM.call h').seeR (.head _)) hg371) ?_
              refine ogv rfl hg351 rfl (fun w' h' => r_fldC (i := (((k288 : Int) - 1).toNat)) Try.underlying98 rfl rfl sz3 rfl ((hM.call h').seeR (.head _)) hi370) ?_
              refine ogv rfl hg351 rfl (fun w' h' => r_ld Try.underlying3 rfl rfl (Cs.get (i := (((k288 : Int) - 1).toNat)) (j := 0) ((hM.call h').seeR (.head _)) (fun _ => rfl) hi370 rfl)) ?_
              refine ogv rfl hg351 rfl (fun w' h' => r_fld Try.underlying98 rfl rfl sz3 rfl) ?_
              refine ogv rfl hg351 rfl (fun w' h' => r_ldB Try.underlying3 rfl rfl (hM.call h') (.head _) rfl) ?_
              refine ogv rfl hg351 rfl (fun w' h' => r_geq rfl rfl) ?_
              refine ogv rfl hg316 rfl (fun w' h' => p_t rfl hg351 rfl) ?_
              obtain rfl := Option.some.inj hx
              exact mid_onil ⟨rfl, rfl, rfl, rfl, rfl, rfl, rfl, rfl, rfl, rfl, rfl, trivial⟩
            · replace hx := xif_f hg351 hx
              refine ogs rfl (isB_no hg351) rfl ?_
              refine ogs rfl (isB_no hg351) rfl ?_
              refine ogs rfl (isB_no hg351) rfl ?_
              refine ogs rfl (isB_no hg351) rfl ?_
              refine ogs rfl (isB_no hg351) rfl ?_
              refine ogs rfl (isB_no hg351) rfl ?_
              refine ogs rfl (isB_no hg351) rfl ?_
              refine ogs rfl (isB_no hg351) rfl ?_
              refine ogs rfl (isB_no hg351) rfl ?_
              refine ogv rfl hg316 rfl (fun w' h' => p_f rfl hg351 rfl) ?_
              obtain rfl := Option.some.inj hx
              exact mid_onil ⟨rfl, rfl, rfl, rfl, rfl, rfl, rfl, rfl, rfl, rfl, rfl, trivial⟩
          replace hx := hx364
          refine ov rfl (fun w' h' => p_f rfl hg316 rfl) ?_
          obtain rfl := Option.some.inj hx
          exact mid_onil ⟨rfl, rfl, rfl, rfl, rfl, rfl, rfl, trivial⟩
      replace hx := hx346
      refine ov rfl (fun w' h' => r_move rfl) ?_
      obtain ⟨c378, hx, hx383⟩ := bind_some' hx
      refine wo_mid 4 [(45, (.bool c378)), (0, s_l.v), (1, (.int .i64 n)), (6, (.pointer (some ⟨b302, 0, none⟩))), (15, s_l.v), (16, (.int .i64 (l.length : Int))), (17, (.int .i64 (k288 : Int)))] rfl ?_ ?_
      · rcases Bool.eq_false_or_eq_true c315 with hg379 | hg379
        · replace hx := xif_t hg379 hx
          refine ogs rfl (isB_no hg379) rfl ?_
          refine ogs rfl (isB_no hg379) rfl ?_
          refine ogs rfl (isB_no hg379) rfl ?_
          refine ov rfl (fun w' h' => p_t rfl hg379 rfl) ?_
          obtain rfl := Option.some.inj hx
          exact mid_onil ⟨rfl, rfl, rfl, rfl, rfl, rfl, rfl, trivial⟩
        · replace hx := xif_f hg379 hx
          refine ogv rfl hg379 rfl (fun w' h' => r_fld Try.underlying98 rfl rfl sz3 rfl) ?_
          refine ogv rfl hg379 rfl (fun w' h' => r_ldB Try.underlying3 rfl rfl (hM.call h') (.head _) rfl) ?_
          refine ogv rfl hg379 rfl (fun w' h' => r_lss rfl rfl) ?_
          refine ov rfl (fun w' h' => p_f rfl hg379 rfl) ?_
          obtain rfl := Option.some.inj hx
          exact mid_onil ⟨rfl, rfl, rfl, rfl, rfl, rfl, rfl, trivial⟩
      replace hx := hx383
      refine ov rfl (fun w' h' => r_move rfl) ?_
      obtain ⟨c388, hx, hx395⟩ := bind_some' hx
      refine wo_mid 6 [(52, (.bool c388)), (0, s_l.v), (1, (.int .i64 n)), (6, (.pointer (some ⟨b302, 0, none⟩))), (15, s_l.v), (16, (.int .i64 (l.length : Int))), (17, (.int .i64 (k288 : Int)))] rfl ?_ ?_
      · rcases Bool.eq_false_or_eq_true c378 with hg389 | hg389
        · replace hx := xif_t hg389 hx
          refine ogs rfl (isB_no hg389) rfl ?_
          refine ogs rfl (isB_no hg389) rfl ?_
          refine ogs rfl (isB_no hg389) rfl ?_
          refine ogs rfl (isB_no hg389) rfl ?_
          refine ogs rfl (isB_no hg389) rfl ?_
          refine ov rfl (fun w' h' => p_t rfl hg389 rfl) ?_
          obtain rfl := Option.some.inj hx
          exact mid_onil ⟨rfl, rfl, rfl, rfl, rfl, rfl, rfl, trivial⟩
        · replace hx := xif_f hg389 hx
          refine ogv rfl hg389 rfl (fun w' h' => r_fld Try.underlying98 rfl rfl sz3 rfl) ?_
          refine ogv rfl hg389 rfl (fun w' h' => r_ldB Try.underlying3 rfl rfl (hM.call h') (.head _) rfl) ?_
          refine ogv rfl hg389 rfl (fun w' h' => r_fld Try.underlying98 rfl rfl sz3 rfl) ?_
          refine ogv rfl hg389 rfl (fun w' h' => r_ldB Try.underlying3 rfl rfl (hM.call h') (.head _) rfl) ?_
          refine ogv rfl hg389 rfl (fun w' h' => r_gtr rfl rfl) ?_
          refine ov rfl (fun w' h' => p_f rfl hg389 rfl) ?_
          obtain rfl := Option.some.inj hx
          exact mid_onil ⟨rfl, rfl, rfl, rfl, rfl, rfl, rfl, trivial⟩
      replace hx := hx395
      refine ov rfl (fun w' h' => r_move rfl) ?_
      obtain ⟨c402, hx, hx408⟩ := bind_some' hx
      refine wo_mid 5 [(58, (.bool c402)), (0, s_l.v), (1, (.int .i64 n)), (15, s_l.v), (16, (.int .i64 (l.length : Int))), (17, (.int .i64 (k288 : Int)))] rfl ?_ ?_
      · rcases Bool.eq_false_or_eq_true c388 with hg403 | hg403
        · replace hx := xif_t hg403 hx
          refine ogs rfl (isB_no hg403) rfl ?_
          refine ogs rfl (isB_no hg403) rfl ?_
          refine ogs rfl (isB_no hg403) rfl ?_
          refine ogs rfl (isB_no hg403) rfl ?_
          refine ov rfl (fun w' h' => p_t rfl hg403 rfl) ?_
          obtain rfl := Option.some.inj hx
          exact mid_onil ⟨rfl, rfl, rfl, rfl, rfl, rfl, trivial⟩
        · replace hx := xif_f hg403 hx
          refine ogv rfl hg403 rfl (fun w' h' => r_fld Try.underlying98 rfl rfl sz3 rfl) ?_
          refine ogv rfl hg403 rfl (fun w' h' => r_ldB Try.underlying3 rfl rfl (hM.call h') (.head _) rfl) ?_
          refine ogv rfl hg403 rfl (fun w' h' => r_move rfl) ?_
          refine ogv rfl hg403 rfl (fun w' h' => r_gtr rfl rfl) ?_
          refine ov rfl (fun w' h' => p_f rfl hg403 rfl) ?_
          obtain rfl := Option.some.inj hx
          exact mid_onil ⟨rfl, rfl, rfl, rfl, rfl, rfl, trivial⟩
      replace hx := hx408
      refine o_nil fun w413 hw414 => ?_
      have hM := hM.call hw414
      refine sq_n ?_
      refine wc_cond rfl (fun hc415 => ?_) (fun hc415 => ?_)
      · replace hx := xif_t hc415 hx
        refine wc_seq ?_
        refine wc_region ?_
        refine wv rfl (r_assign rfl) ?_
        refine wl_nil ?_
        refine sq_n ?_
        refine wc_ret ?_
        refine bk_ret ?_
        refine sq_ret ?_
        refine lp1_ret ?_
        obtain rfl := Option.some.inj hx
        obtain rfl := Option.some.inj hx296
        replace hx := hx286
        try dsimp only [Sum.elim_inl, Sum.elim_inr] at hx
        refine bk_ret ?_
        refine sq_ret ?_
        obtain rfl := Option.some.inj hx
        refine fin_ret [(.bool false)] ⟨rfl, trivial⟩ ?_
        replace hM : St ⟨w, X, S⟩ [] [rV s_l.v (cSl 3 fDMark l)] _ := hM.tk 0
        have hM := hM.fewer rsN
        exact ⟨(), rfl, hM.gives⟩
      · replace hx := xif_f hc415 hx
        refine wc_skip ?_
        refine bk_n ?_
        refine sq_n ?_
        refine wc_region ?_
        refine wv rfl (r_add rfl rfl ⟨by omega, by omega⟩) ?_
        refine wv rfl (r_move rfl) ?_
        refine wl_nil ?_
        obtain rfl := Option.some.inj hx
        replace hM : St ⟨w, X, S⟩ [] [rV s_l.v (cSl 3 fDMark l)] _ := hM.tk 0
        exact lp_end (m294, k288 + 1) (Nat.lt_succ_self _) ⟨rfl, rfl, rfl, rfl, rfl, trivial⟩ ⟨hM, hx296, hk289⟩
    · replace hc293 := of_decide_eq_false hc293
      obtain rfl := eachN_end hx hk289 hc293
      refine wc_exit ?_
      refine sq_exit ?_
      refine lp1_exit ?_
      replace hx := hx286
      try dsimp only [Sum.elim_inl, Sum.elim_inr] at hx
      refine bk_here ?_
      refine sq_n ?_
      refine wc_seq ?_
      refine wc_region ?_
      refine wv rfl (r_assign rfl) ?_
      refine wl_nil ?_
      refine sq_n ?_
      refine wc_ret ?_
      obtain rfl := Option.some.inj hx
      refine fin_ret [(.bool true)] ⟨rfl, trivial⟩ ?_
      replace hM : St ⟨w, X, S⟩ [] [rV s_l.v (cSl 3 fDMark l)] _ := hM.tk 0
      have hM := hM.fewer rsN
      exact ⟨(), rfl, hM.gives⟩

noncomputable def x_impl_MarksMove_b0 (o : List DPart) (_l : List DMark) (_k91 : Nat) (x193 : DMark) (out92 : List DMark) : Option (Lr (List DMark) (List DMark)) :=
  Option.bind (x_impl_Shift o (x193.from_) true) fun r157 => Option.bind (x_impl_Shift o (x193.to) false) fun r169 => xg (out92.length < 1099511627776) <| some (Lr.go (out92 ++ [(⟨x193.id, min r157.1 r169.1, r169.1⟩ : DMark)]))
noncomputable def x_impl_MarksMove_f0 (o : List DPart) (l : List DMark) (k91 : Nat) (s194 : List DMark) : Option (Lr (List DMark) (List DMark)) := x_impl_MarksMove_b0 o l k91 (el l k91) s194
noncomputable def x_impl_MarksMove (l : List DMark) (o : List DPart) : Option (List DMark × Bool) :=
  Option.bind (x_impl_OpOk o) fun r4 => Option.bind (bif !r4 then (some true) else (Option.bind (x_impl_OpFrom o) fun r25 => Option.bind (x_impl_MarksOk l r25) fun r29 => some (!r29))) fun c10 => bif c10 then (some ([], false)) else (Option.bind (eachN (x_impl_MarksMove_f0 o l) (fun (s194 : List DMark) => (s194 : List DMark)) l.length 0 []) fun (y195 : List DMark) => some (y195, true))
theorem ct_impl_MarksMove (w : World) (X S : Bs) (l : List DMark) (s_l : Sv) (o : List DPart) (s_o : Sv) (hS : ∀ b, S b → b < w.heap.size ∧ ¬ X b) (a_l_0 : (cSl 3 fDMark l).rd S w s_l.v) (a_o_0 : (cSl 3 fDPart o).rd S w s_o.v) (oL : Sep [] X w) {r : List DMark × Bool} (hx : x_impl_MarksMove l o = some r) :
    Ret Try.prog 44 [s_l.v, s_o.v] w (fun u w' => ∃ y : Sv, u = .tuple #[y.v, (.bool r.2)] ∧ Gives X S w [oC (cSl 3 fDMark r.1) y.v] [] w') := by
  unfold x_impl_MarksMove at hx
  refine enter Try.func44 rfl Try.ntmps44 (by kernel_rfl) rfl ?_
  have hM := St.enter oL hS
  have hM := hM.addE (r := rV s_l.v (cSl 3 fDMark l)) a_l_0
  have hM := hM.addE (r := rV s_o.v (cSl 3 fDPart o)) a_o_0
  refine wc_seq ?_
  refine wc_region ?_
  refine wv rfl (r_assign rfl) ?_
  refine wv rfl (r_assign rfl) ?_
  refine wl_nil ?_
  refine sq_n ?_
  refine wc_seq ?_
  refine wc_seq ?_
  refine wc_region ?_
  refine wv rfl (r_move rfl) ?_
  obtain ⟨r204, h205, hx⟩ := bind_some' hx
  refine w_call rfl rfl (hM.callV fun X S oL hS hR hO => ct_impl_OpOk _ X S o s_o hS (hR _ (.head _)) oL h205) ?_
  rintro _ w206 ⟨rfl, hR207⟩
  have hM := hM.call hR207
  refine wv rfl (r_not rfl) ?_
  refine wv rfl (r_move rfl) ?_
  obtain ⟨c210, hx, hx223⟩ := bind_some' hx
  refine wl_mid 6 (fun _ : Unit => [(22, (.bool c210)), (0, s_l.v), (1, s_o.v)]) (fun _ w' => St ⟨w, X, S⟩ [] [rV s_o.v (cSl 3 fDPart o), rV s_l.v (cSl 3 fDMark l)] w') ?_ ?_
  · rcases Bool.eq_false_or_eq_true (!r204) with hg211 | hg211
    · replace hx := xif_t hg211 hx
      refine gs rfl (isB_no hg211) rfl ?_
      refine gs rfl (isB_no hg211) rfl ?_
      refine gs rfl (isB_no hg211) rfl ?_
      refine gs rfl (isB_no hg211) rfl ?_
      refine gs rfl (isB_no hg211) rfl ?_
      refine wv rfl (p_t rfl hg211 rfl) ?_
      obtain rfl := Option.some.inj hx
      exact mid_nil () ⟨rfl, rfl, rfl, trivial⟩ hM
    · replace hx := xif_f hg211 hx
      refine gv rfl hg211 rfl (r_move rfl) ?_
      refine gv rfl hg211 rfl (r_move rfl) ?_
      obtain ⟨r226, h227, hx⟩ := bind_some' hx
      refine gc rfl hg211 rfl rfl (hM.callV fun X S oL hS hR hO => ct_impl_OpFrom _ X S o s_o hS (hR _ (.head _)) oL h227) ?_
      rintro _ w228 ⟨rfl, hR229⟩
      have hM := hM.call hR229
      obtain ⟨r230, h231, hx⟩ := bind_some' hx
      refine gc rfl hg211 rfl rfl (hM.callV fun X S oL hS hR hO => ct_impl_MarksOk _ X S l s_l r226 hS (hR _ (.tail _ (.head _))) oL h231) ?_
      rintro _ w232 ⟨rfl, hR233⟩
      have hM := hM.call hR233
      refine gv rfl hg211 rfl (r_not rfl) ?_
      refine wv rfl (p_f rfl hg211 rfl) ?_
      obtain rfl := Option.some.inj hx
      exact mid_nil () ⟨rfl, rfl, rfl, trivial⟩ hM
  rintro _ w235 hM
  replace hx := hx223
  refine wl_nil ?_
  refine sq_n ?_
  refine wc_cond rfl (fun hc236 => ?_) (fun hc236 => ?_)
  · replace hx := xif_t hc236 hx
    refine wc_seq ?_
    refine wc_region ?_
    refine wv rfl (r_assign rfl) ?_
    refine wv rfl (r_assign rfl) ?_
    refine wl_nil ?_
    refine sq_n ?_
    refine wc_ret ?_
    refine sq_ret ?_
    obtain rfl := Option.some.inj hx
    have hM := hM.nil0 (T := DMark) 3 fDMark
    refine fin_ret [nS.v, (.bool false)] ⟨rfl, rfl, trivial⟩ ?_
    replace hM : St ⟨w, X, S⟩ [oC (cSl 3 fDMark ([] : List DMark)) nS.v] [rV s_o.v (cSl 3 fDPart o), rV s_l.v (cSl 3 fDMark l)] _ := hM.tk 1
    have hM := hM.fewer rsN
    exact ⟨nS, rfl, hM.gives⟩
  · replace hx := xif_f hc236 hx
    refine wc_skip ?_
    refine sq_n ?_
    refine wc_seq ?_
    refine wc_region ?_
    refine wv rfl (r_assign rfl) ?_
    refine wl_nil ?_
    refine sq_n ?_
    refine wc_seq ?_
    refine wc_seq ?_
    refine wc_region ?_
    refine wv rfl (r_move rfl) ?_
    refine wv rfl (r_lenC Try.underlying57 rfl (hM.seeR (.tail _ (.head _)))) ?_
    refine wv rfl (r_move rfl) ?_
    refine wl_nil ?_
    refine sq_n ?_
    refine wc_block ?_
    obtain ⟨y244, hx, hx245⟩ := bind_some' hx
    have hM := hM.nil0 (T := DMark) 3 fDMark
    have hl253 := Cs.le (hM.seeR (.tail _ (.head _)))
    refine wc_loop (un fun (m250 : Nat) => un fun (k251 : Nat) => un fun (out247 : List DMark) => fun (s249 : Sv) => [(1, s_o.v), (6, s249.v), (23, s_l.v), (24, (.int .i64 (l.length : Int))), (25, (.int .i64 (k251 : Int)))]) (un fun (m250 : Nat) => un fun (k251 : Nat) => un fun (out247 : List DMark) => fun (s249 : Sv) w' => St ⟨w, X, S⟩ [oC (cSl 3 fDMark out247) s249.v] [rV s_o.v (cSl 3 fDPart o), rV s_l.v (cSl 3 fDMark l)] w' ∧ eachN _ _ m250 k251 out247 = some y244 ∧ k251 + m250 = l.length) (fun p => p.1) (l.length, 0, [], nS) ⟨rfl, rfl, rfl, rfl, rfl, trivial⟩ ⟨hM, hx, Nat.zero_add _⟩ ?_
    rintro ⟨m250, k251, out247, s249⟩ w254 ⟨hM, hx, hk252⟩
    refine wc_seq ?_
    refine wc_region ?_
    refine wv rfl (r_lss rfl rfl) ?_
    refine wl_nil ?_
    refine sq_n ?_
    refine wc_seq ?_
    refine wc_cond rfl (fun hc256 => ?_) (fun hc256 => ?_)
    · replace hc256 := of_decide_eq_true hc256
      obtain ⟨m257, z258, rfl, hk252, hx, hx259⟩ := eachN_step hx hk252 hc256
      unfold x_impl_MarksMove_f0 x_impl_MarksMove_b0 at hx
      try dsimp only at hx
      refine wc_skip ?_
      refine sq_n ?_
      refine wc_seq ?_
      refine wc_block ?_
      refine wc_seq ?_
      refine wc_region ?_
      have hi261 : k251 < l.length := by omega
      refine wv rfl (r_ixC Try.underlying57 sz98 rfl rfl (hM.seeR (.tail _ (.head _))) ⟨by omega, hc256⟩) ?_
      refine wv rfl (r_ldC (o := k251 * 3) Try.underlying98 sz98 rfl (us := [(.int .i64 ((el l k251).id)), (.int .i64 ((el l k251).from_)), (.int .i64 ((el l k251).to))]) rfl (hM.seeR (.tail _ (.head _))) hi261 ⟨(Cs.get (i := k251) (j := 0) (hM.seeR (.tail _ (.head _))) (fun _ => rfl) hi261 rfl), (Cs.get (i := k251) (j := 1) (hM.seeR (.tail _ (.head _))) (fun _ => rfl) hi261 rfl), (Cs.get (i := k251) (j := 2) (hM.seeR (.tail _ (.head _))) (fun _ => rfl) hi261 rfl), trivial⟩) ?_
      refine w_ex rfl (x_alloc sz98 hM ?_); intro b264 w263 hR265 hM
      replace hM : St ⟨w, X, S⟩ [oBox b264 #[(.int .i64 0), (.int .i64 0), (.int .i64 0)] 98, oC (cSl 3 fDMark out247) s249.v] [rV s_o.v (cSl 3 fDPart o), rV s_l.v (cSl 3 fDMark l)] _ := hM
      refine w_exu (x_stB #[(.int .i64 ((el l k251).id)), (.int .i64 ((el l k251).from_)), (.int .i64 ((el l k251).to))] sz98 rfl rfl rfl rfl rfl rfl hM ?_); intro w267 hM
      refine wl_nil ?_
      refine sq_n ?_
      refine wc_seq ?_
      refine wc_region ?_
      refine wv rfl (r_move rfl) ?_
      refine wv rfl (r_fld Try.underlying98 rfl rfl sz3 rfl) ?_
      refine wv rfl (r_ldB Try.underlying3 rfl rfl hM (.head _) rfl) ?_
      obtain ⟨r272, h273, hx⟩ := bind_some' hx
      refine w_call rfl rfl (hM.callV fun X S oL hS hR hO => ct_impl_Shift _ X S o s_o ((el l k251).from_) true hS (hR _ (.head _)) oL h273) ?_
      rintro _ w274 ⟨rfl, hR275⟩
      have hM := hM.call hR275
      refine wv rfl (r_move rfl) ?_
      refine wv rfl (r_extract rfl rfl) ?_
      refine wv rfl (r_extract rfl rfl) ?_
      refine wv rfl (r_assign rfl) ?_
      refine wv rfl (r_assign rfl) ?_
      refine wl_nil ?_
      refine sq_n ?_
      refine wc_seq ?_
      refine wc_region ?_
      refine wv rfl (r_move rfl) ?_
      refine wv rfl (r_fld Try.underlying98 rfl rfl sz3 rfl) ?_
      refine wv rfl (r_ldB Try.underlying3 rfl rfl hM (.head _) rfl) ?_
      obtain ⟨r284, h285, hx⟩ := bind_some' hx
      refine w_call rfl rfl (hM.callV fun X S oL hS hR hO => ct_impl_Shift _ X S o s_o ((el l k251).to) false hS (hR _ (.head _)) oL h285) ?_
      rintro _ w286 ⟨rfl, hR287⟩
      have hM := hM.call hR287
      refine wv rfl (r_move rfl) ?_
      refine wv rfl (r_extract rfl rfl) ?_
      refine wv rfl (r_extract rfl rfl) ?_
      refine wv rfl (r_assign rfl) ?_
      refine wv rfl (r_assign rfl) ?_
      refine wl_nil ?_
      refine sq_n ?_
      refine wc_region ?_
      refine wv rfl (r_move rfl) ?_
      refine wv rfl (r_fld Try.underlying98 rfl rfl sz3 rfl) ?_
      refine wv rfl (r_ldB Try.underlying3 rfl rfl hM (.head _) rfl) ?_
      refine wv rfl (r_move rfl) ?_
      refine wv rfl (r_move rfl) ?_
      refine wv rfl (r_min Try.underlying3 rfl rfl) ?_
      refine wv rfl (r_move rfl) ?_
      refine wv rfl (r_build (cells := #[(.int .i64 ((el l k251).id)), (.int .i64 (min r272.1 r284.1)), (.int .i64 r284.1)]) rfl (by kernel_rfl)) ?_
      replace hM : St ⟨w, X, S⟩ [oC (cSl 3 fDMark out247) s249.v, oBox b264 #[(.int .i64 ((el l k251).id)), (.int .i64 ((el l k251).from_)), (.int .i64 ((el l k251).to))] 98] [rV s_o.v (cSl 3 fDPart o), rV s_l.v (cSl 3 fDMark l)] _ := hM.pl [1]
      obtain ⟨hg304, hx⟩ := xg_some hx
      refine w_push (f := fDMark) (⟨(el l k251).id, min r272.1 r284.1, r284.1⟩ : DMark) rfl rfl Try.underlying57 sz98 rfl rfl rfl rfl (fun _ => rfl) hM (fun _ => zP (pV _ rfl) (zP (pV _ rfl) (zP (pV _ rfl) zN))) rfl hg304 rfl ?_; intro u302 s303 w301 hM
      refine wv rfl (r_assign rfl) ?_
      refine wl_nil ?_
      refine bk_n ?_
      refine sq_n ?_
      refine wc_region ?_
      refine wv rfl (r_add rfl rfl ⟨by omega, by omega⟩) ?_
      refine wv rfl (r_move rfl) ?_
      refine wl_nil ?_
      obtain rfl := Option.some.inj hx
      replace hM : St ⟨w, X, S⟩ [oC (cSl 3 fDMark (out247 ++ [(⟨(el l k251).id, min r272.1 r284.1, r284.1⟩ : DMark)])) s303.v] [rV s_o.v (cSl 3 fDPart o), rV s_l.v (cSl 3 fDMark l)] _ := hM.tk 1
      exact lp_end (m257, k251 + 1, out247 ++ [(⟨(el l k251).id, min r272.1 r284.1, r284.1⟩ : DMark)], s303) (Nat.lt_succ_self _) ⟨rfl, rfl, rfl, rfl, rfl, trivial⟩ ⟨hM, hx259, hk252⟩
    · replace hc256 := of_decide_eq_false hc256
      obtain rfl := eachN_end hx hk252 hc256
      refine wc_exit ?_
      refine sq_exit ?_
      refine lp1_exit ?_
      replace hx := hx245
      try dsimp only [Sum.elim_inl, Sum.elim_inr] at hx
      refine bk_here ?_
      refine sq_n ?_
      refine wc_seq ?_
      refine wc_region ?_
      refine wv rfl (r_move rfl) ?_
      refine wv rfl (r_assign rfl) ?_
      refine wv rfl (r_assign rfl) ?_
      refine wl_nil ?_
      refine sq_n ?_
      refine wc_ret ?_
      obtain rfl := Option.some.inj hx
      refine fin_ret [s249.v, (.bool true)] ⟨rfl, rfl, trivial⟩ ?_
      replace hM : St ⟨w, X, S⟩ [oC (cSl 3 fDMark out247) s249.v] [rV s_o.v (cSl 3 fDPart o), rV s_l.v (cSl 3 fDMark l)] _ := hM.tk 1
      have hM := hM.fewer rsN
      exact ⟨s249, rfl, hM.gives⟩

noncomputable def x_spec_MarksOk_b0 (n : Int) (l : List DMark) (k5 : Nat) (x240 : DMark) : Option (Lr Unit (Sum Unit Unit)) :=
  Option.bind (x_spec_l01In (x240.id) 1 1000000000) fun r137 => Option.bind (bif !r137 then (some true) else (some (decide ((x240.from_) < 0)))) fun c142 => Option.bind (bif c142 then (some true) else (some (decide ((x240.to) < (x240.from_))))) fun c151 => Option.bind (bif c151 then (some true) else (some (decide (n < (x240.to))))) fun c164 => Option.bind (bif c164 then (some true) else (Option.bind (bif decide ((0 : Int) < (k5 : Int)) then (xg (inI ((k5 : Int) - 1)) <| xg (0 ≤ ((k5 : Int) - 1) ∧ ((k5 : Int) - 1) < (l.length : Int)) <| some (decide ((x240.id) ≤ ((el l (((k5 : Int) - 1).toNat)).id)))) else (some false)) fun c209 => some c209)) fun c175 => bif c175 then (some (Lr.out (Sum.inr (())))) else (some (Lr.go ()))
noncomputable def x_spec_MarksOk_f0 (n : Int) (l : List DMark) (k5 : Nat) (_s241 : Unit) : Option (Lr Unit (Sum Unit Unit)) := x_spec_MarksOk_b0 n l k5 (el l k5)
noncomputable def x_spec_MarksOk (l : List DMark) (n : Int) : Option Bool :=
  Option.bind (eachN (x_spec_MarksOk_f0 n l) (fun (_s241 : Unit) => (Sum.inl () : Sum Unit Unit)) l.length 0 ()) fun (y242 : Sum Unit Unit) => Sum.elim (fun _y243 => Option.bind (x_spec_l01In n 0 200) fun r246 => Option.bind (bif r246 then (some (decide ((l.length : Int) ≤ 12))) else (some false)) fun c251 => some c251) (fun _y244 => some false) y242
theorem ct_spec_MarksOk (w : World) (X S : Bs) (l : List DMark) (s_l : Sv) (n : Int) (hS : ∀ b, S b → b < w.heap.size ∧ ¬ X b) (a_l_0 : (cSl 3 fDMark l).rd S w s_l.v) (oL : Sep [] X w) {r : Bool} (hx : x_spec_MarksOk l n = some r) :
    Ret Try.prog 92 [s_l.v, (.int .i64 n)] w (fun u w' => ∃ _ : Unit, u = (.bool r) ∧ Gives X S w [] [] w') := by
  unfold x_spec_MarksOk at hx
  refine enter Try.func92 rfl Try.ntmps92 (by kernel_rfl) rfl ?_
  have hM := St.enter oL hS
  have hM := hM.addE (r := rV s_l.v (cSl 3 fDMark l)) a_l_0
  refine wc_seq ?_
  refine wc_region ?_
  refine wv rfl (r_assign rfl) ?_
  refine wl_nil ?_
  refine sq_n ?_
  refine wc_seq ?_
  refine wc_seq ?_
  refine wc_region ?_
  refine wv rfl (r_move rfl) ?_
  refine wv rfl (r_lenC Try.underlying57 rfl (hM.seeR (.head _))) ?_
  refine wv rfl (r_move rfl) ?_
  refine wl_nil ?_
  refine sq_n ?_
  refine wc_block ?_
  obtain ⟨y264, hx, hx265⟩ := bind_some' hx
  have hl269 := Cs.le (hM.seeR (.head _))
  refine wc_loop (un fun (m266 : Nat) => fun (k267 : Nat) => [(0, s_l.v), (1, (.int .i64 n)), (7, s_l.v), (8, (.int .i64 (l.length : Int))), (9, (.int .i64 (k267 : Int)))]) (un fun (m266 : Nat) => fun (k267 : Nat) w' => St ⟨w, X, S⟩ [] [rV s_l.v (cSl 3 fDMark l)] w' ∧ eachN _ _ m266 k267 () = some y264 ∧ k267 + m266 = l.length) (fun p => p.1) (l.length, 0) ⟨rfl, rfl, rfl, rfl, rfl, trivial⟩ ⟨hM, hx, Nat.zero_add _⟩ ?_
  rintro ⟨m266, k267⟩ w270 ⟨hM, hx, hk268⟩
  refine wc_seq ?_
  refine wc_region ?_
  refine wv rfl (r_lss rfl rfl) ?_
  refine wl_nil ?_
  refine sq_n ?_
  refine wc_seq ?_
  refine wc_cond rfl (fun hc272 => ?_) (fun hc272 => ?_)
  · replace hc272 := of_decide_eq_true hc272
    obtain ⟨m273, z274, rfl, hk268, hx, hx275⟩ := eachN_step hx hk268 hc272
    unfold x_spec_MarksOk_f0 x_spec_MarksOk_b0 at hx
    try dsimp only at hx
    refine wc_skip ?_
    refine sq_n ?_
    refine wc_seq ?_
    refine wc_block ?_
    refine wc_seq ?_
    refine wc_region ?_
    refine wv rfl (r_move rfl) ?_
    have hi278 : k267 < l.length := by omega
    refine wv rfl (r_ixC Try.underlying57 sz98 rfl rfl (hM.seeR (.head _)) ⟨by omega, hc272⟩) ?_
    refine wv rfl (r_ldC (o := k267 * 3) Try.underlying98 sz98 rfl (us := [(.int .i64 ((el l k267).id)), (.int .i64 ((el l k267).from_)), (.int .i64 ((el l k267).to))]) rfl (hM.seeR (.head _)) hi278 ⟨(Cs.get (i := k267) (j := 0) (hM.seeR (.head _)) (fun _ => rfl) hi278 rfl), (Cs.get (i := k267) (j := 1) (hM.seeR (.head _)) (fun _ => rfl) hi278 rfl), (Cs.get (i := k267) (j := 2) (hM.seeR (.head _)) (fun _ => rfl) hi278 rfl), trivial⟩) ?_
    refine w_ex rfl (x_alloc sz98 hM ?_); intro b281 w280 hR282 hM
    replace hM : St ⟨w, X, S⟩ [oBox b281 #[(.int .i64 0), (.int .i64 0), (.int .i64 0)] 98] [rV s_l.v (cSl 3 fDMark l)] _ := hM
    refine wv rfl (r_assign rfl) ?_
    refine w_exu (x_stB #[(.int .i64 ((el l k267).id)), (.int .i64 ((el l k267).from_)), (.int .i64 ((el l k267).to))] sz98 rfl rfl rfl rfl rfl rfl hM ?_); intro w285 hM
    refine wl_nil ?_
    refine sq_n ?_
    refine wc_seq ?_
    refine wc_draw [(0, 0), (1, 0), (2, 0), (3, 0), (4, 0), (5, 0), (6, 0), (7, 0), (8, 0), (9, 0), (10, 0), (11, 0), (12, 0), (13, 0), (14, 0), (15, 0), (16, 0), (17, 0), (18, 0), (19, 0), (20, 0), (21, 0), (22, 0), (23, 0), (24, 0), (25, 0), (26, 0), (27, 0), (28, 0), (29, 0), (30, 0), (31, 0), (32, 0), (33, 0), (34, 0), (35, 0), (36, 0)] Try_mixed (by kernel_rfl) rfl (by kernel_rfl) rfl ?_
    refine ov rfl (fun w' h' => r_fld Try.underlying98 rfl rfl sz3 rfl) ?_
    refine ov rfl (fun w' h' => r_ldB Try.underlying3 rfl rfl (hM.call h') (.head _) rfl) ?_
    obtain ⟨r289, h290, hx⟩ := bind_some' hx
    refine oc rfl rfl (fun w' h' => (hM.call h').callV fun X S oL hS hR hO => ct_spec_l01In _ X S ((el l k267).id) (1 : Int) (1000000000 : Int) hS  oL h290) ?_
    refine ov rfl (fun w' h' => r_not rfl) ?_
    refine ov rfl (fun w' h' => r_move rfl) ?_
    obtain ⟨c294, hx, hx299⟩ := bind_some' hx
    refine wo_mid 4 [(22, (.bool c294)), (0, s_l.v), (1, (.int .i64 n)), (5, (.int .i64 (k267 : Int))), (6, (.pointer (some ⟨b281, 0, none⟩))), (7, s_l.v), (8, (.int .i64 (l.length : Int))), (9, (.int .i64 (k267 : Int)))] rfl ?_ ?_
    · rcases Bool.eq_false_or_eq_true (!r289) with hg295 | hg295
      · replace hx := xif_t hg295 hx
        refine ogs rfl (isB_no hg295) rfl ?_
        refine ogs rfl (isB_no hg295) rfl ?_
        refine ogs rfl (isB_no hg295) rfl ?_
        refine ov rfl (fun w' h' => p_t rfl hg295 rfl) ?_
        obtain rfl := Option.some.inj hx
        exact mid_onil ⟨rfl, rfl, rfl, rfl, rfl, rfl, rfl, rfl, trivial⟩
      · replace hx := xif_f hg295 hx
        refine ogv rfl hg295 rfl (fun w' h' => r_fld Try.underlying98 rfl rfl sz3 rfl) ?_
        refine ogv rfl hg295 rfl (fun w' h' => r_ldB Try.underlying3 rfl rfl (hM.call h') (.head _) rfl) ?_
        refine ogv rfl hg295 rfl (fun w' h' => r_lss rfl rfl) ?_
        refine ov rfl (fun w' h' => p_f rfl hg295 rfl) ?_
        obtain rfl := Option.some.inj hx
        exact mid_onil ⟨rfl, rfl, rfl, rfl, rfl, rfl, rfl, rfl, trivial⟩
    replace hx := hx299
    refine ov rfl (fun w' h' => r_move rfl) ?_
    obtain ⟨c304, hx, hx311⟩ := bind_some' hx
    refine wo_mid 6 [(29, (.bool c304)), (0, s_l.v), (1, (.int .i64 n)), (5, (.int .i64 (k267 : Int))), (6, (.pointer (some ⟨b281, 0, none⟩))), (7, s_l.v), (8, (.int .i64 (l.length : Int))), (9, (.int .i64 (k267 : Int)))] rfl ?_ ?_
    · rcases Bool.eq_false_or_eq_true c294 with hg305 | hg305
      · replace hx := xif_t hg305 hx
        refine ogs rfl (isB_no hg305) rfl ?_
        refine ogs rfl (isB_no hg305) rfl ?_
        refine ogs rfl (isB_no hg305) rfl ?_
        refine ogs rfl (isB_no hg305) rfl ?_
        refine ogs rfl (isB_no hg305) rfl ?_
        refine ov rfl (fun w' h' => p_t rfl hg305 rfl) ?_
        obtain rfl := Option.some.inj hx
        exact mid_onil ⟨rfl, rfl, rfl, rfl, rfl, rfl, rfl, rfl, trivial⟩
      · replace hx := xif_f hg305 hx
        refine ogv rfl hg305 rfl (fun w' h' => r_fld Try.underlying98 rfl rfl sz3 rfl) ?_
        refine ogv rfl hg305 rfl (fun w' h' => r_ldB Try.underlying3 rfl rfl (hM.call h') (.head _) rfl) ?_
        refine ogv rfl hg305 rfl (fun w' h' => r_fld Try.underlying98 rfl rfl sz3 rfl) ?_
        refine ogv rfl hg305 rfl (fun w' h' => r_ldB Try.underlying3 rfl rfl (hM.call h') (.head _) rfl) ?_
        refine ogv rfl hg305 rfl (fun w' h' => r_gtr rfl rfl) ?_
        refine ov rfl (fun w' h' => p_f rfl hg305 rfl) ?_
        obtain rfl := Option.some.inj hx
        exact mid_onil ⟨rfl, rfl, rfl, rfl, rfl, rfl, rfl, rfl, trivial⟩
    replace hx := hx311
    refine ov rfl (fun w' h' => r_move rfl) ?_
    obtain ⟨c318, hx, hx324⟩ := bind_some' hx
    refine wo_mid 5 [(35, (.bool c318)), (0, s_l.v), (1, (.int .i64 n)), (5, (.int .i64 (k267 : Int))), (6, (.pointer (some ⟨b281, 0, none⟩))), (7, s_l.v), (8, (.int .i64 (l.length : Int))), (9, (.int .i64 (k267 : Int)))] rfl ?_ ?_
    · rcases Bool.eq_false_or_eq_true c304 with hg319 | hg319
      · replace hx := xif_t hg319 hx
        refine ogs rfl (isB_no hg319) rfl ?_
        refine ogs rfl (isB_no hg319) rfl ?_
        refine ogs rfl (isB_no hg319) rfl ?_
        refine ogs rfl (isB_no hg319) rfl ?_
        refine ov rfl (fun w' h' => p_t rfl hg319 rfl) ?_
        obtain rfl := Option.some.inj hx
        exact mid_onil ⟨rfl, rfl, rfl, rfl, rfl, rfl, rfl, rfl, trivial⟩
      · replace hx := xif_f hg319 hx
        refine ogv rfl hg319 rfl (fun w' h' => r_fld Try.underlying98 rfl rfl sz3 rfl) ?_
        refine ogv rfl hg319 rfl (fun w' h' => r_ldB Try.underlying3 rfl rfl (hM.call h') (.head _) rfl) ?_
        refine ogv rfl hg319 rfl (fun w' h' => r_move rfl) ?_
        refine ogv rfl hg319 rfl (fun w' h' => r_gtr rfl rfl) ?_
        refine ov rfl (fun w' h' => p_f rfl hg319 rfl) ?_
        obtain rfl := Option.some.inj hx
        exact mid_onil ⟨rfl, rfl, rfl, rfl, rfl, rfl, rfl, rfl, trivial⟩
    replace hx := hx324
    refine ov rfl (fun w' h' => r_move rfl) ?_
    obtain ⟨c330, hx, hx361⟩ := bind_some' hx
    refine wo_mid 14 [(50, (.bool c330)), (0, s_l.v), (1, (.int .i64 n)), (7, s_l.v), (8, (.int .i64 (l.length : Int))), (9, (.int .i64 (k267 : Int)))] rfl ?_ ?_
    · rcases Bool.eq_false_or_eq_true c318 with hg331 | hg331
      · replace hx := xif_t hg331 hx
        refine ogs rfl (isB_no hg331) rfl ?_
        refine ogs rfl (isB_no hg331) rfl ?_
        refine ogs rfl (isB_no hg331) rfl ?_
        refine ogs rfl rfl rfl ?_
        refine ogs rfl rfl rfl ?_
        refine ogs rfl rfl rfl ?_
        refine ogs rfl rfl rfl ?_
        refine ogs rfl rfl rfl ?_
        refine ogs rfl rfl rfl ?_
        refine ogs rfl rfl rfl ?_
        refine ogs rfl rfl rfl ?_
        refine ogs rfl rfl rfl ?_
        refine ogs rfl (isB_no hg331) rfl ?_
        refine ov rfl (fun w' h' => p_t rfl hg331 rfl) ?_
        obtain rfl := Option.some.inj hx
        exact mid_onil ⟨rfl, rfl, rfl, rfl, rfl, rfl, trivial⟩
      · replace hx := xif_f hg331 hx
        refine ogv rfl hg331 rfl (fun w' h' => r_move rfl) ?_
        refine ogv rfl hg331 rfl (fun w' h' => r_gtr rfl rfl) ?_
        refine ogv rfl hg331 rfl (fun w' h' => r_move rfl) ?_
        obtain ⟨c365, hx, hx379⟩ := bind_some' hx
        refine wo_mid 10 [(49, (.bool c365)), (0, s_l.v), (1, (.int .i64 n)), (7, s_l.v), (8, (.int .i64 (l.length : Int))), (9, (.int .i64 (k267 : Int))), (36, (.bool c318)), (37, (.int .i64 (k267 : Int))), (38, (.bool (decide ((0 : Int) < (k267 : Int))))), (39, (.bool (decide ((0 : Int) < (k267 : Int)))))] rfl ?_ ?_
        · rcases Bool.eq_false_or_eq_true (decide ((0 : Int) < (k267 : Int))) with hg366 | hg366
          · replace hx := xif_t hg366 hx
            refine ogv rfl hg366 rfl (fun w' h' => r_move rfl) ?_
            refine ogv rfl hg366 rfl (fun w' h' => r_move rfl) ?_
            obtain ⟨hg383, hx⟩ := xg_some hx
            refine ogv rfl hg366 rfl (fun w' h' => r_sub rfl rfl hg383) ?_
            obtain ⟨hg386, hx⟩ := xg_some hx
            have hi385 : (((k267 : Int) - 1).toNat) < l.length := by omega
            refine ogv rfl hg366 rfl (fun w' h' => r_ixC Try.underlying57 sz98 rfl rfl ((hM.call h').seeR (.head _)) hg386) ?_
            refine ogv rfl hg366 rfl (fun w' h' => r_fldC (i := (((k267 : Int) - 1).toNat)) Try.underlying98 rfl rfl sz3 rfl ((hM.call h').seeR (.head _)) hi385) ?_
            refine ogv rfl hg366 rfl (fun w' h' => r_ld Try.underlying3 rfl rfl (Cs.get (i := (((k267 : Int) - 1).toNat)) (j := 0) ((hM.call h').seeR (.head _)) (fun _ => rfl) hi385 rfl)) ?_
            refine ogv rfl hg366 rfl (fun w' h' => r_fld Try.underlying98 rfl rfl sz3 rfl) ?_
            refine ogv rfl hg366 rfl (fun w' h' => r_ldB Try.underlying3 rfl rfl (hM.call h') (.head _) rfl) ?_
            refine ogv rfl hg366 rfl (fun w' h' => r_geq rfl rfl) ?_
            refine ogv rfl hg331 rfl (fun w' h' => p_t rfl hg366 rfl) ?_
            obtain rfl := Option.some.inj hx
            exact mid_onil ⟨rfl, rfl, rfl, rfl, rfl, rfl, rfl, rfl, rfl, rfl, trivial⟩
          · replace hx := xif_f hg366 hx
            refine ogs rfl (isB_no hg366) rfl ?_
            refine ogs rfl (isB_no hg366) rfl ?_
            refine ogs rfl (isB_no hg366) rfl ?_
            refine ogs rfl (isB_no hg366) rfl ?_
            refine ogs rfl (isB_no hg366) rfl ?_
            refine ogs rfl (isB_no hg366) rfl ?_
            refine ogs rfl (isB_no hg366) rfl ?_
            refine ogs rfl (isB_no hg366) rfl ?_
            refine ogs rfl (isB_no hg366) rfl ?_
            refine ogv rfl hg331 rfl (fun w' h' => p_f rfl hg366 rfl) ?_
            obtain rfl := Option.some.inj hx
            exact mid_onil ⟨rfl, rfl, rfl, rfl, rfl, rfl, rfl, rfl, rfl, rfl, trivial⟩
        replace hx := hx379
        refine ov rfl (fun w' h' => p_f rfl hg331 rfl) ?_
        obtain rfl := Option.some.inj hx
        exact mid_onil ⟨rfl, rfl, rfl, rfl, rfl, rfl, trivial⟩
    replace hx := hx361
    refine o_nil fun w392 hw393 => ?_
    have hM := hM.call hw393
    refine sq_n ?_
    refine wc_cond rfl (fun hc394 => ?_) (fun hc394 => ?_)
    · replace hx := xif_t hc394 hx
      refine wc_seq ?_
      refine wc_region ?_
      refine wv rfl (r_assign rfl) ?_
      refine wl_nil ?_
      refine sq_n ?_
      refine wc_ret ?_
      refine bk_ret ?_
      refine sq_ret ?_
      refine lp1_ret ?_
      obtain rfl := Option.some.inj hx
      obtain rfl := Option.some.inj hx275
      replace hx := hx265
      try dsimp only [Sum.elim_inl, Sum.elim_inr] at hx
      refine bk_ret ?_
      refine sq_ret ?_
      obtain rfl := Option.some.inj hx
      refine fin_ret [(.bool false)] ⟨rfl, trivial⟩ ?_
      replace hM : St ⟨w, X, S⟩ [] [rV s_l.v (cSl 3 fDMark l)] _ := hM.tk 0
      have hM := hM.fewer rsN
      exact ⟨(), rfl, hM.gives⟩
    · replace hx := xif_f hc394 hx
      refine wc_skip ?_
      refine bk_n ?_
      refine sq_n ?_
      refine wc_region ?_
      refine wv rfl (r_add rfl rfl ⟨by omega, by omega⟩) ?_
      refine wv rfl (r_move rfl) ?_
      refine wl_nil ?_
      obtain rfl := Option.some.inj hx
      replace hM : St ⟨w, X, S⟩ [] [rV s_l.v (cSl 3 fDMark l)] _ := hM.tk 0
      exact lp_end (m273, k267 + 1) (Nat.lt_succ_self _) ⟨rfl, rfl, rfl, rfl, rfl, trivial⟩ ⟨hM, hx275, hk268⟩
  · replace hc272 := of_decide_eq_false hc272
    obtain rfl := eachN_end hx hk268 hc272
    refine wc_exit ?_
    refine sq_exit ?_
    refine lp1_exit ?_
    replace hx := hx265
    try dsimp only [Sum.elim_inl, Sum.elim_inr] at hx
    refine bk_here ?_
    refine sq_n ?_
    refine wc_seq ?_
    refine wc_region ?_
    refine wv rfl (r_move rfl) ?_
    obtain ⟨r399, h400, hx⟩ := bind_some' hx
    refine w_call rfl rfl (hM.callV fun X S oL hS hR hO => ct_spec_l01In _ X S n (0 : Int) (200 : Int) hS  oL h400) ?_
    rintro _ w401 ⟨rfl, hR402⟩
    have hM := hM.call hR402
    refine wv rfl (r_move rfl) ?_
    obtain ⟨c404, hx, hx409⟩ := bind_some' hx
    refine wl_mid 4 (fun _ : Unit => [(58, (.bool c404))]) (fun _ w' => St ⟨w, X, S⟩ [] [rV s_l.v (cSl 3 fDMark l)] w') ?_ ?_
    · rcases Bool.eq_false_or_eq_true r399 with hg405 | hg405
      · replace hx := xif_t hg405 hx
        refine gv rfl hg405 rfl (r_move rfl) ?_
        refine gv rfl hg405 rfl (r_lenC Try.underlying57 rfl (hM.seeR (.head _))) ?_
        refine gv rfl hg405 rfl (r_leq rfl rfl) ?_
        refine wv rfl (p_t rfl hg405 rfl) ?_
        obtain rfl := Option.some.inj hx
        exact mid_nil () ⟨rfl, trivial⟩ hM
      · replace hx := xif_f hg405 hx
        refine gs rfl (isB_no hg405) rfl ?_
        refine gs rfl (isB_no hg405) rfl ?_
        refine gs rfl (isB_no hg405) rfl ?_
        refine wv rfl (p_f rfl hg405 rfl) ?_
        obtain rfl := Option.some.inj hx
        exact mid_nil () ⟨rfl, trivial⟩ hM
    rintro _ w413 hM
    replace hx := hx409
    refine wv rfl (r_assign rfl) ?_
    refine wl_nil ?_
    refine sq_n ?_
    refine wc_ret ?_
    obtain rfl := Option.some.inj hx
    refine fin_ret [(.bool c404)] ⟨rfl, trivial⟩ ?_
    replace hM : St ⟨w, X, S⟩ [] [rV s_l.v (cSl 3 fDMark l)] _ := hM.tk 0
    have hM := hM.fewer rsN
    exact ⟨(), rfl, hM.gives⟩

noncomputable def x_spec_MarksMove_b0 (o : List DPart) (_l : List DMark) (_k44 : Nat) (x178 : DMark) (out45 : List DMark) : Option (Lr (List DMark) (List DMark)) :=
  Option.bind (x_spec_Shift o (x178.from_) true) fun r126 => Option.bind (x_spec_Shift o (x178.to) false) fun r138 => bif decide (r138.1 < r126.1) then (xg (out45.length < 1099511627776) <| some (Lr.go (out45 ++ [(⟨x178.id, r138.1, r138.1⟩ : DMark)]))) else (xg (out45.length < 1099511627776) <| some (Lr.go (out45 ++ [(⟨x178.id, r126.1, r138.1⟩ : DMark)])))
noncomputable def x_spec_MarksMove_f0 (o : List DPart) (l : List DMark) (k44 : Nat) (s179 : List DMark) : Option (Lr (List DMark) (List DMark)) := x_spec_MarksMove_b0 o l k44 (el l k44) s179
noncomputable def x_spec_MarksMove (l : List DMark) (o : List DPart) : Option (List DMark × Bool) :=
  Option.bind (x_spec_OpOk o) fun r4 => Option.bind (bif !r4 then (some true) else (Option.bind (x_spec_OpFrom o) fun r25 => Option.bind (x_spec_MarksOk l r25) fun r29 => some (!r29))) fun c10 => bif c10 then (some ([], false)) else (Option.bind (eachN (x_spec_MarksMove_f0 o l) (fun (s179 : List DMark) => (s179 : List DMark)) l.length 0 []) fun (y180 : List DMark) => some (y180, true))
theorem ct_spec_MarksMove (w : World) (X S : Bs) (l : List DMark) (s_l : Sv) (o : List DPart) (s_o : Sv) (hS : ∀ b, S b → b < w.heap.size ∧ ¬ X b) (a_l_0 : (cSl 3 fDMark l).rd S w s_l.v) (a_o_0 : (cSl 3 fDPart o).rd S w s_o.v) (oL : Sep [] X w) {r : List DMark × Bool} (hx : x_spec_MarksMove l o = some r) :
    Ret Try.prog 42 [s_l.v, s_o.v] w (fun u w' => ∃ y : Sv, u = .tuple #[y.v, (.bool r.2)] ∧ Gives X S w [oC (cSl 3 fDMark r.1) y.v] [] w') := by
  unfold x_spec_MarksMove at hx
  refine enter Try.func42 rfl Try.ntmps42 (by kernel_rfl) rfl ?_
  have hM := St.enter oL hS
  have hM := hM.addE (r := rV s_l.v (cSl 3 fDMark l)) a_l_0
  have hM := hM.addE (r := rV s_o.v (cSl 3 fDPart o)) a_o_0
  refine wc_seq ?_
  refine wc_region ?_
  refine wv rfl (r_assign rfl) ?_
  refine wv rfl (r_assign rfl) ?_
  refine wl_nil ?_
  refine sq_n ?_
  refine wc_seq ?_
  refine wc_seq ?_
  refine wc_region ?_
  refine wv rfl (r_move rfl) ?_
  obtain ⟨r189, h190, hx⟩ := bind_some' hx
  refine w_call rfl rfl (hM.callV fun X S oL hS hR hO => ct_spec_OpOk _ X S o s_o hS (hR _ (.head _)) oL h190) ?_
  rintro _ w191 ⟨rfl, hR192⟩
  have hM := hM.call hR192
  refine wv rfl (r_not rfl) ?_
  refine wv rfl (r_move rfl) ?_
  obtain ⟨c195, hx, hx208⟩ := bind_some' hx
  refine wl_mid 6 (fun _ : Unit => [(22, (.bool c195)), (0, s_l.v), (1, s_o.v)]) (fun _ w' => St ⟨w, X, S⟩ [] [rV s_o.v (cSl 3 fDPart o), rV s_l.v (cSl 3 fDMark l)] w') ?_ ?_
  · rcases Bool.eq_false_or_eq_true (!r189) with hg196 | hg196
    · replace hx := xif_t hg196 hx
      refine gs rfl (isB_no hg196) rfl ?_
      refine gs rfl (isB_no hg196) rfl ?_
      refine gs rfl (isB_no hg196) rfl ?_
      refine gs rfl (isB_no hg196) rfl ?_
      refine gs rfl (isB_no hg196) rfl ?_
      refine wv rfl (p_t rfl hg196 rfl) ?_
      obtain rfl := Option.some.inj hx
      exact mid_nil () ⟨rfl, rfl, rfl, trivial⟩ hM
    · replace hx := xif_f hg196 hx
      refine gv rfl hg196 rfl (r_move rfl) ?_
      refine gv rfl hg196 rfl (r_move rfl) ?_
      obtain ⟨r211, h212, hx⟩ := bind_some' hx
      refine gc rfl hg196 rfl rfl (hM.callV fun X S oL hS hR hO => ct_spec_OpFrom _ X S o s_o hS (hR _ (.head _)) oL h212) ?_
      rintro _ w213 ⟨rfl, hR214⟩
      have hM := hM.call hR214
      obtain ⟨r215, h216, hx⟩ := bind_some' hx
      refine gc rfl hg196 rfl rfl (hM.callV fun X S oL hS hR hO => ct_spec_MarksOk _ X S l s_l r211 hS (hR _ (.tail _ (.head _))) oL h216) ?_
      rintro _ w217 ⟨rfl, hR218⟩
      have hM := hM.call hR218
      refine gv rfl hg196 rfl (r_not rfl) ?_
      refine wv rfl (p_f rfl hg196 rfl) ?_
      obtain rfl := Option.some.inj hx
      exact mid_nil () ⟨rfl, rfl, rfl, trivial⟩ hM
  rintro _ w220 hM
  replace hx := hx208
  refine wl_nil ?_
  refine sq_n ?_
  refine wc_cond rfl (fun hc221 => ?_) (fun hc221 => ?_)
  · replace hx := xif_t hc221 hx
    refine wc_seq ?_
    refine wc_region ?_
    refine wv rfl (r_assign rfl) ?_
    refine wv rfl (r_assign rfl) ?_
    refine wl_nil ?_
    refine sq_n ?_
    refine wc_ret ?_
    refine sq_ret ?_
    obtain rfl := Option.some.inj hx
    have hM := hM.nil0 (T := DMark) 3 fDMark
    refine fin_ret [nS.v, (.bool false)] ⟨rfl, rfl, trivial⟩ ?_
    replace hM : St ⟨w, X, S⟩ [oC (cSl 3 fDMark ([] : List DMark)) nS.v] [rV s_o.v (cSl 3 fDPart o), rV s_l.v (cSl 3 fDMark l)] _ := hM.tk 1
    have hM := hM.fewer rsN
    exact ⟨nS, rfl, hM.gives⟩
  · replace hx := xif_f hc221 hx
    refine wc_skip ?_
    refine sq_n ?_
    refine wc_seq ?_
    refine wc_region ?_
    refine w_ex rfl (x_empty (f := fDMark) Try.underlying57 sz98 (fun _ => rfl) hM ?_); intro s226 w225 hR227 hM
    refine wv rfl (r_assign rfl) ?_
    refine wl_nil ?_
    refine sq_n ?_
    refine wc_seq ?_
    refine wc_seq ?_
    refine wc_region ?_
    refine wv rfl (r_move rfl) ?_
    refine wv rfl (r_lenC Try.underlying57 rfl (hM.seeR (.tail _ (.head _)))) ?_
    refine wv rfl (r_move rfl) ?_
    refine wl_nil ?_
    refine sq_n ?_
    refine wc_block ?_
    obtain ⟨y233, hx, hx234⟩ := bind_some' hx
    have hl241 := Cs.le (hM.seeR (.tail _ (.head _)))
    refine wc_loop (un fun (m238 : Nat) => un fun (k239 : Nat) => un fun (out235 : List DMark) => fun (s237 : Sv) => [(1, s_o.v), (6, s237.v), (24, s_l.v), (25, (.int .i64 (l.length : Int))), (26, (.int .i64 (k239 : Int)))]) (un fun (m238 : Nat) => un fun (k239 : Nat) => un fun (out235 : List DMark) => fun (s237 : Sv) w' => St ⟨w, X, S⟩ [oC (cSl 3 fDMark out235) s237.v] [rV s_o.v (cSl 3 fDPart o), rV s_l.v (cSl 3 fDMark l)] w' ∧ eachN _ _ m238 k239 out235 = some y233 ∧ k239 + m238 = l.length) (fun p => p.1) (l.length, 0, [], s226) ⟨rfl, rfl, rfl, rfl, rfl, trivial⟩ ⟨hM, hx, Nat.zero_add _⟩ ?_
    rintro ⟨m238, k239, out235, s237⟩ w242 ⟨hM, hx, hk240⟩
    refine wc_seq ?_
    refine wc_region ?_
    refine wv rfl (r_lss rfl rfl) ?_
    refine wl_nil ?_
    refine sq_n ?_
    refine wc_seq ?_
    refine wc_cond rfl (fun hc244 => ?_) (fun hc244 => ?_)
    · replace hc244 := of_decide_eq_true hc244
      obtain ⟨m245, z246, rfl, hk240, hx, hx247⟩ := eachN_step hx hk240 hc244
      unfold x_spec_MarksMove_f0 x_spec_MarksMove_b0 at hx
      try dsimp only at hx
      refine wc_skip ?_
      refine sq_n ?_
      refine wc_seq ?_
      refine wc_block ?_
      refine wc_seq ?_
      refine wc_region ?_
      have hi249 : k239 < l.length := by omega
      refine wv rfl (r_ixC Try.underlying57 sz98 rfl rfl (hM.seeR (.tail _ (.head _))) ⟨by omega, hc244⟩) ?_
      refine wv rfl (r_ldC (o := k239 * 3) Try.underlying98 sz98 rfl (us := [(.int .i64 ((el l k239).id)), (.int .i64 ((el l k239).from_)), (.int .i64 ((el l k239).to))]) rfl (hM.seeR (.tail _ (.head _))) hi249 ⟨(Cs.get (i := k239) (j := 0) (hM.seeR (.tail _ (.head _))) (fun _ => rfl) hi249 rfl), (Cs.get (i := k239) (j := 1) (hM.seeR (.tail _ (.head _))) (fun _ => rfl) hi249 rfl), (Cs.get (i := k239) (j := 2) (hM.seeR (.tail _ (.head _))) (fun _ => rfl) hi249 rfl), trivial⟩) ?_
      refine w_ex rfl (x_alloc sz98 hM ?_); intro b252 w251 hR253 hM
      replace hM : St ⟨w, X, S⟩ [oBox b252 #[(.int .i64 0), (.int .i64 0), (.int .i64 0)] 98, oC (cSl 3 fDMark out235) s237.v] [rV s_o.v (cSl 3 fDPart o), rV s_l.v (cSl 3 fDMark l)] _ := hM
      refine w_exu (x_stB #[(.int .i64 ((el l k239).id)), (.int .i64 ((el l k239).from_)), (.int .i64 ((el l k239).to))] sz98 rfl rfl rfl rfl rfl rfl hM ?_); intro w255 hM
      refine wl_nil ?_
      refine sq_n ?_
      refine wc_seq ?_
      refine wc_region ?_
      refine wv rfl (r_move rfl) ?_
      refine wv rfl (r_fld Try.underlying98 rfl rfl sz3 rfl) ?_
      refine wv rfl (r_ldB Try.underlying3 rfl rfl hM (.head _) rfl) ?_
      obtain ⟨r260, h261, hx⟩ := bind_some' hx
      refine w_call rfl rfl (hM.callV fun X S oL hS hR hO => ct_spec_Shift _ X S o s_o ((el l k239).from_) true hS (hR _ (.head _)) oL h261) ?_
      rintro _ w262 ⟨rfl, hR263⟩
      have hM := hM.call hR263
      refine wv rfl (r_move rfl) ?_
      refine wv rfl (r_extract rfl rfl) ?_
      refine wv rfl (r_extract rfl rfl) ?_
      refine wv rfl (r_assign rfl) ?_
      refine wv rfl (r_assign rfl) ?_
      refine wl_nil ?_
      refine sq_n ?_
      refine wc_seq ?_
      refine wc_region ?_
      refine wv rfl (r_move rfl) ?_
      refine wv rfl (r_fld Try.underlying98 rfl rfl sz3 rfl) ?_
      refine wv rfl (r_ldB Try.underlying3 rfl rfl hM (.head _) rfl) ?_
      obtain ⟨r272, h273, hx⟩ := bind_some' hx
      refine w_call rfl rfl (hM.callV fun X S oL hS hR hO => ct_spec_Shift _ X S o s_o ((el l k239).to) false hS (hR _ (.head _)) oL h273) ?_
      rintro _ w274 ⟨rfl, hR275⟩
      have hM := hM.call hR275
      refine wv rfl (r_move rfl) ?_
      refine wv rfl (r_extract rfl rfl) ?_
      refine wv rfl (r_extract rfl rfl) ?_
      refine wv rfl (r_assign rfl) ?_
      refine wv rfl (r_assign rfl) ?_
      refine wl_nil ?_
      refine sq_n ?_
      refine wc_seq ?_
      refine wc_seq ?_
      refine wc_region ?_
      refine wv rfl (r_move rfl) ?_
      refine wv rfl (r_move rfl) ?_
      refine wv rfl (r_lss rfl rfl) ?_
      refine wl_nil ?_
      refine sq_n ?_
      refine wc_cond rfl (fun hc284 => ?_) (fun hc284 => ?_)
      · replace hx := xif_t hc284 hx
        refine wc_region ?_
        refine wv rfl (r_move rfl) ?_
        refine wv rfl (r_assign rfl) ?_
        refine wl_nil ?_
        refine sq_n ?_
        refine wc_region ?_
        refine wv rfl (r_move rfl) ?_
        refine wv rfl (r_fld Try.underlying98 rfl rfl sz3 rfl) ?_
        refine wv rfl (r_ldB Try.underlying3 rfl rfl hM (.head _) rfl) ?_
        refine wv rfl (r_move rfl) ?_
        refine wv rfl (r_move rfl) ?_
        refine wv rfl (r_build (cells := #[(.int .i64 ((el l k239).id)), (.int .i64 r272.1), (.int .i64 r272.1)]) rfl (by kernel_rfl)) ?_
        replace hM : St ⟨w, X, S⟩ [oC (cSl 3 fDMark out235) s237.v, oBox b252 #[(.int .i64 ((el l k239).id)), (.int .i64 ((el l k239).from_)), (.int .i64 ((el l k239).to))] 98] [rV s_o.v (cSl 3 fDPart o), rV s_l.v (cSl 3 fDMark l)] _ := hM.pl [1]
        obtain ⟨hg296, hx⟩ := xg_some hx
        refine w_push (f := fDMark) (⟨(el l k239).id, r272.1, r272.1⟩ : DMark) rfl rfl Try.underlying57 sz98 rfl rfl rfl rfl (fun _ => rfl) hM (fun _ => zP (pV _ rfl) (zP (pV _ rfl) (zP (pV _ rfl) zN))) rfl hg296 rfl ?_; intro u294 s295 w293 hM
        refine wv rfl (r_assign rfl) ?_
        refine wl_nil ?_
        refine bk_n ?_
        refine sq_n ?_
        refine wc_region ?_
        refine wv rfl (r_add rfl rfl ⟨by omega, by omega⟩) ?_
        refine wv rfl (r_move rfl) ?_
        refine wl_nil ?_
        obtain rfl := Option.some.inj hx
        replace hM : St ⟨w, X, S⟩ [oC (cSl 3 fDMark (out235 ++ [(⟨(el l k239).id, r272.1, r272.1⟩ : DMark)])) s295.v] [rV s_o.v (cSl 3 fDPart o), rV s_l.v (cSl 3 fDMark l)] _ := hM.tk 1
        exact lp_end (m245, k239 + 1, out235 ++ [(⟨(el l k239).id, r272.1, r272.1⟩ : DMark)], s295) (Nat.lt_succ_self _) ⟨rfl, rfl, rfl, rfl, rfl, trivial⟩ ⟨hM, hx247, hk240⟩
      · replace hx := xif_f hc284 hx
        refine wc_skip ?_
        refine sq_n ?_
        refine wc_region ?_
        refine wv rfl (r_move rfl) ?_
        refine wv rfl (r_fld Try.underlying98 rfl rfl sz3 rfl) ?_
        refine wv rfl (r_ldB Try.underlying3 rfl rfl hM (.head _) rfl) ?_
        refine wv rfl (r_move rfl) ?_
        refine wv rfl (r_move rfl) ?_
        refine wv rfl (r_build (cells := #[(.int .i64 ((el l k239).id)), (.int .i64 r260.1), (.int .i64 r272.1)]) rfl (by kernel_rfl)) ?_
        replace hM : St ⟨w, X, S⟩ [oC (cSl 3 fDMark out235) s237.v, oBox b252 #[(.int .i64 ((el l k239).id)), (.int .i64 ((el l k239).from_)), (.int .i64 ((el l k239).to))] 98] [rV s_o.v (cSl 3 fDPart o), rV s_l.v (cSl 3 fDMark l)] _ := hM.pl [1]
        obtain ⟨hg309, hx⟩ := xg_some hx
        refine w_push (f := fDMark) (⟨(el l k239).id, r260.1, r272.1⟩ : DMark) rfl rfl Try.underlying57 sz98 rfl rfl rfl rfl (fun _ => rfl) hM (fun _ => zP (pV _ rfl) (zP (pV _ rfl) (zP (pV _ rfl) zN))) rfl hg309 rfl ?_; intro u307 s308 w306 hM
        refine wv rfl (r_assign rfl) ?_
        refine wl_nil ?_
        refine bk_n ?_
        refine sq_n ?_
        refine wc_region ?_
        refine wv rfl (r_add rfl rfl ⟨by omega, by omega⟩) ?_
        refine wv rfl (r_move rfl) ?_
        refine wl_nil ?_
        obtain rfl := Option.some.inj hx
        replace hM : St ⟨w, X, S⟩ [oC (cSl 3 fDMark (out235 ++ [(⟨(el l k239).id, r260.1, r272.1⟩ : DMark)])) s308.v] [rV s_o.v (cSl 3 fDPart o), rV s_l.v (cSl 3 fDMark l)] _ := hM.tk 1
        exact lp_end (m245, k239 + 1, out235 ++ [(⟨(el l k239).id, r260.1, r272.1⟩ : DMark)], s308) (Nat.lt_succ_self _) ⟨rfl, rfl, rfl, rfl, rfl, trivial⟩ ⟨hM, hx247, hk240⟩
    · replace hc244 := of_decide_eq_false hc244
      obtain rfl := eachN_end hx hk240 hc244
      refine wc_exit ?_
      refine sq_exit ?_
      refine lp1_exit ?_
      replace hx := hx234
      try dsimp only [Sum.elim_inl, Sum.elim_inr] at hx
      refine bk_here ?_
      refine sq_n ?_
      refine wc_seq ?_
      refine wc_region ?_
      refine wv rfl (r_move rfl) ?_
      refine wv rfl (r_assign rfl) ?_
      refine wv rfl (r_assign rfl) ?_
      refine wl_nil ?_
      refine sq_n ?_
      refine wc_ret ?_
      obtain rfl := Option.some.inj hx
      refine fin_ret [s237.v, (.bool true)] ⟨rfl, rfl, trivial⟩ ?_
      replace hM : St ⟨w, X, S⟩ [oC (cSl 3 fDMark out235) s237.v] [rV s_o.v (cSl 3 fDPart o), rV s_l.v (cSl 3 fDMark l)] _ := hM.tk 1
      have hM := hM.fewer rsN
      exact ⟨s237, rfl, hM.gives⟩

end Go.Proofs.Ytnpfbhejekpmaaa
