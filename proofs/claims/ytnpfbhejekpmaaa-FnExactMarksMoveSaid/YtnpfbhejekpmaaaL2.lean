/- Walks of functions of this program (printed by a program of ours, by the rules of the layer). No condition. -/
import Derived.Test.YtnpfbhejekpmaaaG6
namespace Go.Proofs.Ytnpfbhejekpmaaa
open Go.RowKit

noncomputable def x_laws_toIntS_b0 (a : List Int) (i34 : Int) (l35 : List Int) : Option (Lr (Int × List Int) (List Int)) :=
  bif decide (i34 < (a.length : Int)) then (xg (0 ≤ i34 ∧ i34 < (a.length : Int)) <| xg (0 ≤ i34 ∧ i34 < (l35.length : Int)) <| xg (inI (i34 + 1)) <| some (Lr.go (i34 + 1, l35.set i34.toNat (el a i34.toNat)))) else (some (Lr.out l35))
noncomputable def x_laws_toIntS_f0 (a : List Int) (s79 : Int × List Int) : Option (Lr (Int × List Int) (List Int)) := x_laws_toIntS_b0 a s79.1 s79.2
noncomputable def x_laws_toIntS (a : List Int) : Option (List Int) :=
  xg (0 ≤ (a.length : Int) ∧ (a.length : Int) ≤ 1099511627776) <| Option.bind (iter (x_laws_toIntS_f0 a) (0, List.replicate ((a.length : Int).toNat) 0)) fun (y80 : List Int) => some y80
theorem ct_laws_toIntS (w : World) (X S : Bs) (a : List Int) (s_a : Sv) (hS : ∀ b, S b → b < w.heap.size ∧ ¬ X b) (a_a_0 : (cSl 1 fI a).rd S w s_a.v) (oL : Sep [] X w) {r : List Int} (hx : x_laws_toIntS a = some r) :
    Ret Try.prog 29 [s_a.v] w (fun u w' => ∃ y : Sv, u = y.v ∧ Gives X S w [oC (cSl 1 fI r) y.v] [] w') := by
  unfold x_laws_toIntS at hx
  refine enter Try.func29 rfl Try.ntmps29 (by kernel_rfl) rfl ?_
  have hM := St.enter oL hS
  have hM := hM.addE (r := rV s_a.v (cSl 1 fI a)) a_a_0
  refine wc_seq ?_
  refine wc_region ?_
  refine wv rfl (r_assign rfl) ?_
  refine wl_nil ?_
  refine sq_n ?_
  refine wc_seq ?_
  refine wc_region ?_
  refine wv rfl (r_move rfl) ?_
  refine wv rfl (r_lenC Try.underlying24 rfl (hM.seeR (.head _))) ?_
  obtain ⟨hg89, hx⟩ := xg_some hx
  have hk90 : (a.length : Int) = ((a.length : Int).toNat : Int) := by omega
  refine w_ex rfl (x_make (f := fI) (k := ((a.length : Int).toNat)) 0 Try.underlying24 sz3 (fun _ => rfl) (fun _ => zP (pV _ rfl) zN) (by rw [← hk90]; rfl) (by omega) rfl hM ?_); intro s88 w87 hR91 hM
  refine wv rfl (r_assign rfl) ?_
  refine wl_nil ?_
  refine sq_n ?_
  refine wc_seq ?_
  refine wc_seq ?_
  refine wc_region ?_
  refine wv rfl (r_assign rfl) ?_
  refine wl_nil ?_
  refine sq_n ?_
  refine wc_block ?_
  obtain ⟨y95, hx, hx96⟩ := bind_some' hx
  obtain ⟨m101, hx⟩ := iter_run hx
  refine wc_loop (un fun (m99 : Nat) => un fun (i97 : Int) => fun (l98 : List Int) => [(0, s_a.v), (3, s88.v), (4, (.int .i64 i97))]) (un fun (m99 : Nat) => un fun (i97 : Int) => fun (l98 : List Int) w' => St ⟨w, X, S⟩ [oC (cSl 1 fI l98) s88.v] [rV s_a.v (cSl 1 fI a)] w' ∧ iterN _ m99 (i97, l98) = some y95) (fun p => p.1) (m101, 0, List.replicate ((a.length : Int).toNat) 0) ⟨rfl, rfl, rfl, trivial⟩ ⟨hM, hx⟩ ?_
  rintro ⟨m99, i97, l98⟩ w102 ⟨hM, hx⟩
  obtain ⟨m103, z104, rfl, hx, hx105⟩ := iterN_step hx
  unfold x_laws_toIntS_f0 x_laws_toIntS_b0 at hx
  try dsimp only at hx
  refine wc_seq ?_
  refine wc_seq ?_
  refine wc_region ?_
  refine wv rfl (r_move rfl) ?_
  refine wv rfl (r_move rfl) ?_
  refine wv rfl (r_lenC Try.underlying24 rfl (hM.seeR (.head _))) ?_
  refine wv rfl (r_lss rfl rfl) ?_
  refine wl_nil ?_
  refine sq_n ?_
  refine wc_cond rfl (fun hc110 => ?_) (fun hc110 => ?_)
  · replace hx := xif_t hc110 hx
    refine wc_skip ?_
    refine sq_n ?_
    refine wc_seq ?_
    refine wc_block ?_
    refine wc_region ?_
    refine wv rfl (r_move rfl) ?_
    refine wv rfl (r_move rfl) ?_
    refine wv rfl (r_move rfl) ?_
    refine wv rfl (r_move rfl) ?_
    obtain ⟨hg117, hx⟩ := xg_some hx
    have hi116 : i97.toNat < a.length := by omega
    refine wv rfl (r_ixC Try.underlying24 sz3 rfl rfl (hM.seeR (.head _)) hg117) ?_
    refine wv rfl (r_ld Try.underlying3 rfl rfl (Cs.get (i := i97.toNat) (j := 0) (hM.seeR (.head _)) (fun _ => rfl) hi116 rfl)) ?_
    obtain ⟨hg121, hx⟩ := xg_some hx
    have hi120 : i97.toNat < l98.length := by omega
    refine wv rfl (r_ixC Try.underlying24 sz3 rfl rfl (hM.seeO (.head _)) hg121) ?_
    refine w_exu (x_stE (f := fI) (k := 1) (L := l98) (i := i97.toNat) (j := 0) (el a i97.toNat) [cI (el a i97.toNat)] sz3 (fun _ => rfl) rfl rfl hi120 rfl rfl rfl rfl rfl (fun _ => zP (pV _ rfl) zN) hM ?_); intro w122 hM
    refine wl_nil ?_
    refine bk_n ?_
    refine sq_n ?_
    refine wc_region ?_
    refine wv rfl (r_move rfl) ?_
    obtain ⟨hg126, hx⟩ := xg_some hx
    refine wv rfl (r_add rfl rfl hg126) ?_
    refine wv rfl (r_assign rfl) ?_
    refine wl_nil ?_
    obtain rfl := Option.some.inj hx
    exact lp_end (m103, i97 + 1, l98.set i97.toNat (el a i97.toNat)) (Nat.lt_succ_self _) ⟨rfl, rfl, rfl, trivial⟩ ⟨hM, hx105⟩
  · replace hx := xif_f hc110 hx
    refine wc_exit ?_
    refine sq_exit ?_
    refine lp1_exit ?_
    obtain rfl := Option.some.inj hx
    obtain rfl := Option.some.inj hx105
    replace hx := hx96
    try dsimp only [Sum.elim_inl, Sum.elim_inr] at hx
    refine bk_here ?_
    refine sq_n ?_
    refine wc_seq ?_
    refine wc_region ?_
    refine wv rfl (r_move rfl) ?_
    refine wv rfl (r_assign rfl) ?_
    refine wl_nil ?_
    refine sq_n ?_
    refine wc_ret ?_
    obtain rfl := Option.some.inj hx
    refine fin_ret [s88.v] ⟨rfl, trivial⟩ ?_
    replace hM : St ⟨w, X, S⟩ [oC (cSl 1 fI l98) s88.v] [rV s_a.v (cSl 1 fI a)] _ := hM.tk 1
    have hM := hM.fewer rsN
    exact ⟨s88, rfl, hM.gives⟩

noncomputable def x_laws_eqIntS_b0 (a : List Int) (b : List Int) (i9 : Int) : Option (Lr Int (Sum Unit Unit)) :=
  bif decide (i9 < (a.length : Int)) then (xg (0 ≤ i9 ∧ i9 < (a.length : Int)) <| xg (0 ≤ i9 ∧ i9 < (b.length : Int)) <| bif !decide ((el a i9.toNat) = (el b i9.toNat)) then (some (Lr.out (Sum.inr (())))) else (xg (inI (i9 + 1)) <| some (Lr.go (i9 + 1)))) else (some (Lr.out (Sum.inl ())))
noncomputable def x_laws_eqIntS_f0 (a : List Int) (b : List Int) (s58 : Int) : Option (Lr Int (Sum Unit Unit)) := x_laws_eqIntS_b0 a b s58
noncomputable def x_laws_eqIntS (a : List Int) (b : List Int) : Option Bool :=
  bif !decide ((a.length : Int) = (b.length : Int)) then (some false) else (Option.bind (iter (x_laws_eqIntS_f0 a b) 0) fun (y59 : Sum Unit Unit) => Sum.elim (fun _y60 => some true) (fun _y61 => some false) y59)
theorem ct_laws_eqIntS (w : World) (X S : Bs) (a : List Int) (s_a : Sv) (b : List Int) (s_b : Sv) (hS : ∀ b, S b → b < w.heap.size ∧ ¬ X b) (a_a_0 : (cSl 1 fI a).rd S w s_a.v) (a_b_0 : (cSl 1 fI b).rd S w s_b.v) (oL : Sep [] X w) {r : Bool} (hx : x_laws_eqIntS a b = some r) :
    Ret Try.prog 19 [s_a.v, s_b.v] w (fun u w' => ∃ _ : Unit, u = (.bool r) ∧ Gives X S w [] [] w') := by
  unfold x_laws_eqIntS at hx
  refine enter Try.func19 rfl Try.ntmps19 (by kernel_rfl) rfl ?_
  have hM := St.enter oL hS
  have hM := hM.addE (r := rV s_a.v (cSl 1 fI a)) a_a_0
  have hM := hM.addE (r := rV s_b.v (cSl 1 fI b)) a_b_0
  refine wc_seq ?_
  refine wc_region ?_
  refine wv rfl (r_assign rfl) ?_
  refine wl_nil ?_
  refine sq_n ?_
  refine wc_seq ?_
  refine wc_seq ?_
  refine wc_region ?_
  refine wv rfl (r_move rfl) ?_
  refine wv rfl (r_lenC Try.underlying24 rfl (hM.seeR (.tail _ (.head _)))) ?_
  refine wv rfl (r_move rfl) ?_
  refine wv rfl (r_lenC Try.underlying24 rfl (hM.seeR (.head _))) ?_
  refine wv rfl (r_neq rfl rfl) ?_
  refine wl_nil ?_
  refine sq_n ?_
  refine wc_cond rfl (fun hc69 => ?_) (fun hc69 => ?_)
  · replace hx := xif_t hc69 hx
    refine wc_seq ?_
    refine wc_region ?_
    refine wv rfl (r_assign rfl) ?_
    refine wl_nil ?_
    refine sq_n ?_
    refine wc_ret ?_
    refine sq_ret ?_
    obtain rfl := Option.some.inj hx
    refine fin_ret [(.bool false)] ⟨rfl, trivial⟩ ?_
    replace hM : St ⟨w, X, S⟩ [] [rV s_b.v (cSl 1 fI b), rV s_a.v (cSl 1 fI a)] _ := hM.tk 0
    have hM := hM.fewer rsN
    exact ⟨(), rfl, hM.gives⟩
  · replace hx := xif_f hc69 hx
    refine wc_skip ?_
    refine sq_n ?_
    refine wc_seq ?_
    refine wc_seq ?_
    refine wc_region ?_
    refine wv rfl (r_assign rfl) ?_
    refine wl_nil ?_
    refine sq_n ?_
    refine wc_block ?_
    obtain ⟨y72, hx, hx73⟩ := bind_some' hx
    have hM := hM.fewer (rsC (.tail _ (.head _)) (rsC (.head _) rsN))
    replace hM : St ⟨w, X, S⟩ [] [rV s_a.v (cSl 1 fI a), rV s_b.v (cSl 1 fI b)] _ := hM
    obtain ⟨m77, hx⟩ := iter_run hx
    refine wc_loop (un fun (m75 : Nat) => fun (i74 : Int) => [(0, s_a.v), (1, s_b.v), (5, (.int .i64 i74))]) (un fun (m75 : Nat) => fun (i74 : Int) w' => St ⟨w, X, S⟩ [] [rV s_a.v (cSl 1 fI a), rV s_b.v (cSl 1 fI b)] w' ∧ iterN _ m75 i74 = some y72) (fun p => p.1) (m77, 0) ⟨rfl, rfl, rfl, trivial⟩ ⟨hM, hx⟩ ?_
    rintro ⟨m75, i74⟩ w78 ⟨hM, hx⟩
    obtain ⟨m79, z80, rfl, hx, hx81⟩ := iterN_step hx
    unfold x_laws_eqIntS_f0 x_laws_eqIntS_b0 at hx
    try dsimp only at hx
    refine wc_seq ?_
    refine wc_seq ?_
    refine wc_region ?_
    refine wv rfl (r_move rfl) ?_
    refine wv rfl (r_move rfl) ?_
    refine wv rfl (r_lenC Try.underlying24 rfl (hM.seeR (.head _))) ?_
    refine wv rfl (r_lss rfl rfl) ?_
    refine wl_nil ?_
    refine sq_n ?_
    refine wc_cond rfl (fun hc86 => ?_) (fun hc86 => ?_)
    · replace hx := xif_t hc86 hx
      refine wc_skip ?_
      refine sq_n ?_
      refine wc_seq ?_
      refine wc_block ?_
      refine wc_seq ?_
      refine wc_draw [(0, 0), (1, 0), (2, 0), (3, 0), (4, 0), (5, 0), (6, 0), (7, 0), (8, 0)] Try_mixed (by kernel_rfl) rfl (by kernel_rfl) rfl ?_
      refine ov rfl (fun w' h' => r_move rfl) ?_
      refine ov rfl (fun w' h' => r_move rfl) ?_
      obtain ⟨hg91, hx⟩ := xg_some hx
      have hi90 : i74.toNat < a.length := by omega
      refine ov rfl (fun w' h' => r_ixC Try.underlying24 sz3 rfl rfl ((hM.call h').seeR (.head _)) hg91) ?_
      refine ov rfl (fun w' h' => r_ld Try.underlying3 rfl rfl (Cs.get (i := i74.toNat) (j := 0) ((hM.call h').seeR (.head _)) (fun _ => rfl) hi90 rfl)) ?_
      refine ov rfl (fun w' h' => r_move rfl) ?_
      refine ov rfl (fun w' h' => r_move rfl) ?_
      obtain ⟨hg97, hx⟩ := xg_some hx
      have hi96 : i74.toNat < b.length := by omega
      refine ov rfl (fun w' h' => r_ixC Try.underlying24 sz3 rfl rfl ((hM.call h').seeR (.tail _ (.head _))) hg97) ?_
      refine ov rfl (fun w' h' => r_ld Try.underlying3 rfl rfl (Cs.get (i := i74.toNat) (j := 0) ((hM.call h').seeR (.tail _ (.head _))) (fun _ => rfl) hi96 rfl)) ?_
      refine ov rfl (fun w' h' => r_neq rfl rfl) ?_
      refine o_nil fun w100 hw101 => ?_
      have hM := hM.call hw101
      refine sq_n ?_
      refine wc_cond rfl (fun hc102 => ?_) (fun hc102 => ?_)
      · replace hx := xif_t hc102 hx
        refine wc_seq ?_
        refine wc_region ?_
        refine wv rfl (r_assign rfl) ?_
        refine wl_nil ?_
        refine sq_n ?_
        refine wc_ret ?_
        refine bk_ret ?_
        refine sq_ret ?_
        refine lp1_ret ?_
        obtain rfl := Option.some.inj hx
        obtain rfl := Option.some.inj hx81
        replace hx := hx73
        try dsimp only [Sum.elim_inl, Sum.elim_inr] at hx
        refine bk_ret ?_
        refine sq_ret ?_
        obtain rfl := Option.some.inj hx
        refine fin_ret [(.bool false)] ⟨rfl, trivial⟩ ?_
        replace hM : St ⟨w, X, S⟩ [] [rV s_a.v (cSl 1 fI a), rV s_b.v (cSl 1 fI b)] _ := hM.tk 0
        have hM := hM.fewer rsN
        exact ⟨(), rfl, hM.gives⟩
      · replace hx := xif_f hc102 hx
        refine wc_skip ?_
        refine bk_n ?_
        refine sq_n ?_
        refine wc_region ?_
        refine wv rfl (r_move rfl) ?_
        obtain ⟨hg106, hx⟩ := xg_some hx
        refine wv rfl (r_add rfl rfl hg106) ?_
        refine wv rfl (r_assign rfl) ?_
        refine wl_nil ?_
        obtain rfl := Option.some.inj hx
        exact lp_end (m79, i74 + 1) (Nat.lt_succ_self _) ⟨rfl, rfl, rfl, trivial⟩ ⟨hM, hx81⟩
    · replace hx := xif_f hc86 hx
      refine wc_exit ?_
      refine sq_exit ?_
      refine lp1_exit ?_
      obtain rfl := Option.some.inj hx
      obtain rfl := Option.some.inj hx81
      replace hx := hx73
      try dsimp only [Sum.elim_inl, Sum.elim_inr] at hx
      refine bk_here ?_
      refine sq_n ?_
      refine wc_seq ?_
      refine wc_region ?_
      refine wv rfl (r_assign rfl) ?_
      refine wl_nil ?_
      refine sq_n ?_
      refine wc_ret ?_
      obtain rfl := Option.some.inj hx
      refine fin_ret [(.bool true)] ⟨rfl, trivial⟩ ?_
      replace hM : St ⟨w, X, S⟩ [] [rV s_a.v (cSl 1 fI a), rV s_b.v (cSl 1 fI b)] _ := hM.tk 0
      have hM := hM.fewer rsN
      exact ⟨(), rfl, hM.gives⟩

noncomputable def x_laws_eqPart (a : DPart) (b : DPart) : Option Bool :=
  bif !decide (a.kind = b.kind) then (some false) else (bif !decide (a.n = b.n) then (some false) else (Option.bind (x_laws_eqIntS a.signs b.signs) fun r26 => bif !r26 then (some false) else (some true)))
theorem ct_laws_eqPart (w : World) (X S : Bs) (a : DPart) (s_a_2 : Sv) (b : DPart) (s_b_2 : Sv) (hS : ∀ b, S b → b < w.heap.size ∧ ¬ X b) (a_a_2 : (cSl 1 fI a.signs).rd S w s_a_2.v) (a_b_2 : (cSl 1 fI b.signs).rd S w s_b_2.v) (oL : Sep [] X w) {r : Bool} (hx : x_laws_eqPart a b = some r) :
    Ret Try.prog 66 [(.agg #[(.int .i64 a.kind), (.int .i64 a.n), s_a_2.v]), (.agg #[(.int .i64 b.kind), (.int .i64 b.n), s_b_2.v])] w (fun u w' => ∃ _ : Unit, u = (.bool r) ∧ Gives X S w [] [] w') := by
  unfold x_laws_eqPart at hx
  refine enter Try.func66 rfl Try.ntmps66 (by kernel_rfl) rfl ?_
  have hM := St.enter oL hS
  have hM := hM.addE (r := rV s_a_2.v (cSl 1 fI a.signs)) a_a_2
  have hM := hM.addE (r := rV s_b_2.v (cSl 1 fI b.signs)) a_b_2
  refine wc_seq ?_
  refine wc_region ?_
  refine w_ex rfl (x_box rfl hM ?_); intro b34 w33 hR35 hM
  replace hM : St ⟨w, X, S⟩ [oBox b34 #[(.int .i64 a.kind), (.int .i64 a.n), s_a_2.v] 79] [rV s_b_2.v (cSl 1 fI b.signs), rV s_a_2.v (cSl 1 fI a.signs)] _ := hM
  refine w_ex rfl (x_box rfl hM ?_); intro b38 w37 hR39 hM
  replace hM : St ⟨w, X, S⟩ [oBox b38 #[(.int .i64 b.kind), (.int .i64 b.n), s_b_2.v] 79, oBox b34 #[(.int .i64 a.kind), (.int .i64 a.n), s_a_2.v] 79] [rV s_b_2.v (cSl 1 fI b.signs), rV s_a_2.v (cSl 1 fI a.signs)] _ := hM
  refine wv rfl (r_assign rfl) ?_
  refine wl_nil ?_
  refine sq_n ?_
  refine wc_seq ?_
  refine wc_seq ?_
  refine wc_region ?_
  refine wv rfl (r_fld Try.underlying79 rfl rfl sz3 rfl) ?_
  refine wv rfl (r_ldB Try.underlying3 rfl rfl hM (.tail _ (.head _)) rfl) ?_
  refine wv rfl (r_fld Try.underlying79 rfl rfl sz3 rfl) ?_
  refine wv rfl (r_ldB Try.underlying3 rfl rfl hM (.head _) rfl) ?_
  refine wv rfl (r_neq rfl rfl) ?_
  refine wl_nil ?_
  refine sq_n ?_
  refine wc_cond rfl (fun hc47 => ?_) (fun hc47 => ?_)
  · replace hx := xif_t hc47 hx
    refine wc_seq ?_
    refine wc_region ?_
    refine wv rfl (r_assign rfl) ?_
    refine wl_nil ?_
    refine sq_n ?_
    refine wc_ret ?_
    refine sq_ret ?_
    obtain rfl := Option.some.inj hx
    refine fin_ret [(.bool false)] ⟨rfl, trivial⟩ ?_
    replace hM : St ⟨w, X, S⟩ [] [rV s_b_2.v (cSl 1 fI b.signs), rV s_a_2.v (cSl 1 fI a.signs)] _ := hM.tk 0
    have hM := hM.fewer rsN
    exact ⟨(), rfl, hM.gives⟩
  · replace hx := xif_f hc47 hx
    refine wc_skip ?_
    refine sq_n ?_
    refine wc_seq ?_
    refine wc_seq ?_
    refine wc_region ?_
    refine wv rfl (r_fld Try.underlying79 rfl rfl sz3 rfl) ?_
    refine wv rfl (r_ldB Try.underlying3 rfl rfl hM (.tail _ (.head _)) rfl) ?_
    refine wv rfl (r_fld Try.underlying79 rfl rfl sz3 rfl) ?_
    refine wv rfl (r_ldB Try.underlying3 rfl rfl hM (.head _) rfl) ?_
    refine wv rfl (r_neq rfl rfl) ?_
    refine wl_nil ?_
    refine sq_n ?_
    refine wc_cond rfl (fun hc54 => ?_) (fun hc54 => ?_)
    · replace hx := xif_t hc54 hx
      refine wc_seq ?_
      refine wc_region ?_
      refine wv rfl (r_assign rfl) ?_
      refine wl_nil ?_
      refine sq_n ?_
      refine wc_ret ?_
      refine sq_ret ?_
      obtain rfl := Option.some.inj hx
      refine fin_ret [(.bool false)] ⟨rfl, trivial⟩ ?_
      replace hM : St ⟨w, X, S⟩ [] [rV s_b_2.v (cSl 1 fI b.signs), rV s_a_2.v (cSl 1 fI a.signs)] _ := hM.tk 0
      have hM := hM.fewer rsN
      exact ⟨(), rfl, hM.gives⟩
    · replace hx := xif_f hc54 hx
      refine wc_skip ?_
      refine sq_n ?_
      refine wc_seq ?_
      refine wc_seq ?_
      refine wc_region ?_
      refine wv rfl (r_fld Try.underlying79 rfl rfl sz24 rfl) ?_
      refine wv rfl (r_ldB Try.underlying24 rfl rfl hM (.tail _ (.head _)) rfl) ?_
      refine wv rfl (r_fld Try.underlying79 rfl rfl sz24 rfl) ?_
      refine wv rfl (r_ldB Try.underlying24 rfl rfl hM (.head _) rfl) ?_
      obtain ⟨r60, h61, hx⟩ := bind_some' hx
      refine w_call rfl rfl (hM.callV fun X S oL hS hR hO => ct_laws_eqIntS _ X S a.signs s_a_2 b.signs s_b_2 hS (hR _ (.tail _ (.head _))) (hR _ (.head _)) oL h61) ?_
      rintro _ w62 ⟨rfl, hR63⟩
      have hM := hM.call hR63
      refine wv rfl (r_not rfl) ?_
      refine wl_nil ?_
      refine sq_n ?_
      refine wc_cond rfl (fun hc65 => ?_) (fun hc65 => ?_)
      · replace hx := xif_t hc65 hx
        refine wc_seq ?_
        refine wc_region ?_
        refine wv rfl (r_assign rfl) ?_
        refine wl_nil ?_
        refine sq_n ?_
        refine wc_ret ?_
        refine sq_ret ?_
        obtain rfl := Option.some.inj hx
        refine fin_ret [(.bool false)] ⟨rfl, trivial⟩ ?_
        replace hM : St ⟨w, X, S⟩ [] [rV s_b_2.v (cSl 1 fI b.signs), rV s_a_2.v (cSl 1 fI a.signs)] _ := hM.tk 0
        have hM := hM.fewer rsN
        exact ⟨(), rfl, hM.gives⟩
      · replace hx := xif_f hc65 hx
        refine wc_skip ?_
        refine sq_n ?_
        refine wc_seq ?_
        refine wc_region ?_
        refine wv rfl (r_assign rfl) ?_
        refine wl_nil ?_
        refine sq_n ?_
        refine wc_ret ?_
        obtain rfl := Option.some.inj hx
        refine fin_ret [(.bool true)] ⟨rfl, trivial⟩ ?_
        replace hM : St ⟨w, X, S⟩ [] [rV s_b_2.v (cSl 1 fI b.signs), rV s_a_2.v (cSl 1 fI a.signs)] _ := hM.tk 0
        have hM := hM.fewer rsN
        exact ⟨(), rfl, hM.gives⟩

noncomputable def x_laws_eqPartS_b0 (a : List DPart) (b : List DPart) (i9 : Int) : Option (Lr Int (Sum Unit Unit)) :=
  bif decide (i9 < (a.length : Int)) then (xg (0 ≤ i9 ∧ i9 < (a.length : Int)) <| xg (0 ≤ i9 ∧ i9 < (b.length : Int)) <| Option.bind (x_laws_eqPart (el a i9.toNat) (el b i9.toNat)) fun r61 => bif !r61 then (some (Lr.out (Sum.inr (())))) else (xg (inI (i9 + 1)) <| some (Lr.go (i9 + 1)))) else (some (Lr.out (Sum.inl ())))
noncomputable def x_laws_eqPartS_f0 (a : List DPart) (b : List DPart) (s72 : Int) : Option (Lr Int (Sum Unit Unit)) := x_laws_eqPartS_b0 a b s72
noncomputable def x_laws_eqPartS (a : List DPart) (b : List DPart) : Option Bool :=
  bif !decide ((a.length : Int) = (b.length : Int)) then (some false) else (Option.bind (iter (x_laws_eqPartS_f0 a b) 0) fun (y73 : Sum Unit Unit) => Sum.elim (fun _y74 => some true) (fun _y75 => some false) y73)
theorem ct_laws_eqPartS (w : World) (X S : Bs) (a : List DPart) (s_a : Sv) (b : List DPart) (s_b : Sv) (hS : ∀ b, S b → b < w.heap.size ∧ ¬ X b) (a_a_0 : (cSl 3 fDPart a).rd S w s_a.v) (a_b_0 : (cSl 3 fDPart b).rd S w s_b.v) (oL : Sep [] X w) {r : Bool} (hx : x_laws_eqPartS a b = some r) :
    Ret Try.prog 20 [s_a.v, s_b.v] w (fun u w' => ∃ _ : Unit, u = (.bool r) ∧ Gives X S w [] [] w') := by
  unfold x_laws_eqPartS at hx
  refine enter Try.func20 rfl Try.ntmps20 (by kernel_rfl) rfl ?_
  have hM := St.enter oL hS
  have hM := hM.addE (r := rV s_a.v (cSl 3 fDPart a)) a_a_0
  have hM := hM.addE (r := rV s_b.v (cSl 3 fDPart b)) a_b_0
  refine wc_seq ?_
  refine wc_region ?_
  refine wv rfl (r_assign rfl) ?_
  refine wl_nil ?_
  refine sq_n ?_
  refine wc_seq ?_
  refine wc_seq ?_
  refine wc_region ?_
  refine wv rfl (r_move rfl) ?_
  refine wv rfl (r_lenC Try.underlying26 rfl (hM.seeR (.tail _ (.head _)))) ?_
  refine wv rfl (r_move rfl) ?_
  refine wv rfl (r_lenC Try.underlying26 rfl (hM.seeR (.head _))) ?_
  refine wv rfl (r_neq rfl rfl) ?_
  refine wl_nil ?_
  refine sq_n ?_
  refine wc_cond rfl (fun hc83 => ?_) (fun hc83 => ?_)
  · replace hx := xif_t hc83 hx
    refine wc_seq ?_
    refine wc_region ?_
    refine wv rfl (r_assign rfl) ?_
    refine wl_nil ?_
    refine sq_n ?_
    refine wc_ret ?_
    refine sq_ret ?_
    obtain rfl := Option.some.inj hx
    refine fin_ret [(.bool false)] ⟨rfl, trivial⟩ ?_
    replace hM : St ⟨w, X, S⟩ [] [rV s_b.v (cSl 3 fDPart b), rV s_a.v (cSl 3 fDPart a)] _ := hM.tk 0
    have hM := hM.fewer rsN
    exact ⟨(), rfl, hM.gives⟩
  · replace hx := xif_f hc83 hx
    refine wc_skip ?_
    refine sq_n ?_
    refine wc_seq ?_
    refine wc_seq ?_
    refine wc_region ?_
    refine wv rfl (r_assign rfl) ?_
    refine wl_nil ?_
    refine sq_n ?_
    refine wc_block ?_
    obtain ⟨y86, hx, hx87⟩ := bind_some' hx
    have hM := hM.fewer (rsC (.tail _ (.head _)) (rsC (.head _) rsN))
    replace hM : St ⟨w, X, S⟩ [] [rV s_a.v (cSl 3 fDPart a), rV s_b.v (cSl 3 fDPart b)] _ := hM
    obtain ⟨m91, hx⟩ := iter_run hx
    refine wc_loop (un fun (m89 : Nat) => fun (i88 : Int) => [(0, s_a.v), (1, s_b.v), (5, (.int .i64 i88))]) (un fun (m89 : Nat) => fun (i88 : Int) w' => St ⟨w, X, S⟩ [] [rV s_a.v (cSl 3 fDPart a), rV s_b.v (cSl 3 fDPart b)] w' ∧ iterN _ m89 i88 = some y86) (fun p => p.1) (m91, 0) ⟨rfl, rfl, rfl, trivial⟩ ⟨hM, hx⟩ ?_
    rintro ⟨m89, i88⟩ w92 ⟨hM, hx⟩
    obtain ⟨m93, z94, rfl, hx, hx95⟩ := iterN_step hx
    unfold x_laws_eqPartS_f0 x_laws_eqPartS_b0 at hx
    try dsimp only at hx
    refine wc_seq ?_
    refine wc_seq ?_
    refine wc_region ?_
    refine wv rfl (r_move rfl) ?_
    refine wv rfl (r_move rfl) ?_
    refine wv rfl (r_lenC Try.underlying26 rfl (hM.seeR (.head _))) ?_
    refine wv rfl (r_lss rfl rfl) ?_
    refine wl_nil ?_
    refine sq_n ?_
    refine wc_cond rfl (fun hc100 => ?_) (fun hc100 => ?_)
    · replace hx := xif_t hc100 hx
      refine wc_skip ?_
      refine sq_n ?_
      refine wc_seq ?_
      refine wc_block ?_
      refine wc_seq ?_
      refine wc_draw [(0, 0), (1, 0), (2, 0), (3, 0), (4, 0), (5, 0), (6, 0), (7, 0), (8, 0), (9, 0)] Try_mixed (by kernel_rfl) rfl (by kernel_rfl) rfl ?_
      refine ov rfl (fun w' h' => r_move rfl) ?_
      refine ov rfl (fun w' h' => r_move rfl) ?_
      obtain ⟨hg105, hx⟩ := xg_some hx
      have hi104 : i88.toNat < a.length := by omega
      refine ov rfl (fun w' h' => r_ixC Try.underlying26 sz79 rfl rfl ((hM.call h').seeR (.head _)) hg105) ?_
      obtain ⟨s107, hM, hc108⟩ := hM.leaf (i := i88.toNat) (j := 2) (.head _) (fun _ => rfl) hi104 rfl
      refine ov rfl (fun w' h' => r_ldC (o := i88.toNat * 3) Try.underlying79 sz79 rfl (us := [(.int .i64 ((el a i88.toNat).kind)), (.int .i64 ((el a i88.toNat).n)), s107.v]) rfl ((hM.call h').seeR (.tail _ (.head _))) hi104 ⟨(Cs.get (i := i88.toNat) (j := 0) ((hM.call h').seeR (.tail _ (.head _))) (fun _ => rfl) hi104 rfl), (Cs.get (i := i88.toNat) (j := 1) ((hM.call h').seeR (.tail _ (.head _))) (fun _ => rfl) hi104 rfl), (hc108 w' h'), trivial⟩) ?_
      refine ov rfl (fun w' h' => r_move rfl) ?_
      refine ov rfl (fun w' h' => r_move rfl) ?_
      obtain ⟨hg113, hx⟩ := xg_some hx
      have hi112 : i88.toNat < b.length := by omega
      refine ov rfl (fun w' h' => r_ixC Try.underlying26 sz79 rfl rfl ((hM.call h').seeR (.tail _ (.tail _ (.head _)))) hg113) ?_
      obtain ⟨s115, hM, hc116⟩ := hM.leaf (i := i88.toNat) (j := 2) (.tail _ (.tail _ (.head _))) (fun _ => rfl) hi112 rfl
      refine ov rfl (fun w' h' => r_ldC (o := i88.toNat * 3) Try.underlying79 sz79 rfl (us := [(.int .i64 ((el b i88.toNat).kind)), (.int .i64 ((el b i88.toNat).n)), s115.v]) rfl ((hM.call h').seeR (.tail _ (.tail _ (.tail _ (.head _))))) hi112 ⟨(Cs.get (i := i88.toNat) (j := 0) ((hM.call h').seeR (.tail _ (.tail _ (.tail _ (.head _))))) (fun _ => rfl) hi112 rfl), (Cs.get (i := i88.toNat) (j := 1) ((hM.call h').seeR (.tail _ (.tail _ (.tail _ (.head _))))) (fun _ => rfl) hi112 rfl), (hc116 w' h'), trivial⟩) ?_
      obtain ⟨r117, h118, hx⟩ := bind_some' hx
      refine oc rfl rfl (fun w' h' => (hM.call h').callV fun X S oL hS hR hO => ct_laws_eqPart _ X S (el a i88.toNat) s107 (el b i88.toNat) s115 hS (hR _ (.tail _ (.head _))) (hR _ (.head _)) oL h118) ?_
      refine ov rfl (fun w' h' => r_not rfl) ?_
      refine o_nil fun w121 hw122 => ?_
      have hM := hM.call hw122
      refine sq_n ?_
      refine wc_cond rfl (fun hc123 => ?_) (fun hc123 => ?_)
      · replace hx := xif_t hc123 hx
        refine wc_seq ?_
        refine wc_region ?_
        refine wv rfl (r_assign rfl) ?_
        refine wl_nil ?_
        refine sq_n ?_
        refine wc_ret ?_
        refine bk_ret ?_
        refine sq_ret ?_
        refine lp1_ret ?_
        obtain rfl := Option.some.inj hx
        obtain rfl := Option.some.inj hx95
        replace hx := hx87
        try dsimp only [Sum.elim_inl, Sum.elim_inr] at hx
        refine bk_ret ?_
        refine sq_ret ?_
        obtain rfl := Option.some.inj hx
        refine fin_ret [(.bool false)] ⟨rfl, trivial⟩ ?_
        replace hM : St ⟨w, X, S⟩ [] [rV s115.v (cSl 1 fI ((el b i88.toNat).signs)), rV s107.v (cSl 1 fI ((el a i88.toNat).signs)), rV s_a.v (cSl 3 fDPart a), rV s_b.v (cSl 3 fDPart b)] _ := hM.tk 0
        have hM := hM.fewer rsN
        exact ⟨(), rfl, hM.gives⟩
      · replace hx := xif_f hc123 hx
        refine wc_skip ?_
        refine bk_n ?_
        refine sq_n ?_
        refine wc_region ?_
        refine wv rfl (r_move rfl) ?_
        obtain ⟨hg127, hx⟩ := xg_some hx
        refine wv rfl (r_add rfl rfl hg127) ?_
        refine wv rfl (r_assign rfl) ?_
        refine wl_nil ?_
        obtain rfl := Option.some.inj hx
        have hM := hM.fewer (rsC (.tail _ (.tail _ (.head _))) (rsC (.tail _ (.tail _ (.tail _ (.head _)))) rsN))
        replace hM : St ⟨w, X, S⟩ [] [rV s_a.v (cSl 3 fDPart a), rV s_b.v (cSl 3 fDPart b)] _ := hM
        exact lp_end (m93, i88 + 1) (Nat.lt_succ_self _) ⟨rfl, rfl, rfl, trivial⟩ ⟨hM, hx95⟩
    · replace hx := xif_f hc100 hx
      refine wc_exit ?_
      refine sq_exit ?_
      refine lp1_exit ?_
      obtain rfl := Option.some.inj hx
      obtain rfl := Option.some.inj hx95
      replace hx := hx87
      try dsimp only [Sum.elim_inl, Sum.elim_inr] at hx
      refine bk_here ?_
      refine sq_n ?_
      refine wc_seq ?_
      refine wc_region ?_
      refine wv rfl (r_assign rfl) ?_
      refine wl_nil ?_
      refine sq_n ?_
      refine wc_ret ?_
      obtain rfl := Option.some.inj hx
      refine fin_ret [(.bool true)] ⟨rfl, trivial⟩ ?_
      replace hM : St ⟨w, X, S⟩ [] [rV s_a.v (cSl 3 fDPart a), rV s_b.v (cSl 3 fDPart b)] _ := hM.tk 0
      have hM := hM.fewer rsN
      exact ⟨(), rfl, hM.gives⟩

noncomputable def x_laws_markIntS_b0 (k26 : Int) (i27 : Int) (l28 : List Int) : Option (Lr (Int × Int × List Int) (Int × List Int)) :=
  bif decide (i27 < (l28.length : Int)) then (xg (0 ≤ i27 ∧ i27 < (l28.length : Int)) <| xg (inI (k26 + 1)) <| xg (inI (i27 + 1)) <| some (Lr.go (k26 + 1, i27 + 1, l28.set i27.toNat k26))) else (some (Lr.out (k26, l28)))
noncomputable def x_laws_markIntS_f0 (s70 : Int × Int × List Int) : Option (Lr (Int × Int × List Int) (Int × List Int)) := x_laws_markIntS_b0 s70.1 s70.2.1 s70.2.2
noncomputable def x_laws_markIntS (a : List Int) (k : Int) : Option (Int × List Int) :=
  Option.bind (iter (x_laws_markIntS_f0) (k, 0, a)) fun (y71 : Int × List Int) => some (y71.1, y71.2)
theorem ct_laws_markIntS (w : World) (X S : Bs) (a : List Int) (s_a : Sv) (k : Int) (hS : ∀ b, S b → b < w.heap.size ∧ ¬ X b)  (oL : Sep [oC (cSl 1 fI a) s_a.v] X w) {r : Int × List Int} (hx : x_laws_markIntS a k = some r) :
    Ret Try.prog 22 [s_a.v, (.int .i64 k)] w (fun u w' => ∃ _ : Unit, u = (.int .i64 r.1) ∧ Gives X S w [oC (cSl 1 fI r.2) s_a.v] [] w') := by
  unfold x_laws_markIntS at hx
  refine enter Try.func22 rfl Try.ntmps22 (by kernel_rfl) rfl ?_
  have hM := St.enter oL hS
  refine wc_seq ?_
  refine wc_region ?_
  refine wv rfl (r_assign rfl) ?_
  refine wl_nil ?_
  refine sq_n ?_
  refine wc_seq ?_
  refine wc_seq ?_
  refine wc_region ?_
  refine wv rfl (r_assign rfl) ?_
  refine wl_nil ?_
  refine sq_n ?_
  refine wc_block ?_
  obtain ⟨y77, hx, hx78⟩ := bind_some' hx
  obtain ⟨m84, hx⟩ := iter_run hx
  refine wc_loop (un fun (m82 : Nat) => un fun (k79 : Int) => un fun (i80 : Int) => fun (l81 : List Int) => [(0, s_a.v), (1, (.int .i64 k79)), (5, (.int .i64 i80))]) (un fun (m82 : Nat) => un fun (k79 : Int) => un fun (i80 : Int) => fun (l81 : List Int) w' => St ⟨w, X, S⟩ [oC (cSl 1 fI l81) s_a.v] [] w' ∧ iterN _ m82 (k79, i80, l81) = some y77) (fun p => p.1) (m84, k, 0, a) ⟨rfl, rfl, rfl, trivial⟩ ⟨hM, hx⟩ ?_
  rintro ⟨m82, k79, i80, l81⟩ w85 ⟨hM, hx⟩
  obtain ⟨m86, z87, rfl, hx, hx88⟩ := iterN_step hx
  unfold x_laws_markIntS_f0 x_laws_markIntS_b0 at hx
  try dsimp only at hx
  refine wc_seq ?_
  refine wc_seq ?_
  refine wc_region ?_
  refine wv rfl (r_move rfl) ?_
  refine wv rfl (r_move rfl) ?_
  refine wv rfl (r_lenC Try.underlying24 rfl (hM.seeO (.head _))) ?_
  refine wv rfl (r_lss rfl rfl) ?_
  refine wl_nil ?_
  refine sq_n ?_
  refine wc_cond rfl (fun hc93 => ?_) (fun hc93 => ?_)
  · replace hx := xif_t hc93 hx
    refine wc_skip ?_
    refine sq_n ?_
    refine wc_seq ?_
    refine wc_block ?_
    refine wc_seq ?_
    refine wc_region ?_
    refine wv rfl (r_move rfl) ?_
    refine wv rfl (r_move rfl) ?_
    refine wv rfl (r_move rfl) ?_
    obtain ⟨hg99, hx⟩ := xg_some hx
    have hi98 : i80.toNat < l81.length := by omega
    refine wv rfl (r_ixC Try.underlying24 sz3 rfl rfl (hM.seeO (.head _)) hg99) ?_
    refine w_exu (x_stE (f := fI) (k := 1) (L := l81) (i := i80.toNat) (j := 0) k79 [cI k79] sz3 (fun _ => rfl) rfl rfl hi98 rfl rfl rfl rfl rfl (fun _ => zP (pV _ rfl) zN) hM ?_); intro w100 hM
    refine wl_nil ?_
    refine sq_n ?_
    refine wc_region ?_
    refine wv rfl (r_move rfl) ?_
    obtain ⟨hg104, hx⟩ := xg_some hx
    refine wv rfl (r_add rfl rfl hg104) ?_
    refine wv rfl (r_assign rfl) ?_
    refine wl_nil ?_
    refine bk_n ?_
    refine sq_n ?_
    refine wc_region ?_
    refine wv rfl (r_move rfl) ?_
    obtain ⟨hg108, hx⟩ := xg_some hx
    refine wv rfl (r_add rfl rfl hg108) ?_
    refine wv rfl (r_assign rfl) ?_
    refine wl_nil ?_
    obtain rfl := Option.some.inj hx
    exact lp_end (m86, k79 + 1, i80 + 1, l81.set i80.toNat k79) (Nat.lt_succ_self _) ⟨rfl, rfl, rfl, trivial⟩ ⟨hM, hx88⟩
  · replace hx := xif_f hc93 hx
    refine wc_exit ?_
    refine sq_exit ?_
    refine lp1_exit ?_
    obtain rfl := Option.some.inj hx
    obtain rfl := Option.some.inj hx88
    replace hx := hx78
    try dsimp only [Sum.elim_inl, Sum.elim_inr] at hx
    refine bk_here ?_
    refine sq_n ?_
    refine wc_seq ?_
    refine wc_region ?_
    refine wv rfl (r_move rfl) ?_
    refine wv rfl (r_assign rfl) ?_
    refine wl_nil ?_
    refine sq_n ?_
    refine wc_ret ?_
    obtain rfl := Option.some.inj hx
    refine fin_ret [(.int .i64 k79)] ⟨rfl, trivial⟩ ?_
    replace hM : St ⟨w, X, S⟩ [oC (cSl 1 fI l81) s_a.v] [] _ := hM.tk 1
    have hM := hM.fewer rsN
    exact ⟨(), rfl, hM.gives⟩

noncomputable def x_laws_markPartS_b0 (k56 : Int) (i57 : Int) (l58 : List DPart) : Option (Lr (Int × Int × List DPart) (Int × List DPart)) :=
  bif decide (i57 < (l58.length : Int)) then (xg (0 ≤ i57 ∧ i57 < (l58.length : Int)) <| xg (inI (k56 + 1)) <| xg (0 ≤ i57 ∧ i57 < ((l58.set i57.toNat (⟨k56, (el l58 i57.toNat).n, (el l58 i57.toNat).signs⟩ : DPart)).length : Int)) <| xg (inI ((k56 + 1) + 1)) <| xg (0 ≤ i57 ∧ i57 < (((l58.set i57.toNat (⟨k56, (el l58 i57.toNat).n, (el l58 i57.toNat).signs⟩ : DPart)).set i57.toNat (⟨(el (l58.set i57.toNat (⟨k56, (el l58 i57.toNat).n, (el l58 i57.toNat).signs⟩ : DPart)) i57.toNat).kind, k56 + 1, (el (l58.set i57.toNat (⟨k56, (el l58 i57.toNat).n, (el l58 i57.toNat).signs⟩ : DPart)) i57.toNat).signs⟩ : DPart)).length : Int)) <| Option.bind (x_laws_markIntS ((el ((l58.set i57.toNat (⟨k56, (el l58 i57.toNat).n, (el l58 i57.toNat).signs⟩ : DPart)).set i57.toNat (⟨(el (l58.set i57.toNat (⟨k56, (el l58 i57.toNat).n, (el l58 i57.toNat).signs⟩ : DPart)) i57.toNat).kind, k56 + 1, (el (l58.set i57.toNat (⟨k56, (el l58 i57.toNat).n, (el l58 i57.toNat).signs⟩ : DPart)) i57.toNat).signs⟩ : DPart)) i57.toNat).signs) ((k56 + 1) + 1)) fun r152 => xg (inI (i57 + 1)) <| some (Lr.go (r152.1, i57 + 1, ((l58.set i57.toNat (⟨k56, (el l58 i57.toNat).n, (el l58 i57.toNat).signs⟩ : DPart)).set i57.toNat (⟨(el (l58.set i57.toNat (⟨k56, (el l58 i57.toNat).n, (el l58 i57.toNat).signs⟩ : DPart)) i57.toNat).kind, k56 + 1, (el (l58.set i57.toNat (⟨k56, (el l58 i57.toNat).n, (el l58 i57.toNat).signs⟩ : DPart)) i57.toNat).signs⟩ : DPart)).set i57.toNat (⟨(el ((l58.set i57.toNat (⟨k56, (el l58 i57.toNat).n, (el l58 i57.toNat).signs⟩ : DPart)).set i57.toNat (⟨(el (l58.set i57.toNat (⟨k56, (el l58 i57.toNat).n, (el l58 i57.toNat).signs⟩ : DPart)) i57.toNat).kind, k56 + 1, (el (l58.set i57.toNat (⟨k56, (el l58 i57.toNat).n, (el l58 i57.toNat).signs⟩ : DPart)) i57.toNat).signs⟩ : DPart)) i57.toNat).kind, (el ((l58.set i57.toNat (⟨k56, (el l58 i57.toNat).n, (el l58 i57.toNat).signs⟩ : DPart)).set i57.toNat (⟨(el (l58.set i57.toNat (⟨k56, (el l58 i57.toNat).n, (el l58 i57.toNat).signs⟩ : DPart)) i57.toNat).kind, k56 + 1, (el (l58.set i57.toNat (⟨k56, (el l58 i57.toNat).n, (el l58 i57.toNat).signs⟩ : DPart)) i57.toNat).signs⟩ : DPart)) i57.toNat).n, r152.2⟩ : DPart)))) else (some (Lr.out (k56, l58)))
noncomputable def x_laws_markPartS_f0 (s160 : Int × Int × List DPart) : Option (Lr (Int × Int × List DPart) (Int × List DPart)) := x_laws_markPartS_b0 s160.1 s160.2.1 s160.2.2
noncomputable def x_laws_markPartS (a : List DPart) (k : Int) : Option (Int × List DPart) :=
  Option.bind (iter (x_laws_markPartS_f0) (k, 0, a)) fun (y161 : Int × List DPart) => some (y161.1, y161.2)
theorem ct_laws_markPartS (w : World) (X S : Bs) (a : List DPart) (s_a : Sv) (k : Int) (hS : ∀ b, S b → b < w.heap.size ∧ ¬ X b)  (oL : Sep [oC (cSl 3 fDPart a) s_a.v] X w) {r : Int × List DPart} (hx : x_laws_markPartS a k = some r) :
    Ret Try.prog 21 [s_a.v, (.int .i64 k)] w (fun u w' => ∃ _ : Unit, u = (.int .i64 r.1) ∧ Gives X S w [oC (cSl 3 fDPart r.2) s_a.v] [] w') := by
  unfold x_laws_markPartS at hx
  refine enter Try.func21 rfl Try.ntmps21 (by kernel_rfl) rfl ?_
  have hM := St.enter oL hS
  refine wc_seq ?_
  refine wc_region ?_
  refine wv rfl (r_assign rfl) ?_
  refine wl_nil ?_
  refine sq_n ?_
  refine wc_seq ?_
  refine wc_seq ?_
  refine wc_region ?_
  refine wv rfl (r_assign rfl) ?_
  refine wl_nil ?_
  refine sq_n ?_
  refine wc_block ?_
  obtain ⟨y167, hx, hx168⟩ := bind_some' hx
  obtain ⟨m174, hx⟩ := iter_run hx
  refine wc_loop (un fun (m172 : Nat) => un fun (k169 : Int) => un fun (i170 : Int) => fun (l171 : List DPart) => [(0, s_a.v), (1, (.int .i64 k169)), (5, (.int .i64 i170))]) (un fun (m172 : Nat) => un fun (k169 : Int) => un fun (i170 : Int) => fun (l171 : List DPart) w' => St ⟨w, X, S⟩ [oC (cSl 3 fDPart l171) s_a.v] [] w' ∧ iterN _ m172 (k169, i170, l171) = some y167) (fun p => p.1) (m174, k, 0, a) ⟨rfl, rfl, rfl, trivial⟩ ⟨hM, hx⟩ ?_
  rintro ⟨m172, k169, i170, l171⟩ w175 ⟨hM, hx⟩
  obtain ⟨m176, z177, rfl, hx, hx178⟩ := iterN_step hx
  unfold x_laws_markPartS_f0 x_laws_markPartS_b0 at hx
  try dsimp only at hx
  refine wc_seq ?_
  refine wc_seq ?_
  refine wc_region ?_
  refine wv rfl (r_move rfl) ?_
  refine wv rfl (r_move rfl) ?_
  refine wv rfl (r_lenC Try.underlying26 rfl (hM.seeO (.head _))) ?_
  refine wv rfl (r_lss rfl rfl) ?_
  refine wl_nil ?_
  refine sq_n ?_
  refine wc_cond rfl (fun hc183 => ?_) (fun hc183 => ?_)
  · replace hx := xif_t hc183 hx
    refine wc_skip ?_
    refine sq_n ?_
    refine wc_seq ?_
    refine wc_block ?_
    refine wc_seq ?_
    refine wc_region ?_
    refine wv rfl (r_move rfl) ?_
    refine wv rfl (r_move rfl) ?_
    refine wv rfl (r_move rfl) ?_
    obtain ⟨hg189, hx⟩ := xg_some hx
    have hi188 : i170.toNat < l171.length := by omega
    refine wv rfl (r_ixC Try.underlying26 sz79 rfl rfl (hM.seeO (.head _)) hg189) ?_
    refine wv rfl (r_fldC (i := i170.toNat) Try.underlying79 rfl rfl sz3 rfl (hM.seeO (.head _)) hi188) ?_
    refine w_exu (x_stE (f := fDPart) (k := 3) (L := l171) (i := i170.toNat) (j := 0) (⟨k169, (el l171 i170.toNat).n, (el l171 i170.toNat).signs⟩ : DPart) [cI k169] sz3 (fun _ => rfl) rfl rfl hi188 rfl rfl rfl rfl rfl (fun _ => zP (pV _ rfl) zN) hM ?_); intro w191 hM
    refine wl_nil ?_
    refine sq_n ?_
    refine wc_seq ?_
    refine wc_region ?_
    refine wv rfl (r_move rfl) ?_
    obtain ⟨hg195, hx⟩ := xg_some hx
    refine wv rfl (r_add rfl rfl hg195) ?_
    refine wv rfl (r_assign rfl) ?_
    refine wl_nil ?_
    refine sq_n ?_
    refine wc_seq ?_
    refine wc_region ?_
    refine wv rfl (r_move rfl) ?_
    refine wv rfl (r_move rfl) ?_
    refine wv rfl (r_move rfl) ?_
    obtain ⟨hg202, hx⟩ := xg_some hx
    have hi201 : i170.toNat < (l171.set i170.toNat (⟨k169, (el l171 i170.toNat).n, (el l171 i170.toNat).signs⟩ : DPart)).length := by omega
    refine wv rfl (r_ixC Try.underlying26 sz79 rfl rfl (hM.seeO (.head _)) hg202) ?_
    refine wv rfl (r_fldC (i := i170.toNat) Try.underlying79 rfl rfl sz3 rfl (hM.seeO (.head _)) hi201) ?_
    refine w_exu (x_stE (f := fDPart) (k := 3) (L := (l171.set i170.toNat (⟨k169, (el l171 i170.toNat).n, (el l171 i170.toNat).signs⟩ : DPart))) (i := i170.toNat) (j := 1) (⟨(el (l171.set i170.toNat (⟨k169, (el l171 i170.toNat).n, (el l171 i170.toNat).signs⟩ : DPart)) i170.toNat).kind, k169 + 1, (el (l171.set i170.toNat (⟨k169, (el l171 i170.toNat).n, (el l171 i170.toNat).signs⟩ : DPart)) i170.toNat).signs⟩ : DPart) [cI (k169 + 1)] sz3 (fun _ => rfl) rfl rfl hi201 rfl rfl rfl rfl rfl (fun _ => zP (pV _ rfl) zN) hM ?_); intro w204 hM
    refine wl_nil ?_
    refine sq_n ?_
    refine wc_seq ?_
    refine wc_region ?_
    refine wv rfl (r_move rfl) ?_
    obtain ⟨hg208, hx⟩ := xg_some hx
    refine wv rfl (r_add rfl rfl hg208) ?_
    refine wv rfl (r_assign rfl) ?_
    refine wl_nil ?_
    refine sq_n ?_
    refine wc_region ?_
    refine wv rfl (r_move rfl) ?_
    refine wv rfl (r_move rfl) ?_
    obtain ⟨hg214, hx⟩ := xg_some hx
    have hi213 : i170.toNat < ((l171.set i170.toNat (⟨k169, (el l171 i170.toNat).n, (el l171 i170.toNat).signs⟩ : DPart)).set i170.toNat (⟨(el (l171.set i170.toNat (⟨k169, (el l171 i170.toNat).n, (el l171 i170.toNat).signs⟩ : DPart)) i170.toNat).kind, k169 + 1, (el (l171.set i170.toNat (⟨k169, (el l171 i170.toNat).n, (el l171 i170.toNat).signs⟩ : DPart)) i170.toNat).signs⟩ : DPart)).length := by omega
    refine wv rfl (r_ixC Try.underlying26 sz79 rfl rfl (hM.seeO (.head _)) hg214) ?_
    refine wv rfl (r_fldC (i := i170.toNat) Try.underlying79 rfl rfl sz24 rfl (hM.seeO (.head _)) hi213) ?_
    obtain ⟨s217, hM, hc218⟩ := hM.leafO (i := i170.toNat) (j := 2) (fun _ => rfl) hi213 rfl
    refine wv rfl (r_ld Try.underlying24 rfl rfl (hc218 _ (Rel.refl _))) ?_
    refine wv rfl (r_move rfl) ?_
    have hM := hM.open (i := i170.toNat) (j := 2) (.tail _ (.head _)) (fun _ => rfl) hi213 rfl
    obtain ⟨r222, h223, hx⟩ := bind_some' hx
    refine w_call rfl rfl (hM.callO (l := [oC (cSl 1 fI ((el ((l171.set i170.toNat (⟨k169, (el l171 i170.toNat).n, (el l171 i170.toNat).signs⟩ : DPart)).set i170.toNat (⟨(el (l171.set i170.toNat (⟨k169, (el l171 i170.toNat).n, (el l171 i170.toNat).signs⟩ : DPart)) i170.toNat).kind, k169 + 1, (el (l171.set i170.toNat (⟨k169, (el l171 i170.toNat).n, (el l171 i170.toNat).signs⟩ : DPart)) i170.toNat).signs⟩ : DPart)) i170.toNat).signs)) s217.v]) fun X S oL hS hR hO => ct_laws_markIntS _ X S ((el ((l171.set i170.toNat (⟨k169, (el l171 i170.toNat).n, (el l171 i170.toNat).signs⟩ : DPart)).set i170.toNat (⟨(el (l171.set i170.toNat (⟨k169, (el l171 i170.toNat).n, (el l171 i170.toNat).signs⟩ : DPart)) i170.toNat).kind, k169 + 1, (el (l171.set i170.toNat (⟨k169, (el l171 i170.toNat).n, (el l171 i170.toNat).signs⟩ : DPart)) i170.toNat).signs⟩ : DPart)) i170.toNat).signs) s217 ((k169 + 1) + 1) hS  oL h223) ?_
    rintro _ w224 ⟨_, rfl, hM⟩
    replace hM : St ⟨w, X, S⟩ [oC (cSl 1 fI r222.2) s217.v, oHo 3 fDPart ((l171.set i170.toNat (⟨k169, (el l171 i170.toNat).n, (el l171 i170.toNat).signs⟩ : DPart)).set i170.toNat (⟨(el (l171.set i170.toNat (⟨k169, (el l171 i170.toNat).n, (el l171 i170.toNat).signs⟩ : DPart)) i170.toNat).kind, k169 + 1, (el (l171.set i170.toNat (⟨k169, (el l171 i170.toNat).n, (el l171 i170.toNat).signs⟩ : DPart)) i170.toNat).signs⟩ : DPart)) s_a.v (i170.toNat * 3 + 2) s217.v] [] _ := hM
    have hM := hM.close (i := i170.toNat) (j := 2) (⟨(el ((l171.set i170.toNat (⟨k169, (el l171 i170.toNat).n, (el l171 i170.toNat).signs⟩ : DPart)).set i170.toNat (⟨(el (l171.set i170.toNat (⟨k169, (el l171 i170.toNat).n, (el l171 i170.toNat).signs⟩ : DPart)) i170.toNat).kind, k169 + 1, (el (l171.set i170.toNat (⟨k169, (el l171 i170.toNat).n, (el l171 i170.toNat).signs⟩ : DPart)) i170.toNat).signs⟩ : DPart)) i170.toNat).kind, (el ((l171.set i170.toNat (⟨k169, (el l171 i170.toNat).n, (el l171 i170.toNat).signs⟩ : DPart)).set i170.toNat (⟨(el (l171.set i170.toNat (⟨k169, (el l171 i170.toNat).n, (el l171 i170.toNat).signs⟩ : DPart)) i170.toNat).kind, k169 + 1, (el (l171.set i170.toNat (⟨k169, (el l171 i170.toNat).n, (el l171 i170.toNat).signs⟩ : DPart)) i170.toNat).signs⟩ : DPart)) i170.toNat).n, r222.2⟩ : DPart) (fun _ => rfl) hi213 rfl rfl
    refine wv rfl (r_assign rfl) ?_
    refine wl_nil ?_
    refine bk_n ?_
    refine sq_n ?_
    refine wc_region ?_
    refine wv rfl (r_move rfl) ?_
    obtain ⟨hg228, hx⟩ := xg_some hx
    refine wv rfl (r_add rfl rfl hg228) ?_
    refine wv rfl (r_assign rfl) ?_
    refine wl_nil ?_
    obtain rfl := Option.some.inj hx
    exact lp_end (m176, r222.1, i170 + 1, ((l171.set i170.toNat (⟨k169, (el l171 i170.toNat).n, (el l171 i170.toNat).signs⟩ : DPart)).set i170.toNat (⟨(el (l171.set i170.toNat (⟨k169, (el l171 i170.toNat).n, (el l171 i170.toNat).signs⟩ : DPart)) i170.toNat).kind, k169 + 1, (el (l171.set i170.toNat (⟨k169, (el l171 i170.toNat).n, (el l171 i170.toNat).signs⟩ : DPart)) i170.toNat).signs⟩ : DPart)).set i170.toNat (⟨(el ((l171.set i170.toNat (⟨k169, (el l171 i170.toNat).n, (el l171 i170.toNat).signs⟩ : DPart)).set i170.toNat (⟨(el (l171.set i170.toNat (⟨k169, (el l171 i170.toNat).n, (el l171 i170.toNat).signs⟩ : DPart)) i170.toNat).kind, k169 + 1, (el (l171.set i170.toNat (⟨k169, (el l171 i170.toNat).n, (el l171 i170.toNat).signs⟩ : DPart)) i170.toNat).signs⟩ : DPart)) i170.toNat).kind, (el ((l171.set i170.toNat (⟨k169, (el l171 i170.toNat).n, (el l171 i170.toNat).signs⟩ : DPart)).set i170.toNat (⟨(el (l171.set i170.toNat (⟨k169, (el l171 i170.toNat).n, (el l171 i170.toNat).signs⟩ : DPart)) i170.toNat).kind, k169 + 1, (el (l171.set i170.toNat (⟨k169, (el l171 i170.toNat).n, (el l171 i170.toNat).signs⟩ : DPart)) i170.toNat).signs⟩ : DPart)) i170.toNat).n, r222.2⟩ : DPart)) (Nat.lt_succ_self _) ⟨rfl, rfl, rfl, trivial⟩ ⟨hM, hx178⟩
  · replace hx := xif_f hc183 hx
    refine wc_exit ?_
    refine sq_exit ?_
    refine lp1_exit ?_
    obtain rfl := Option.some.inj hx
    obtain rfl := Option.some.inj hx178
    replace hx := hx168
    try dsimp only [Sum.elim_inl, Sum.elim_inr] at hx
    refine bk_here ?_
    refine sq_n ?_
    refine wc_seq ?_
    refine wc_region ?_
    refine wv rfl (r_move rfl) ?_
    refine wv rfl (r_assign rfl) ?_
    refine wl_nil ?_
    refine sq_n ?_
    refine wc_ret ?_
    obtain rfl := Option.some.inj hx
    refine fin_ret [(.int .i64 k169)] ⟨rfl, trivial⟩ ?_
    replace hM : St ⟨w, X, S⟩ [oC (cSl 3 fDPart l171) s_a.v] [] _ := hM.tk 1
    have hM := hM.fewer rsN
    exact ⟨(), rfl, hM.gives⟩

noncomputable def x_laws_heldIntS_b0 (a : List Int) (k3 : Int) (i4 : Int) : Option (Lr (Int × Int) (Sum Int Int)) :=
  bif decide (i4 < (a.length : Int)) then (xg (0 ≤ i4 ∧ i4 < (a.length : Int)) <| bif !decide ((el a i4.toNat) = k3) then (some (Lr.out (Sum.inr (-1)))) else (xg (inI (k3 + 1)) <| xg (inI (i4 + 1)) <| some (Lr.go (k3 + 1, i4 + 1)))) else (some (Lr.out (Sum.inl k3)))
noncomputable def x_laws_heldIntS_f0 (a : List Int) (s47 : Int × Int) : Option (Lr (Int × Int) (Sum Int Int)) := x_laws_heldIntS_b0 a s47.1 s47.2
noncomputable def x_laws_heldIntS (a : List Int) (k : Int) : Option Int :=
  Option.bind (iter (x_laws_heldIntS_f0 a) (k, 0)) fun (y48 : Sum Int Int) => Sum.elim (fun y49 => some y49) (fun y50 => some y50) y48
theorem ct_laws_heldIntS (w : World) (X S : Bs) (a : List Int) (s_a : Sv) (k : Int) (hS : ∀ b, S b → b < w.heap.size ∧ ¬ X b) (a_a_0 : (cSl 1 fI a).rd S w s_a.v) (oL : Sep [] X w) {r : Int} (hx : x_laws_heldIntS a k = some r) :
    Ret Try.prog 23 [s_a.v, (.int .i64 k)] w (fun u w' => ∃ _ : Unit, u = (.int .i64 r) ∧ Gives X S w [] [] w') := by
  unfold x_laws_heldIntS at hx
  refine enter Try.func23 rfl Try.ntmps23 (by kernel_rfl) rfl ?_
  have hM := St.enter oL hS
  have hM := hM.addE (r := rV s_a.v (cSl 1 fI a)) a_a_0
  refine wc_seq ?_
  refine wc_region ?_
  refine wv rfl (r_assign rfl) ?_
  refine wl_nil ?_
  refine sq_n ?_
  refine wc_seq ?_
  refine wc_seq ?_
  refine wc_region ?_
  refine wv rfl (r_assign rfl) ?_
  refine wl_nil ?_
  refine sq_n ?_
  refine wc_block ?_
  obtain ⟨y55, hx, hx56⟩ := bind_some' hx
  obtain ⟨m61, hx⟩ := iter_run hx
  refine wc_loop (un fun (m59 : Nat) => un fun (k57 : Int) => fun (i58 : Int) => [(0, s_a.v), (1, (.int .i64 k57)), (5, (.int .i64 i58))]) (un fun (m59 : Nat) => un fun (k57 : Int) => fun (i58 : Int) w' => St ⟨w, X, S⟩ [] [rV s_a.v (cSl 1 fI a)] w' ∧ iterN _ m59 (k57, i58) = some y55) (fun p => p.1) (m61, k, 0) ⟨rfl, rfl, rfl, trivial⟩ ⟨hM, hx⟩ ?_
  rintro ⟨m59, k57, i58⟩ w62 ⟨hM, hx⟩
  obtain ⟨m63, z64, rfl, hx, hx65⟩ := iterN_step hx
  unfold x_laws_heldIntS_f0 x_laws_heldIntS_b0 at hx
  try dsimp only at hx
  refine wc_seq ?_
  refine wc_seq ?_
  refine wc_region ?_
  refine wv rfl (r_move rfl) ?_
  refine wv rfl (r_move rfl) ?_
  refine wv rfl (r_lenC Try.underlying24 rfl (hM.seeR (.head _))) ?_
  refine wv rfl (r_lss rfl rfl) ?_
  refine wl_nil ?_
  refine sq_n ?_
  refine wc_cond rfl (fun hc70 => ?_) (fun hc70 => ?_)
  · replace hx := xif_t hc70 hx
    refine wc_skip ?_
    refine sq_n ?_
    refine wc_seq ?_
    refine wc_block ?_
    refine wc_seq ?_
    refine wc_seq ?_
    refine wc_region ?_
    refine wv rfl (r_move rfl) ?_
    refine wv rfl (r_move rfl) ?_
    obtain ⟨hg75, hx⟩ := xg_some hx
    have hi74 : i58.toNat < a.length := by omega
    refine wv rfl (r_ixC Try.underlying24 sz3 rfl rfl (hM.seeR (.head _)) hg75) ?_
    refine wv rfl (r_ld Try.underlying3 rfl rfl (Cs.get (i := i58.toNat) (j := 0) (hM.seeR (.head _)) (fun _ => rfl) hi74 rfl)) ?_
    refine wv rfl (r_move rfl) ?_
    refine wv rfl (r_neq rfl rfl) ?_
    refine wl_nil ?_
    refine sq_n ?_
    refine wc_cond rfl (fun hc79 => ?_) (fun hc79 => ?_)
    · replace hx := xif_t hc79 hx
      refine wc_seq ?_
      refine wc_region ?_
      refine wv rfl (r_assign rfl) ?_
      refine wl_nil ?_
      refine sq_n ?_
      refine wc_ret ?_
      refine sq_ret ?_
      refine bk_ret ?_
      refine sq_ret ?_
      refine lp1_ret ?_
      obtain rfl := Option.some.inj hx
      obtain rfl := Option.some.inj hx65
      replace hx := hx56
      try dsimp only [Sum.elim_inl, Sum.elim_inr] at hx
      refine bk_ret ?_
      refine sq_ret ?_
      obtain rfl := Option.some.inj hx
      refine fin_ret [(.int .i64 (-1))] ⟨rfl, trivial⟩ ?_
      replace hM : St ⟨w, X, S⟩ [] [rV s_a.v (cSl 1 fI a)] _ := hM.tk 0
      have hM := hM.fewer rsN
      exact ⟨(), rfl, hM.gives⟩
    · replace hx := xif_f hc79 hx
      refine wc_skip ?_
      refine sq_n ?_
      refine wc_region ?_
      refine wv rfl (r_move rfl) ?_
      obtain ⟨hg83, hx⟩ := xg_some hx
      refine wv rfl (r_add rfl rfl hg83) ?_
      refine wv rfl (r_assign rfl) ?_
      refine wl_nil ?_
      refine bk_n ?_
      refine sq_n ?_
      refine wc_region ?_
      refine wv rfl (r_move rfl) ?_
      obtain ⟨hg87, hx⟩ := xg_some hx
      refine wv rfl (r_add rfl rfl hg87) ?_
      refine wv rfl (r_assign rfl) ?_
      refine wl_nil ?_
      obtain rfl := Option.some.inj hx
      exact lp_end (m63, k57 + 1, i58 + 1) (Nat.lt_succ_self _) ⟨rfl, rfl, rfl, trivial⟩ ⟨hM, hx65⟩
  · replace hx := xif_f hc70 hx
    refine wc_exit ?_
    refine sq_exit ?_
    refine lp1_exit ?_
    obtain rfl := Option.some.inj hx
    obtain rfl := Option.some.inj hx65
    replace hx := hx56
    try dsimp only [Sum.elim_inl, Sum.elim_inr] at hx
    refine bk_here ?_
    refine sq_n ?_
    refine wc_seq ?_
    refine wc_region ?_
    refine wv rfl (r_move rfl) ?_
    refine wv rfl (r_assign rfl) ?_
    refine wl_nil ?_
    refine sq_n ?_
    refine wc_ret ?_
    obtain rfl := Option.some.inj hx
    refine fin_ret [(.int .i64 k57)] ⟨rfl, trivial⟩ ?_
    replace hM : St ⟨w, X, S⟩ [] [rV s_a.v (cSl 1 fI a)] _ := hM.tk 0
    have hM := hM.fewer rsN
    exact ⟨(), rfl, hM.gives⟩

noncomputable def x_laws_heldPartS_b0 (a : List DPart) (k3 : Int) (i4 : Int) : Option (Lr (Int × Int) (Sum Int Int)) :=
  bif decide (i4 < (a.length : Int)) then (xg (0 ≤ i4 ∧ i4 < (a.length : Int)) <| bif !decide (((el a i4.toNat).kind) = k3) then (some (Lr.out (Sum.inr (-1)))) else (xg (inI (k3 + 1)) <| xg (0 ≤ i4 ∧ i4 < (a.length : Int)) <| bif !decide (((el a i4.toNat).n) = (k3 + 1)) then (some (Lr.out (Sum.inr (-1)))) else (xg (inI ((k3 + 1) + 1)) <| xg (0 ≤ i4 ∧ i4 < (a.length : Int)) <| Option.bind (x_laws_heldIntS ((el a i4.toNat).signs) ((k3 + 1) + 1)) fun r101 => bif decide (r101 < 0) then (some (Lr.out (Sum.inr (-1)))) else (xg (inI (i4 + 1)) <| some (Lr.go (r101, i4 + 1)))))) else (some (Lr.out (Sum.inl k3)))
noncomputable def x_laws_heldPartS_f0 (a : List DPart) (s113 : Int × Int) : Option (Lr (Int × Int) (Sum Int Int)) := x_laws_heldPartS_b0 a s113.1 s113.2
noncomputable def x_laws_heldPartS (a : List DPart) (k : Int) : Option Int :=
  Option.bind (iter (x_laws_heldPartS_f0 a) (k, 0)) fun (y114 : Sum Int Int) => Sum.elim (fun y115 => some y115) (fun y116 => some y116) y114
theorem ct_laws_heldPartS (w : World) (X S : Bs) (a : List DPart) (s_a : Sv) (k : Int) (hS : ∀ b, S b → b < w.heap.size ∧ ¬ X b) (a_a_0 : (cSl 3 fDPart a).rd S w s_a.v) (oL : Sep [] X w) {r : Int} (hx : x_laws_heldPartS a k = some r) :
    Ret Try.prog 31 [s_a.v, (.int .i64 k)] w (fun u w' => ∃ _ : Unit, u = (.int .i64 r) ∧ Gives X S w [] [] w') := by
  unfold x_laws_heldPartS at hx
  refine enter Try.func31 rfl Try.ntmps31 (by kernel_rfl) rfl ?_
  have hM := St.enter oL hS
  have hM := hM.addE (r := rV s_a.v (cSl 3 fDPart a)) a_a_0
  refine wc_seq ?_
  refine wc_region ?_
  refine wv rfl (r_assign rfl) ?_
  refine wl_nil ?_
  refine sq_n ?_
  refine wc_seq ?_
  refine wc_seq ?_
  refine wc_region ?_
  refine wv rfl (r_assign rfl) ?_
  refine wl_nil ?_
  refine sq_n ?_
  refine wc_block ?_
  obtain ⟨y121, hx, hx122⟩ := bind_some' hx
  obtain ⟨m127, hx⟩ := iter_run hx
  refine wc_loop (un fun (m125 : Nat) => un fun (k123 : Int) => fun (i124 : Int) => [(0, s_a.v), (1, (.int .i64 k123)), (5, (.int .i64 i124))]) (un fun (m125 : Nat) => un fun (k123 : Int) => fun (i124 : Int) w' => St ⟨w, X, S⟩ [] [rV s_a.v (cSl 3 fDPart a)] w' ∧ iterN _ m125 (k123, i124) = some y121) (fun p => p.1) (m127, k, 0) ⟨rfl, rfl, rfl, trivial⟩ ⟨hM, hx⟩ ?_
  rintro ⟨m125, k123, i124⟩ w128 ⟨hM, hx⟩
  obtain ⟨m129, z130, rfl, hx, hx131⟩ := iterN_step hx
  unfold x_laws_heldPartS_f0 x_laws_heldPartS_b0 at hx
  try dsimp only at hx
  refine wc_seq ?_
  refine wc_seq ?_
  refine wc_region ?_
  refine wv rfl (r_move rfl) ?_
  refine wv rfl (r_move rfl) ?_
  refine wv rfl (r_lenC Try.underlying26 rfl (hM.seeR (.head _))) ?_
  refine wv rfl (r_lss rfl rfl) ?_
  refine wl_nil ?_
  refine sq_n ?_
  refine wc_cond rfl (fun hc136 => ?_) (fun hc136 => ?_)
  · replace hx := xif_t hc136 hx
    refine wc_skip ?_
    refine sq_n ?_
    refine wc_seq ?_
    refine wc_block ?_
    refine wc_seq ?_
    refine wc_seq ?_
    refine wc_region ?_
    refine wv rfl (r_move rfl) ?_
    refine wv rfl (r_move rfl) ?_
    obtain ⟨hg141, hx⟩ := xg_some hx
    have hi140 : i124.toNat < a.length := by omega
    refine wv rfl (r_ixC Try.underlying26 sz79 rfl rfl (hM.seeR (.head _)) hg141) ?_
    refine wv rfl (r_fldC (i := i124.toNat) Try.underlying79 rfl rfl sz3 rfl (hM.seeR (.head _)) hi140) ?_
    refine wv rfl (r_ld Try.underlying3 rfl rfl (Cs.get (i := i124.toNat) (j := 0) (hM.seeR (.head _)) (fun _ => rfl) hi140 rfl)) ?_
    refine wv rfl (r_move rfl) ?_
    refine wv rfl (r_neq rfl rfl) ?_
    refine wl_nil ?_
    refine sq_n ?_
    refine wc_cond rfl (fun hc146 => ?_) (fun hc146 => ?_)
    · replace hx := xif_t hc146 hx
      refine wc_seq ?_
      refine wc_region ?_
      refine wv rfl (r_assign rfl) ?_
      refine wl_nil ?_
      refine sq_n ?_
      refine wc_ret ?_
      refine sq_ret ?_
      refine bk_ret ?_
      refine sq_ret ?_
      refine lp1_ret ?_
      obtain rfl := Option.some.inj hx
      obtain rfl := Option.some.inj hx131
      replace hx := hx122
      try dsimp only [Sum.elim_inl, Sum.elim_inr] at hx
      refine bk_ret ?_
      refine sq_ret ?_
      obtain rfl := Option.some.inj hx
      refine fin_ret [(.int .i64 (-1))] ⟨rfl, trivial⟩ ?_
      replace hM : St ⟨w, X, S⟩ [] [rV s_a.v (cSl 3 fDPart a)] _ := hM.tk 0
      have hM := hM.fewer rsN
      exact ⟨(), rfl, hM.gives⟩
    · replace hx := xif_f hc146 hx
      refine wc_skip ?_
      refine sq_n ?_
      refine wc_seq ?_
      refine wc_region ?_
      refine wv rfl (r_move rfl) ?_
      obtain ⟨hg150, hx⟩ := xg_some hx
      refine wv rfl (r_add rfl rfl hg150) ?_
      refine wv rfl (r_assign rfl) ?_
      refine wl_nil ?_
      refine sq_n ?_
      refine wc_seq ?_
      refine wc_seq ?_
      refine wc_region ?_
      refine wv rfl (r_move rfl) ?_
      refine wv rfl (r_move rfl) ?_
      obtain ⟨hg156, hx⟩ := xg_some hx
      have hi155 : i124.toNat < a.length := by omega
      refine wv rfl (r_ixC Try.underlying26 sz79 rfl rfl (hM.seeR (.head _)) hg156) ?_
      refine wv rfl (r_fldC (i := i124.toNat) Try.underlying79 rfl rfl sz3 rfl (hM.seeR (.head _)) hi155) ?_
      refine wv rfl (r_ld Try.underlying3 rfl rfl (Cs.get (i := i124.toNat) (j := 1) (hM.seeR (.head _)) (fun _ => rfl) hi155 rfl)) ?_
      refine wv rfl (r_move rfl) ?_
      refine wv rfl (r_neq rfl rfl) ?_
      refine wl_nil ?_
      refine sq_n ?_
      refine wc_cond rfl (fun hc161 => ?_) (fun hc161 => ?_)
      · replace hx := xif_t hc161 hx
        refine wc_seq ?_
        refine wc_region ?_
        refine wv rfl (r_assign rfl) ?_
        refine wl_nil ?_
        refine sq_n ?_
        refine wc_ret ?_
        refine sq_ret ?_
        refine bk_ret ?_
        refine sq_ret ?_
        refine lp1_ret ?_
        obtain rfl := Option.some.inj hx
        obtain rfl := Option.some.inj hx131
        replace hx := hx122
        try dsimp only [Sum.elim_inl, Sum.elim_inr] at hx
        refine bk_ret ?_
        refine sq_ret ?_
        obtain rfl := Option.some.inj hx
        refine fin_ret [(.int .i64 (-1))] ⟨rfl, trivial⟩ ?_
        replace hM : St ⟨w, X, S⟩ [] [rV s_a.v (cSl 3 fDPart a)] _ := hM.tk 0
        have hM := hM.fewer rsN
        exact ⟨(), rfl, hM.gives⟩
      · replace hx := xif_f hc161 hx
        refine wc_skip ?_
        refine sq_n ?_
        refine wc_seq ?_
        refine wc_region ?_
        refine wv rfl (r_move rfl) ?_
        obtain ⟨hg165, hx⟩ := xg_some hx
        refine wv rfl (r_add rfl rfl hg165) ?_
        refine wv rfl (r_assign rfl) ?_
        refine wl_nil ?_
        refine sq_n ?_
        refine wc_seq ?_
        refine wc_region ?_
        refine wv rfl (r_move rfl) ?_
        refine wv rfl (r_move rfl) ?_
        obtain ⟨hg171, hx⟩ := xg_some hx
        have hi170 : i124.toNat < a.length := by omega
        refine wv rfl (r_ixC Try.underlying26 sz79 rfl rfl (hM.seeR (.head _)) hg171) ?_
        refine wv rfl (r_fldC (i := i124.toNat) Try.underlying79 rfl rfl sz24 rfl (hM.seeR (.head _)) hi170) ?_
        obtain ⟨s174, hM, hc175⟩ := hM.leaf (i := i124.toNat) (j := 2) (.head _) (fun _ => rfl) hi170 rfl
        refine wv rfl (r_ld Try.underlying24 rfl rfl (hc175 _ (Rel.refl _))) ?_
        refine wv rfl (r_move rfl) ?_
        obtain ⟨r177, h178, hx⟩ := bind_some' hx
        refine w_call rfl rfl (hM.callV fun X S oL hS hR hO => ct_laws_heldIntS _ X S ((el a i124.toNat).signs) s174 ((k123 + 1) + 1) hS (hR _ (.head _)) oL h178) ?_
        rintro _ w179 ⟨rfl, hR180⟩
        have hM := hM.call hR180
        refine wv rfl (r_assign rfl) ?_
        refine wl_nil ?_
        refine sq_n ?_
        refine wc_seq ?_
        refine wc_region ?_
        refine wv rfl (r_move rfl) ?_
        refine wv rfl (r_lss rfl rfl) ?_
        refine wl_nil ?_
        refine sq_n ?_
        refine wc_cond rfl (fun hc184 => ?_) (fun hc184 => ?_)
        · replace hx := xif_t hc184 hx
          refine wc_seq ?_
          refine wc_region ?_
          refine wv rfl (r_assign rfl) ?_
          refine wl_nil ?_
          refine sq_n ?_
          refine wc_ret ?_
          refine bk_ret ?_
          refine sq_ret ?_
          refine lp1_ret ?_
          obtain rfl := Option.some.inj hx
          obtain rfl := Option.some.inj hx131
          replace hx := hx122
          try dsimp only [Sum.elim_inl, Sum.elim_inr] at hx
          refine bk_ret ?_
          refine sq_ret ?_
          obtain rfl := Option.some.inj hx
          refine fin_ret [(.int .i64 (-1))] ⟨rfl, trivial⟩ ?_
          replace hM : St ⟨w, X, S⟩ [] [rV s174.v (cSl 1 fI ((el a i124.toNat).signs)), rV s_a.v (cSl 3 fDPart a)] _ := hM.tk 0
          have hM := hM.fewer rsN
          exact ⟨(), rfl, hM.gives⟩
        · replace hx := xif_f hc184 hx
          refine wc_skip ?_
          refine bk_n ?_
          refine sq_n ?_
          refine wc_region ?_
          refine wv rfl (r_move rfl) ?_
          obtain ⟨hg188, hx⟩ := xg_some hx
          refine wv rfl (r_add rfl rfl hg188) ?_
          refine wv rfl (r_assign rfl) ?_
          refine wl_nil ?_
          obtain rfl := Option.some.inj hx
          have hM := hM.fewer (rsC (.tail _ (.head _)) rsN)
          replace hM : St ⟨w, X, S⟩ [] [rV s_a.v (cSl 3 fDPart a)] _ := hM
          exact lp_end (m129, r177, i124 + 1) (Nat.lt_succ_self _) ⟨rfl, rfl, rfl, trivial⟩ ⟨hM, hx131⟩
  · replace hx := xif_f hc136 hx
    refine wc_exit ?_
    refine sq_exit ?_
    refine lp1_exit ?_
    obtain rfl := Option.some.inj hx
    obtain rfl := Option.some.inj hx131
    replace hx := hx122
    try dsimp only [Sum.elim_inl, Sum.elim_inr] at hx
    refine bk_here ?_
    refine sq_n ?_
    refine wc_seq ?_
    refine wc_region ?_
    refine wv rfl (r_move rfl) ?_
    refine wv rfl (r_assign rfl) ?_
    refine wl_nil ?_
    refine sq_n ?_
    refine wc_ret ?_
    obtain rfl := Option.some.inj hx
    refine fin_ret [(.int .i64 k123)] ⟨rfl, trivial⟩ ?_
    replace hM : St ⟨w, X, S⟩ [] [rV s_a.v (cSl 3 fDPart a)] _ := hM.tk 0
    have hM := hM.fewer rsN
    exact ⟨(), rfl, hM.gives⟩

noncomputable def x_laws_FnExactRowsDrop (aT : List Int) (aRow : Int) : Option Bool :=
  bif decide ((1048576 : Int) < (aT.length : Int)) then (some true) else (Option.bind (x_laws_toIntS aT) fun r7 => Option.bind (x_spec_RowsDrop r7 aRow) fun r13 => Option.bind (x_laws_toIntS aT) fun r24 => Option.bind (x_impl_RowsDrop r24 aRow) fun r32 => Option.bind (x_laws_eqPartS r32.1 r13.1) fun r44 => Option.bind (bif !r44 then (some true) else (some (!(r32.2 == r13.2)))) fun c50 => bif c50 then (some false) else (Option.bind (x_laws_toIntS aT) fun r61 => Option.bind (x_laws_eqIntS r24 r61) fun r66 => bif !r66 then (some false) else (Option.bind (x_laws_markIntS r24 1) fun r75 => Option.bind (bif decide (r75.1 < 0) then (some true) else (Option.bind (x_laws_eqPartS r32.1 r13.1) fun r93 => some (!r93))) fun c82 => Option.bind (bif c82 then (some true) else (some (!(r32.2 == r13.2)))) fun c99 => bif c99 then (some false) else (Option.bind (x_laws_markPartS r32.1 1) fun r111 => Option.bind (x_laws_heldPartS r111.2 1) fun r118 => bif decide (r118 < 0) then (some false) else (bif !decide (r118 = r111.1) then (some false) else (Option.bind (x_laws_toIntS aT) fun r131 => Option.bind (x_impl_RowsDrop r131 aRow) fun r137 => Option.bind (x_laws_eqPartS r137.1 r13.1) fun r149 => Option.bind (bif !r149 then (some true) else (some (!(r137.2 == r13.2)))) fun c155 => bif c155 then (some false) else (Option.bind (x_laws_heldPartS r111.2 1) fun r167 => bif decide (r167 < 0) then (some false) else (bif !decide (r167 = r111.1) then (some false) else (some true)))))))))
theorem ct_laws_FnExactRowsDrop (w : World) (X S : Bs) (aT : List Int) (s_aT : Sv) (aRow : Int) (hS : ∀ b, S b → b < w.heap.size ∧ ¬ X b) (a_aT_0 : (cSl 1 fI aT).rd S w s_aT.v) (oL : Sep [] X w) {r : Bool} (hx : x_laws_FnExactRowsDrop aT aRow = some r) :
    Ret Try.prog 7 [s_aT.v, (.int .i64 aRow)] w (fun u w' => ∃ _ : Unit, u = (.bool r) ∧ Gives X S w [] [] w') := by
  unfold x_laws_FnExactRowsDrop at hx
  refine enter Try.func7 rfl Try.ntmps7 (by kernel_rfl) rfl ?_
  have hM := St.enter oL hS
  have hM := hM.addE (r := rV s_aT.v (cSl 1 fI aT)) a_aT_0
  refine wc_seq ?_
  refine wc_region ?_
  refine wv rfl (r_assign rfl) ?_
  refine wl_nil ?_
  refine sq_n ?_
  refine wc_seq ?_
  refine wc_seq ?_
  refine wc_region ?_
  refine wv rfl (r_move rfl) ?_
  refine wv rfl (r_lenC Try.underlying24 rfl (hM.seeR (.head _))) ?_
  refine wv rfl (r_gtr rfl rfl) ?_
  refine wl_nil ?_
  refine sq_n ?_
  refine wc_cond rfl (fun hc184 => ?_) (fun hc184 => ?_)
  · replace hx := xif_t hc184 hx
    refine wc_seq ?_
    refine wc_region ?_
    refine wv rfl (r_assign rfl) ?_
    refine wl_nil ?_
    refine sq_n ?_
    refine wc_ret ?_
    refine sq_ret ?_
    obtain rfl := Option.some.inj hx
    refine fin_ret [(.bool true)] ⟨rfl, trivial⟩ ?_
    replace hM : St ⟨w, X, S⟩ [] [rV s_aT.v (cSl 1 fI aT)] _ := hM.tk 0
    have hM := hM.fewer rsN
    exact ⟨(), rfl, hM.gives⟩
  · replace hx := xif_f hc184 hx
    refine wc_skip ?_
    refine sq_n ?_
    refine wc_seq ?_
    refine wc_region ?_
    refine wv rfl (r_move rfl) ?_
    obtain ⟨r187, h188, hx⟩ := bind_some' hx
    refine w_call rfl rfl (hM.callO (l := []) fun X S oL hS hR hO => ct_laws_toIntS _ X S aT s_aT hS (hR _ (.head _)) oL h188) ?_
    rintro _ w189 ⟨s190, rfl, hM⟩
    replace hM : St ⟨w, X, S⟩ [oC (cSl 1 fI r187) s190.v] [rV s_aT.v (cSl 1 fI aT)] _ := hM
    refine wv rfl (r_move rfl) ?_
    obtain ⟨r193, h194, hx⟩ := bind_some' hx
    refine w_call rfl rfl (hM.callO (l := []) fun X S oL hS hR hO => ct_spec_RowsDrop _ X S r187 s190 aRow hS (seeA hO (.head _)) oL h194) ?_
    rintro _ w195 ⟨s196, rfl, hM⟩
    replace hM : St ⟨w, X, S⟩ [oC (cSl 3 fDPart r193.1) s196.v, oC (cSl 1 fI r187) s190.v] [rV s_aT.v (cSl 1 fI aT)] _ := hM
    refine wv rfl (r_move rfl) ?_
    refine wv rfl (r_extract rfl rfl) ?_
    refine wv rfl (r_extract rfl rfl) ?_
    refine wv rfl (r_assign rfl) ?_
    refine wv rfl (r_assign rfl) ?_
    refine wl_nil ?_
    refine sq_n ?_
    refine wc_seq ?_
    refine wc_region ?_
    refine wv rfl (r_move rfl) ?_
    obtain ⟨r204, h205, hx⟩ := bind_some' hx
    refine w_call rfl rfl (hM.callO (l := []) fun X S oL hS hR hO => ct_laws_toIntS _ X S aT s_aT hS (hR _ (.head _)) oL h205) ?_
    rintro _ w206 ⟨s207, rfl, hM⟩
    replace hM : St ⟨w, X, S⟩ [oC (cSl 1 fI r204) s207.v, oC (cSl 3 fDPart r193.1) s196.v, oC (cSl 1 fI r187) s190.v] [rV s_aT.v (cSl 1 fI aT)] _ := hM
    refine wv rfl (r_assign rfl) ?_
    refine wl_nil ?_
    refine sq_n ?_
    refine wc_seq ?_
    refine wc_region ?_
    refine wv rfl (r_move rfl) ?_
    refine wv rfl (r_move rfl) ?_
    obtain ⟨r212, h213, hx⟩ := bind_some' hx
    refine w_call rfl rfl (hM.callO (l := []) fun X S oL hS hR hO => ct_impl_RowsDrop _ X S r204 s207 aRow hS (seeA hO (.head _)) oL h213) ?_
    rintro _ w214 ⟨s215, rfl, hM⟩
    replace hM : St ⟨w, X, S⟩ [oC (cSl 3 fDPart r212.1) s215.v, oC (cSl 1 fI r204) s207.v, oC (cSl 3 fDPart r193.1) s196.v, oC (cSl 1 fI r187) s190.v] [rV s_aT.v (cSl 1 fI aT)] _ := hM
    refine wv rfl (r_move rfl) ?_
    refine wv rfl (r_extract rfl rfl) ?_
    refine wv rfl (r_extract rfl rfl) ?_
    refine wv rfl (r_assign rfl) ?_
    refine wv rfl (r_assign rfl) ?_
    refine wl_nil ?_
    refine sq_n ?_
    refine wc_seq ?_
    refine wc_seq ?_
    refine wc_region ?_
    refine wv rfl (r_move rfl) ?_
    refine wv rfl (r_move rfl) ?_
    obtain ⟨r224, h225, hx⟩ := bind_some' hx
    refine w_call rfl rfl (hM.callV fun X S oL hS hR hO => ct_laws_eqPartS _ X S r212.1 s215 r193.1 s196 hS (seeA hO (.head _)) (seeA hO (.tail _ (.tail _ (.head _)))) oL h225) ?_
    rintro _ w226 ⟨rfl, hR227⟩
    have hM := hM.call hR227
    refine wv rfl (r_not rfl) ?_
    refine wv rfl (r_move rfl) ?_
    obtain ⟨c230, hx, hx235⟩ := bind_some' hx
    refine wl_mid 4 (fun _ : Unit => [(41, (.bool c230)), (0, s_aT.v), (1, (.int .i64 aRow)), (5, s196.v), (6, (.bool r193.2)), (7, s207.v), (8, s215.v), (9, (.bool r212.2))]) (fun _ w' => St ⟨w, X, S⟩ [oC (cSl 3 fDPart r212.1) s215.v, oC (cSl 1 fI r204) s207.v, oC (cSl 3 fDPart r193.1) s196.v, oC (cSl 1 fI r187) s190.v] [rV s_aT.v (cSl 1 fI aT)] w') ?_ ?_
    · rcases Bool.eq_false_or_eq_true (!r224) with hg231 | hg231
      · replace hx := xif_t hg231 hx
        refine gs rfl (isB_no hg231) rfl ?_
        refine gs rfl (isB_no hg231) rfl ?_
        refine gs rfl (isB_no hg231) rfl ?_
        refine wv rfl (p_t rfl hg231 rfl) ?_
        obtain rfl := Option.some.inj hx
        exact mid_nil () ⟨rfl, rfl, rfl, rfl, rfl, rfl, rfl, rfl, trivial⟩ hM
      · replace hx := xif_f hg231 hx
        refine gv rfl hg231 rfl (r_move rfl) ?_
        refine gv rfl hg231 rfl (r_move rfl) ?_
        refine gv rfl hg231 rfl (r_neqb Try.underlying4 rfl rfl) ?_
        refine wv rfl (p_f rfl hg231 rfl) ?_
        obtain rfl := Option.some.inj hx
        exact mid_nil () ⟨rfl, rfl, rfl, rfl, rfl, rfl, rfl, rfl, trivial⟩ hM
    rintro _ w239 hM
    replace hx := hx235
    refine wl_nil ?_
    refine sq_n ?_
    refine wc_cond rfl (fun hc240 => ?_) (fun hc240 => ?_)
    · replace hx := xif_t hc240 hx
      refine wc_seq ?_
      refine wc_region ?_
      refine wv rfl (r_assign rfl) ?_
      refine wl_nil ?_
      refine sq_n ?_
      refine wc_ret ?_
      refine sq_ret ?_
      obtain rfl := Option.some.inj hx
      refine fin_ret [(.bool false)] ⟨rfl, trivial⟩ ?_
      replace hM : St ⟨w, X, S⟩ [] [rV s_aT.v (cSl 1 fI aT)] _ := hM.tk 0
      have hM := hM.fewer rsN
      exact ⟨(), rfl, hM.gives⟩
    · replace hx := xif_f hc240 hx
      refine wc_skip ?_
      refine sq_n ?_
      refine wc_seq ?_
      refine wc_seq ?_
      refine wc_region ?_
      refine wv rfl (r_move rfl) ?_
      refine wv rfl (r_move rfl) ?_
      obtain ⟨r244, h245, hx⟩ := bind_some' hx
      refine w_call rfl rfl (hM.callO (l := []) fun X S oL hS hR hO => ct_laws_toIntS _ X S aT s_aT hS (hR _ (.head _)) oL h245) ?_
      rintro _ w246 ⟨s247, rfl, hM⟩
      replace hM : St ⟨w, X, S⟩ [oC (cSl 1 fI r244) s247.v, oC (cSl 3 fDPart r212.1) s215.v, oC (cSl 1 fI r204) s207.v, oC (cSl 3 fDPart r193.1) s196.v, oC (cSl 1 fI r187) s190.v] [rV s_aT.v (cSl 1 fI aT)] _ := hM
      obtain ⟨r249, h250, hx⟩ := bind_some' hx
      refine w_call rfl rfl (hM.callV fun X S oL hS hR hO => ct_laws_eqIntS _ X S r204 s207 r244 s247 hS (seeA hO (.tail _ (.tail _ (.head _)))) (seeA hO (.head _)) oL h250) ?_
      rintro _ w251 ⟨rfl, hR252⟩
      have hM := hM.call hR252
      refine wv rfl (r_not rfl) ?_
      refine wl_nil ?_
      refine sq_n ?_
      refine wc_cond rfl (fun hc254 => ?_) (fun hc254 => ?_)
      · replace hx := xif_t hc254 hx
        refine wc_seq ?_
        refine wc_region ?_
        refine wv rfl (r_assign rfl) ?_
        refine wl_nil ?_
        refine sq_n ?_
        refine wc_ret ?_
        refine sq_ret ?_
        obtain rfl := Option.some.inj hx
        refine fin_ret [(.bool false)] ⟨rfl, trivial⟩ ?_
        replace hM : St ⟨w, X, S⟩ [] [rV s_aT.v (cSl 1 fI aT)] _ := hM.tk 0
        have hM := hM.fewer rsN
        exact ⟨(), rfl, hM.gives⟩
      · replace hx := xif_f hc254 hx
        refine wc_skip ?_
        refine sq_n ?_
        refine wc_seq ?_
        refine wc_region ?_
        refine wv rfl (r_assign rfl) ?_
        refine wl_nil ?_
        refine sq_n ?_
        refine wc_seq ?_
        refine wc_region ?_
        refine wv rfl (r_move rfl) ?_
        refine wv rfl (r_move rfl) ?_
        replace hM : St ⟨w, X, S⟩ [oC (cSl 1 fI r204) s207.v, oC (cSl 1 fI r244) s247.v, oC (cSl 3 fDPart r212.1) s215.v, oC (cSl 3 fDPart r193.1) s196.v, oC (cSl 1 fI r187) s190.v] [rV s_aT.v (cSl 1 fI aT)] _ := hM.pl [2]
        obtain ⟨r259, h260, hx⟩ := bind_some' hx
        refine w_call rfl rfl (hM.callO (l := [oC (cSl 1 fI r204) s207.v]) fun X S oL hS hR hO => ct_laws_markIntS _ X S r204 s207 (1 : Int) hS  oL h260) ?_
        rintro _ w261 ⟨_, rfl, hM⟩
        replace hM : St ⟨w, X, S⟩ [oC (cSl 1 fI r259.2) s207.v, oC (cSl 1 fI r244) s247.v, oC (cSl 3 fDPart r212.1) s215.v, oC (cSl 3 fDPart r193.1) s196.v, oC (cSl 1 fI r187) s190.v] [rV s_aT.v (cSl 1 fI aT)] _ := hM
        refine wv rfl (r_assign rfl) ?_
        refine wl_nil ?_
        refine sq_n ?_
        refine wc_seq ?_
        refine wc_seq ?_
        refine wc_region ?_
        refine wv rfl (r_move rfl) ?_
        refine wv rfl (r_lss rfl rfl) ?_
        refine wv rfl (r_move rfl) ?_
        obtain ⟨c266, hx, hx275⟩ := bind_some' hx
        refine wl_mid 5 (fun _ : Unit => [(57, (.bool c266)), (0, s_aT.v), (1, (.int .i64 aRow)), (5, s196.v), (6, (.bool r193.2)), (8, s215.v), (9, (.bool r212.2))]) (fun _ w' => St ⟨w, X, S⟩ [oC (cSl 1 fI r259.2) s207.v, oC (cSl 1 fI r244) s247.v, oC (cSl 3 fDPart r212.1) s215.v, oC (cSl 3 fDPart r193.1) s196.v, oC (cSl 1 fI r187) s190.v] [rV s_aT.v (cSl 1 fI aT)] w') ?_ ?_
        · rcases Bool.eq_false_or_eq_true (decide (r259.1 < 0)) with hg267 | hg267
          · replace hx := xif_t hg267 hx
            refine gs rfl (isB_no hg267) rfl ?_
            refine gs rfl (isB_no hg267) rfl ?_
            refine gs rfl (isB_no hg267) rfl ?_
            refine gs rfl (isB_no hg267) rfl ?_
            refine wv rfl (p_t rfl hg267 rfl) ?_
            obtain rfl := Option.some.inj hx
            exact mid_nil () ⟨rfl, rfl, rfl, rfl, rfl, rfl, rfl, trivial⟩ hM
          · replace hx := xif_f hg267 hx
            refine gv rfl hg267 rfl (r_move rfl) ?_
            refine gv rfl hg267 rfl (r_move rfl) ?_
            obtain ⟨r278, h279, hx⟩ := bind_some' hx
            refine gc rfl hg267 rfl rfl (hM.callV fun X S oL hS hR hO => ct_laws_eqPartS _ X S r212.1 s215 r193.1 s196 hS (seeA hO (.tail _ (.tail _ (.head _)))) (seeA hO (.tail _ (.tail _ (.tail _ (.head _))))) oL h279) ?_
            rintro _ w280 ⟨rfl, hR281⟩
            have hM := hM.call hR281
            refine gv rfl hg267 rfl (r_not rfl) ?_
            refine wv rfl (p_f rfl hg267 rfl) ?_
            obtain rfl := Option.some.inj hx
            exact mid_nil () ⟨rfl, rfl, rfl, rfl, rfl, rfl, rfl, trivial⟩ hM
        rintro _ w283 hM
        replace hx := hx275
        refine wv rfl (r_move rfl) ?_
        obtain ⟨c285, hx, hx290⟩ := bind_some' hx
        refine wl_mid 4 (fun _ : Unit => [(62, (.bool c285)), (0, s_aT.v), (1, (.int .i64 aRow)), (5, s196.v), (6, (.bool r193.2)), (8, s215.v)]) (fun _ w' => St ⟨w, X, S⟩ [oC (cSl 1 fI r259.2) s207.v, oC (cSl 1 fI r244) s247.v, oC (cSl 3 fDPart r212.1) s215.v, oC (cSl 3 fDPart r193.1) s196.v, oC (cSl 1 fI r187) s190.v] [rV s_aT.v (cSl 1 fI aT)] w') ?_ ?_
        · rcases Bool.eq_false_or_eq_true c266 with hg286 | hg286
          · replace hx := xif_t hg286 hx
            refine gs rfl (isB_no hg286) rfl ?_
            refine gs rfl (isB_no hg286) rfl ?_
            refine gs rfl (isB_no hg286) rfl ?_
            refine wv rfl (p_t rfl hg286 rfl) ?_
            obtain rfl := Option.some.inj hx
            exact mid_nil () ⟨rfl, rfl, rfl, rfl, rfl, rfl, trivial⟩ hM
          · replace hx := xif_f hg286 hx
            refine gv rfl hg286 rfl (r_move rfl) ?_
            refine gv rfl hg286 rfl (r_move rfl) ?_
            refine gv rfl hg286 rfl (r_neqb Try.underlying4 rfl rfl) ?_
            refine wv rfl (p_f rfl hg286 rfl) ?_
            obtain rfl := Option.some.inj hx
            exact mid_nil () ⟨rfl, rfl, rfl, rfl, rfl, rfl, trivial⟩ hM
        rintro _ w294 hM
        replace hx := hx290
        refine wl_nil ?_
        refine sq_n ?_
        refine wc_cond rfl (fun hc295 => ?_) (fun hc295 => ?_)
        · replace hx := xif_t hc295 hx
          refine wc_seq ?_
          refine wc_region ?_
          refine wv rfl (r_assign rfl) ?_
          refine wl_nil ?_
          refine sq_n ?_
          refine wc_ret ?_
          refine sq_ret ?_
          obtain rfl := Option.some.inj hx
          refine fin_ret [(.bool false)] ⟨rfl, trivial⟩ ?_
          replace hM : St ⟨w, X, S⟩ [] [rV s_aT.v (cSl 1 fI aT)] _ := hM.tk 0
          have hM := hM.fewer rsN
          exact ⟨(), rfl, hM.gives⟩
        · replace hx := xif_f hc295 hx
          refine wc_skip ?_
          refine sq_n ?_
          refine wc_seq ?_
          refine wc_region ?_
          refine wv rfl (r_assign rfl) ?_
          refine wl_nil ?_
          refine sq_n ?_
          refine wc_seq ?_
          refine wc_region ?_
          refine wv rfl (r_move rfl) ?_
          refine wv rfl (r_move rfl) ?_
          replace hM : St ⟨w, X, S⟩ [oC (cSl 3 fDPart r212.1) s215.v, oC (cSl 1 fI r259.2) s207.v, oC (cSl 1 fI r244) s247.v, oC (cSl 3 fDPart r193.1) s196.v, oC (cSl 1 fI r187) s190.v] [rV s_aT.v (cSl 1 fI aT)] _ := hM.pl [2]
          obtain ⟨r300, h301, hx⟩ := bind_some' hx
          refine w_call rfl rfl (hM.callO (l := [oC (cSl 3 fDPart r212.1) s215.v]) fun X S oL hS hR hO => ct_laws_markPartS _ X S r212.1 s215 (1 : Int) hS  oL h301) ?_
          rintro _ w302 ⟨_, rfl, hM⟩
          replace hM : St ⟨w, X, S⟩ [oC (cSl 3 fDPart r300.2) s215.v, oC (cSl 1 fI r259.2) s207.v, oC (cSl 1 fI r244) s247.v, oC (cSl 3 fDPart r193.1) s196.v, oC (cSl 1 fI r187) s190.v] [rV s_aT.v (cSl 1 fI aT)] _ := hM
          refine wv rfl (r_assign rfl) ?_
          refine wl_nil ?_
          refine sq_n ?_
          refine wc_seq ?_
          refine wc_region ?_
          refine wv rfl (r_assign rfl) ?_
          refine wl_nil ?_
          refine sq_n ?_
          refine wc_seq ?_
          refine wc_region ?_
          refine wv rfl (r_move rfl) ?_
          refine wv rfl (r_move rfl) ?_
          obtain ⟨r307, h308, hx⟩ := bind_some' hx
          refine w_call rfl rfl (hM.callV fun X S oL hS hR hO => ct_laws_heldPartS _ X S r300.2 s215 (1 : Int) hS (seeA hO (.head _)) oL h308) ?_
          rintro _ w309 ⟨rfl, hR310⟩
          have hM := hM.call hR310
          refine wv rfl (r_assign rfl) ?_
          refine wl_nil ?_
          refine sq_n ?_
          refine wc_seq ?_
          refine wc_seq ?_
          refine wc_region ?_
          refine wv rfl (r_move rfl) ?_
          refine wv rfl (r_lss rfl rfl) ?_
          refine wl_nil ?_
          refine sq_n ?_
          refine wc_cond rfl (fun hc314 => ?_) (fun hc314 => ?_)
          · replace hx := xif_t hc314 hx
            refine wc_seq ?_
            refine wc_region ?_
            refine wv rfl (r_assign rfl) ?_
            refine wl_nil ?_
            refine sq_n ?_
            refine wc_ret ?_
            refine sq_ret ?_
            obtain rfl := Option.some.inj hx
            refine fin_ret [(.bool false)] ⟨rfl, trivial⟩ ?_
            replace hM : St ⟨w, X, S⟩ [] [rV s_aT.v (cSl 1 fI aT)] _ := hM.tk 0
            have hM := hM.fewer rsN
            exact ⟨(), rfl, hM.gives⟩
          · replace hx := xif_f hc314 hx
            refine wc_skip ?_
            refine sq_n ?_
            refine wc_seq ?_
            refine wc_seq ?_
            refine wc_region ?_
            refine wv rfl (r_move rfl) ?_
            refine wv rfl (r_move rfl) ?_
            refine wv rfl (r_neq rfl rfl) ?_
            refine wl_nil ?_
            refine sq_n ?_
            refine wc_cond rfl (fun hc319 => ?_) (fun hc319 => ?_)
            · replace hx := xif_t hc319 hx
              refine wc_seq ?_
              refine wc_region ?_
              refine wv rfl (r_assign rfl) ?_
              refine wl_nil ?_
              refine sq_n ?_
              refine wc_ret ?_
              refine sq_ret ?_
              obtain rfl := Option.some.inj hx
              refine fin_ret [(.bool false)] ⟨rfl, trivial⟩ ?_
              replace hM : St ⟨w, X, S⟩ [] [rV s_aT.v (cSl 1 fI aT)] _ := hM.tk 0
              have hM := hM.fewer rsN
              exact ⟨(), rfl, hM.gives⟩
            · replace hx := xif_f hc319 hx
              refine wc_skip ?_
              refine sq_n ?_
              refine wc_seq ?_
              refine wc_region ?_
              refine wv rfl (r_move rfl) ?_
              obtain ⟨r322, h323, hx⟩ := bind_some' hx
              refine w_call rfl rfl (hM.callO (l := []) fun X S oL hS hR hO => ct_laws_toIntS _ X S aT s_aT hS (hR _ (.head _)) oL h323) ?_
              rintro _ w324 ⟨s325, rfl, hM⟩
              replace hM : St ⟨w, X, S⟩ [oC (cSl 1 fI r322) s325.v, oC (cSl 3 fDPart r300.2) s215.v, oC (cSl 1 fI r259.2) s207.v, oC (cSl 1 fI r244) s247.v, oC (cSl 3 fDPart r193.1) s196.v, oC (cSl 1 fI r187) s190.v] [rV s_aT.v (cSl 1 fI aT)] _ := hM
              refine wv rfl (r_move rfl) ?_
              obtain ⟨r328, h329, hx⟩ := bind_some' hx
              refine w_call rfl rfl (hM.callO (l := []) fun X S oL hS hR hO => ct_impl_RowsDrop _ X S r322 s325 aRow hS (seeA hO (.head _)) oL h329) ?_
              rintro _ w330 ⟨s331, rfl, hM⟩
              replace hM : St ⟨w, X, S⟩ [oC (cSl 3 fDPart r328.1) s331.v, oC (cSl 1 fI r322) s325.v, oC (cSl 3 fDPart r300.2) s215.v, oC (cSl 1 fI r259.2) s207.v, oC (cSl 1 fI r244) s247.v, oC (cSl 3 fDPart r193.1) s196.v, oC (cSl 1 fI r187) s190.v] [rV s_aT.v (cSl 1 fI aT)] _ := hM
              refine wv rfl (r_move rfl) ?_
              refine wv rfl (r_extract rfl rfl) ?_
              refine wv rfl (r_extract rfl rfl) ?_
              refine wv rfl (r_assign rfl) ?_
              refine wv rfl (r_assign rfl) ?_
              refine wl_nil ?_
              refine sq_n ?_
              refine wc_seq ?_
              refine wc_seq ?_
              refine wc_region ?_
              refine wv rfl (r_move rfl) ?_
              refine wv rfl (r_move rfl) ?_
              obtain ⟨r340, h341, hx⟩ := bind_some' hx
              refine w_call rfl rfl (hM.callV fun X S oL hS hR hO => ct_laws_eqPartS _ X S r328.1 s331 r193.1 s196 hS (seeA hO (.head _)) (seeA hO (.tail _ (.tail _ (.tail _ (.tail _ (.tail _ (.head _))))))) oL h341) ?_
              rintro _ w342 ⟨rfl, hR343⟩
              have hM := hM.call hR343
              refine wv rfl (r_not rfl) ?_
              refine wv rfl (r_move rfl) ?_
              obtain ⟨c346, hx, hx351⟩ := bind_some' hx
              refine wl_mid 4 (fun _ : Unit => [(89, (.bool c346)), (8, s215.v), (11, (.int .i64 r300.1))]) (fun _ w' => St ⟨w, X, S⟩ [oC (cSl 3 fDPart r328.1) s331.v, oC (cSl 1 fI r322) s325.v, oC (cSl 3 fDPart r300.2) s215.v, oC (cSl 1 fI r259.2) s207.v, oC (cSl 1 fI r244) s247.v, oC (cSl 3 fDPart r193.1) s196.v, oC (cSl 1 fI r187) s190.v] [rV s_aT.v (cSl 1 fI aT)] w') ?_ ?_
              · rcases Bool.eq_false_or_eq_true (!r340) with hg347 | hg347
                · replace hx := xif_t hg347 hx
                  refine gs rfl (isB_no hg347) rfl ?_
                  refine gs rfl (isB_no hg347) rfl ?_
                  refine gs rfl (isB_no hg347) rfl ?_
                  refine wv rfl (p_t rfl hg347 rfl) ?_
                  obtain rfl := Option.some.inj hx
                  exact mid_nil () ⟨rfl, rfl, rfl, trivial⟩ hM
                · replace hx := xif_f hg347 hx
                  refine gv rfl hg347 rfl (r_move rfl) ?_
                  refine gv rfl hg347 rfl (r_move rfl) ?_
                  refine gv rfl hg347 rfl (r_neqb Try.underlying4 rfl rfl) ?_
                  refine wv rfl (p_f rfl hg347 rfl) ?_
                  obtain rfl := Option.some.inj hx
                  exact mid_nil () ⟨rfl, rfl, rfl, trivial⟩ hM
              rintro _ w355 hM
              replace hx := hx351
              refine wl_nil ?_
              refine sq_n ?_
              refine wc_cond rfl (fun hc356 => ?_) (fun hc356 => ?_)
              · replace hx := xif_t hc356 hx
                refine wc_seq ?_
                refine wc_region ?_
                refine wv rfl (r_assign rfl) ?_
                refine wl_nil ?_
                refine sq_n ?_
                refine wc_ret ?_
                refine sq_ret ?_
                obtain rfl := Option.some.inj hx
                refine fin_ret [(.bool false)] ⟨rfl, trivial⟩ ?_
                replace hM : St ⟨w, X, S⟩ [] [rV s_aT.v (cSl 1 fI aT)] _ := hM.tk 0
                have hM := hM.fewer rsN
                exact ⟨(), rfl, hM.gives⟩
              · replace hx := xif_f hc356 hx
                refine wc_skip ?_
                refine sq_n ?_
                refine wc_seq ?_
                refine wc_region ?_
                refine wv rfl (r_assign rfl) ?_
                refine wl_nil ?_
                refine sq_n ?_
                refine wc_seq ?_
                refine wc_region ?_
                refine wv rfl (r_move rfl) ?_
                refine wv rfl (r_move rfl) ?_
                obtain ⟨r361, h362, hx⟩ := bind_some' hx
                refine w_call rfl rfl (hM.callV fun X S oL hS hR hO => ct_laws_heldPartS _ X S r300.2 s215 (1 : Int) hS (seeA hO (.tail _ (.tail _ (.head _)))) oL h362) ?_
                rintro _ w363 ⟨rfl, hR364⟩
                have hM := hM.call hR364
                refine wv rfl (r_assign rfl) ?_
                refine wl_nil ?_
                refine sq_n ?_
                refine wc_seq ?_
                refine wc_seq ?_
                refine wc_region ?_
                refine wv rfl (r_move rfl) ?_
                refine wv rfl (r_lss rfl rfl) ?_
                refine wl_nil ?_
                refine sq_n ?_
                refine wc_cond rfl (fun hc368 => ?_) (fun hc368 => ?_)
                · replace hx := xif_t hc368 hx
                  refine wc_seq ?_
                  refine wc_region ?_
                  refine wv rfl (r_assign rfl) ?_
                  refine wl_nil ?_
                  refine sq_n ?_
                  refine wc_ret ?_
                  refine sq_ret ?_
                  obtain rfl := Option.some.inj hx
                  refine fin_ret [(.bool false)] ⟨rfl, trivial⟩ ?_
                  replace hM : St ⟨w, X, S⟩ [] [rV s_aT.v (cSl 1 fI aT)] _ := hM.tk 0
                  have hM := hM.fewer rsN
                  exact ⟨(), rfl, hM.gives⟩
                · replace hx := xif_f hc368 hx
                  refine wc_skip ?_
                  refine sq_n ?_
                  refine wc_seq ?_
                  refine wc_seq ?_
                  refine wc_region ?_
                  refine wv rfl (r_move rfl) ?_
                  refine wv rfl (r_move rfl) ?_
                  refine wv rfl (r_neq rfl rfl) ?_
                  refine wl_nil ?_
                  refine sq_n ?_
                  refine wc_cond rfl (fun hc373 => ?_) (fun hc373 => ?_)
                  · replace hx := xif_t hc373 hx
                    refine wc_seq ?_
                    refine wc_region ?_
                    refine wv rfl (r_assign rfl) ?_
                    refine wl_nil ?_
                    refine sq_n ?_
                    refine wc_ret ?_
                    refine sq_ret ?_
                    obtain rfl := Option.some.inj hx
                    refine fin_ret [(.bool false)] ⟨rfl, trivial⟩ ?_
                    replace hM : St ⟨w, X, S⟩ [] [rV s_aT.v (cSl 1 fI aT)] _ := hM.tk 0
                    have hM := hM.fewer rsN
                    exact ⟨(), rfl, hM.gives⟩
                  · replace hx := xif_f hc373 hx
                    refine wc_skip ?_
                    refine sq_n ?_
                    refine wc_seq ?_
                    refine wc_region ?_
                    refine wv rfl (r_assign rfl) ?_
                    refine wl_nil ?_
                    refine sq_n ?_
                    refine wc_ret ?_
                    obtain rfl := Option.some.inj hx
                    refine fin_ret [(.bool true)] ⟨rfl, trivial⟩ ?_
                    replace hM : St ⟨w, X, S⟩ [] [rV s_aT.v (cSl 1 fI aT)] _ := hM.tk 0
                    have hM := hM.fewer rsN
                    exact ⟨(), rfl, hM.gives⟩

noncomputable def x_laws_szIntS (a : List Int) (left : Int) : Option Int :=
  xg (inI (left - (a.length : Int))) <| bif decide ((left - (a.length : Int)) < 0) then (some (-1)) else (some (left - (a.length : Int)))
theorem ct_laws_szIntS (w : World) (X S : Bs) (a : List Int) (s_a : Sv) (left : Int) (hS : ∀ b, S b → b < w.heap.size ∧ ¬ X b) (a_a_0 : (cSl 1 fI a).rd S w s_a.v) (oL : Sep [] X w) {r : Int} (hx : x_laws_szIntS a left = some r) :
    Ret Try.prog 109 [s_a.v, (.int .i64 left)] w (fun u w' => ∃ _ : Unit, u = (.int .i64 r) ∧ Gives X S w [] [] w') := by
  unfold x_laws_szIntS at hx
  refine enter Try.func109 rfl Try.ntmps109 (by kernel_rfl) rfl ?_
  have hM := St.enter oL hS
  have hM := hM.addE (r := rV s_a.v (cSl 1 fI a)) a_a_0
  refine wc_seq ?_
  refine wc_region ?_
  refine wv rfl (r_assign rfl) ?_
  refine wl_nil ?_
  refine sq_n ?_
  refine wc_seq ?_
  refine wc_region ?_
  refine wv rfl (r_move rfl) ?_
  refine wv rfl (r_move rfl) ?_
  refine wv rfl (r_lenC Try.underlying24 rfl (hM.seeR (.head _))) ?_
  obtain ⟨hg18, hx⟩ := xg_some hx
  refine wv rfl (r_sub rfl rfl hg18) ?_
  refine wv rfl (r_assign rfl) ?_
  refine wl_nil ?_
  refine sq_n ?_
  refine wc_seq ?_
  refine wc_seq ?_
  refine wc_region ?_
  refine wv rfl (r_move rfl) ?_
  refine wv rfl (r_lss rfl rfl) ?_
  refine wl_nil ?_
  refine sq_n ?_
  refine wc_cond rfl (fun hc22 => ?_) (fun hc22 => ?_)
  · replace hx := xif_t hc22 hx
    refine wc_seq ?_
    refine wc_region ?_
    refine wv rfl (r_assign rfl) ?_
    refine wl_nil ?_
    refine sq_n ?_
    refine wc_ret ?_
    refine sq_ret ?_
    obtain rfl := Option.some.inj hx
    refine fin_ret [(.int .i64 (-1))] ⟨rfl, trivial⟩ ?_
    replace hM : St ⟨w, X, S⟩ [] [rV s_a.v (cSl 1 fI a)] _ := hM.tk 0
    have hM := hM.fewer rsN
    exact ⟨(), rfl, hM.gives⟩
  · replace hx := xif_f hc22 hx
    refine wc_skip ?_
    refine sq_n ?_
    refine wc_seq ?_
    refine wc_region ?_
    refine wv rfl (r_move rfl) ?_
    refine wv rfl (r_assign rfl) ?_
    refine wl_nil ?_
    refine sq_n ?_
    refine wc_ret ?_
    obtain rfl := Option.some.inj hx
    refine fin_ret [(.int .i64 (left - (a.length : Int)))] ⟨rfl, trivial⟩ ?_
    replace hM : St ⟨w, X, S⟩ [] [rV s_a.v (cSl 1 fI a)] _ := hM.tk 0
    have hM := hM.fewer rsN
    exact ⟨(), rfl, hM.gives⟩

noncomputable def x_laws_szPart (a : DPart) (left : Int) : Option Int :=
  Option.bind (x_laws_szIntS a.signs left) fun r9 => bif decide (r9 < 0) then (some (-1)) else (some r9)
theorem ct_laws_szPart (w : World) (X S : Bs) (a : DPart) (s_a_2 : Sv) (left : Int) (hS : ∀ b, S b → b < w.heap.size ∧ ¬ X b) (a_a_2 : (cSl 1 fI a.signs).rd S w s_a_2.v) (oL : Sep [] X w) {r : Int} (hx : x_laws_szPart a left = some r) :
    Ret Try.prog 58 [(.agg #[(.int .i64 a.kind), (.int .i64 a.n), s_a_2.v]), (.int .i64 left)] w (fun u w' => ∃ _ : Unit, u = (.int .i64 r) ∧ Gives X S w [] [] w') := by
  unfold x_laws_szPart at hx
  refine enter Try.func58 rfl Try.ntmps58 (by kernel_rfl) rfl ?_
  have hM := St.enter oL hS
  have hM := hM.addE (r := rV s_a_2.v (cSl 1 fI a.signs)) a_a_2
  refine wc_seq ?_
  refine wc_region ?_
  refine w_ex rfl (x_box rfl hM ?_); intro b20 w19 hR21 hM
  replace hM : St ⟨w, X, S⟩ [oBox b20 #[(.int .i64 a.kind), (.int .i64 a.n), s_a_2.v] 75] [rV s_a_2.v (cSl 1 fI a.signs)] _ := hM
  refine wv rfl (r_assign rfl) ?_
  refine wl_nil ?_
  refine sq_n ?_
  refine wc_seq ?_
  refine wc_region ?_
  refine wv rfl (r_fld Try.underlying75 rfl rfl sz24 rfl) ?_
  refine wv rfl (r_ldB Try.underlying24 rfl rfl hM (.head _) rfl) ?_
  refine wv rfl (r_move rfl) ?_
  obtain ⟨r27, h28, hx⟩ := bind_some' hx
  refine w_call rfl rfl (hM.callV fun X S oL hS hR hO => ct_laws_szIntS _ X S a.signs s_a_2 left hS (hR _ (.head _)) oL h28) ?_
  rintro _ w29 ⟨rfl, hR30⟩
  have hM := hM.call hR30
  refine wv rfl (r_assign rfl) ?_
  refine wl_nil ?_
  refine sq_n ?_
  refine wc_seq ?_
  refine wc_seq ?_
  refine wc_region ?_
  refine wv rfl (r_move rfl) ?_
  refine wv rfl (r_lss rfl rfl) ?_
  refine wl_nil ?_
  refine sq_n ?_
  refine wc_cond rfl (fun hc34 => ?_) (fun hc34 => ?_)
  · replace hx := xif_t hc34 hx
    refine wc_seq ?_
    refine wc_region ?_
    refine wv rfl (r_assign rfl) ?_
    refine wl_nil ?_
    refine sq_n ?_
    refine wc_ret ?_
    refine sq_ret ?_
    obtain rfl := Option.some.inj hx
    refine fin_ret [(.int .i64 (-1))] ⟨rfl, trivial⟩ ?_
    replace hM : St ⟨w, X, S⟩ [] [rV s_a_2.v (cSl 1 fI a.signs)] _ := hM.tk 0
    have hM := hM.fewer rsN
    exact ⟨(), rfl, hM.gives⟩
  · replace hx := xif_f hc34 hx
    refine wc_skip ?_
    refine sq_n ?_
    refine wc_seq ?_
    refine wc_region ?_
    refine wv rfl (r_move rfl) ?_
    refine wv rfl (r_assign rfl) ?_
    refine wl_nil ?_
    refine sq_n ?_
    refine wc_ret ?_
    obtain rfl := Option.some.inj hx
    refine fin_ret [(.int .i64 r27)] ⟨rfl, trivial⟩ ?_
    replace hM : St ⟨w, X, S⟩ [] [rV s_a_2.v (cSl 1 fI a.signs)] _ := hM.tk 0
    have hM := hM.fewer rsN
    exact ⟨(), rfl, hM.gives⟩

noncomputable def x_laws_szPartS_b0 (a : List DPart) (left12 : Int) (i13 : Int) : Option (Lr (Int × Int) (Sum Int Int)) :=
  bif decide (i13 < (a.length : Int)) then (xg (0 ≤ i13 ∧ i13 < (a.length : Int)) <| Option.bind (x_laws_szPart (el a i13.toNat) left12) fun r52 => bif decide (r52 < 0) then (some (Lr.out (Sum.inr (-1)))) else (xg (inI (i13 + 1)) <| some (Lr.go (r52, i13 + 1)))) else (some (Lr.out (Sum.inl left12)))
noncomputable def x_laws_szPartS_f0 (a : List DPart) (s64 : Int × Int) : Option (Lr (Int × Int) (Sum Int Int)) := x_laws_szPartS_b0 a s64.1 s64.2
noncomputable def x_laws_szPartS (a : List DPart) (left : Int) : Option Int :=
  xg (inI (left - (a.length : Int))) <| bif decide ((left - (a.length : Int)) < 0) then (some (-1)) else (Option.bind (iter (x_laws_szPartS_f0 a) (left - (a.length : Int), 0)) fun (y65 : Sum Int Int) => Sum.elim (fun y66 => some y66) (fun y67 => some y67) y65)
theorem ct_laws_szPartS (w : World) (X S : Bs) (a : List DPart) (s_a : Sv) (left : Int) (hS : ∀ b, S b → b < w.heap.size ∧ ¬ X b) (a_a_0 : (cSl 3 fDPart a).rd S w s_a.v) (oL : Sep [] X w) {r : Int} (hx : x_laws_szPartS a left = some r) :
    Ret Try.prog 15 [s_a.v, (.int .i64 left)] w (fun u w' => ∃ _ : Unit, u = (.int .i64 r) ∧ Gives X S w [] [] w') := by
  unfold x_laws_szPartS at hx
  refine enter Try.func15 rfl Try.ntmps15 (by kernel_rfl) rfl ?_
  have hM := St.enter oL hS
  have hM := hM.addE (r := rV s_a.v (cSl 3 fDPart a)) a_a_0
  refine wc_seq ?_
  refine wc_region ?_
  refine wv rfl (r_assign rfl) ?_
  refine wl_nil ?_
  refine sq_n ?_
  refine wc_seq ?_
  refine wc_region ?_
  refine wv rfl (r_move rfl) ?_
  refine wv rfl (r_move rfl) ?_
  refine wv rfl (r_lenC Try.underlying22 rfl (hM.seeR (.head _))) ?_
  obtain ⟨hg75, hx⟩ := xg_some hx
  refine wv rfl (r_sub rfl rfl hg75) ?_
  refine wv rfl (r_assign rfl) ?_
  refine wl_nil ?_
  refine sq_n ?_
  refine wc_seq ?_
  refine wc_seq ?_
  refine wc_region ?_
  refine wv rfl (r_move rfl) ?_
  refine wv rfl (r_lss rfl rfl) ?_
  refine wl_nil ?_
  refine sq_n ?_
  refine wc_cond rfl (fun hc79 => ?_) (fun hc79 => ?_)
  · replace hx := xif_t hc79 hx
    refine wc_seq ?_
    refine wc_region ?_
    refine wv rfl (r_assign rfl) ?_
    refine wl_nil ?_
    refine sq_n ?_
    refine wc_ret ?_
    refine sq_ret ?_
    obtain rfl := Option.some.inj hx
    refine fin_ret [(.int .i64 (-1))] ⟨rfl, trivial⟩ ?_
    replace hM : St ⟨w, X, S⟩ [] [rV s_a.v (cSl 3 fDPart a)] _ := hM.tk 0
    have hM := hM.fewer rsN
    exact ⟨(), rfl, hM.gives⟩
  · replace hx := xif_f hc79 hx
    refine wc_skip ?_
    refine sq_n ?_
    refine wc_seq ?_
    refine wc_seq ?_
    refine wc_region ?_
    refine wv rfl (r_assign rfl) ?_
    refine wl_nil ?_
    refine sq_n ?_
    refine wc_block ?_
    obtain ⟨y82, hx, hx83⟩ := bind_some' hx
    obtain ⟨m88, hx⟩ := iter_run hx
    refine wc_loop (un fun (m86 : Nat) => un fun (left84 : Int) => fun (i85 : Int) => [(0, s_a.v), (1, (.int .i64 left84)), (5, (.int .i64 i85))]) (un fun (m86 : Nat) => un fun (left84 : Int) => fun (i85 : Int) w' => St ⟨w, X, S⟩ [] [rV s_a.v (cSl 3 fDPart a)] w' ∧ iterN _ m86 (left84, i85) = some y82) (fun p => p.1) (m88, left - (a.length : Int), 0) ⟨rfl, rfl, rfl, trivial⟩ ⟨hM, hx⟩ ?_
    rintro ⟨m86, left84, i85⟩ w89 ⟨hM, hx⟩
    obtain ⟨m90, z91, rfl, hx, hx92⟩ := iterN_step hx
    unfold x_laws_szPartS_f0 x_laws_szPartS_b0 at hx
    try dsimp only at hx
    refine wc_seq ?_
    refine wc_seq ?_
    refine wc_region ?_
    refine wv rfl (r_move rfl) ?_
    refine wv rfl (r_move rfl) ?_
    refine wv rfl (r_lenC Try.underlying22 rfl (hM.seeR (.head _))) ?_
    refine wv rfl (r_lss rfl rfl) ?_
    refine wl_nil ?_
    refine sq_n ?_
    refine wc_cond rfl (fun hc97 => ?_) (fun hc97 => ?_)
    · replace hx := xif_t hc97 hx
      refine wc_skip ?_
      refine sq_n ?_
      refine wc_seq ?_
      refine wc_block ?_
      refine wc_seq ?_
      refine wc_region ?_
      refine wv rfl (r_move rfl) ?_
      refine wv rfl (r_move rfl) ?_
      obtain ⟨hg102, hx⟩ := xg_some hx
      have hi101 : i85.toNat < a.length := by omega
      refine wv rfl (r_ixC Try.underlying22 sz75 rfl rfl (hM.seeR (.head _)) hg102) ?_
      obtain ⟨s104, hM, hc105⟩ := hM.leaf (i := i85.toNat) (j := 2) (.head _) (fun _ => rfl) hi101 rfl
      refine wv rfl (r_ldC (o := i85.toNat * 3) Try.underlying75 sz75 rfl (us := [(.int .i64 ((el a i85.toNat).kind)), (.int .i64 ((el a i85.toNat).n)), s104.v]) rfl (hM.seeR (.tail _ (.head _))) hi101 ⟨(Cs.get (i := i85.toNat) (j := 0) (hM.seeR (.tail _ (.head _))) (fun _ => rfl) hi101 rfl), (Cs.get (i := i85.toNat) (j := 1) (hM.seeR (.tail _ (.head _))) (fun _ => rfl) hi101 rfl), (hc105 _ (Rel.refl _)), trivial⟩) ?_
      refine wv rfl (r_move rfl) ?_
      obtain ⟨r107, h108, hx⟩ := bind_some' hx
      refine w_call rfl rfl (hM.callV fun X S oL hS hR hO => ct_laws_szPart _ X S (el a i85.toNat) s104 left84 hS (hR _ (.head _)) oL h108) ?_
      rintro _ w109 ⟨rfl, hR110⟩
      have hM := hM.call hR110
      refine wv rfl (r_assign rfl) ?_
      refine wl_nil ?_
      refine sq_n ?_
      refine wc_seq ?_
      refine wc_region ?_
      refine wv rfl (r_move rfl) ?_
      refine wv rfl (r_lss rfl rfl) ?_
      refine wl_nil ?_
      refine sq_n ?_
      refine wc_cond rfl (fun hc114 => ?_) (fun hc114 => ?_)
      · replace hx := xif_t hc114 hx
        refine wc_seq ?_
        refine wc_region ?_
        refine wv rfl (r_assign rfl) ?_
        refine wl_nil ?_
        refine sq_n ?_
        refine wc_ret ?_
        refine bk_ret ?_
        refine sq_ret ?_
        refine lp1_ret ?_
        obtain rfl := Option.some.inj hx
        obtain rfl := Option.some.inj hx92
        replace hx := hx83
        try dsimp only [Sum.elim_inl, Sum.elim_inr] at hx
        refine bk_ret ?_
        refine sq_ret ?_
        obtain rfl := Option.some.inj hx
        refine fin_ret [(.int .i64 (-1))] ⟨rfl, trivial⟩ ?_
        replace hM : St ⟨w, X, S⟩ [] [rV s104.v (cSl 1 fI ((el a i85.toNat).signs)), rV s_a.v (cSl 3 fDPart a)] _ := hM.tk 0
        have hM := hM.fewer rsN
        exact ⟨(), rfl, hM.gives⟩
      · replace hx := xif_f hc114 hx
        refine wc_skip ?_
        refine bk_n ?_
        refine sq_n ?_
        refine wc_region ?_
        refine wv rfl (r_move rfl) ?_
        obtain ⟨hg118, hx⟩ := xg_some hx
        refine wv rfl (r_add rfl rfl hg118) ?_
        refine wv rfl (r_assign rfl) ?_
        refine wl_nil ?_
        obtain rfl := Option.some.inj hx
        have hM := hM.fewer (rsC (.tail _ (.head _)) rsN)
        replace hM : St ⟨w, X, S⟩ [] [rV s_a.v (cSl 3 fDPart a)] _ := hM
        exact lp_end (m90, r107, i85 + 1) (Nat.lt_succ_self _) ⟨rfl, rfl, rfl, trivial⟩ ⟨hM, hx92⟩
    · replace hx := xif_f hc97 hx
      refine wc_exit ?_
      refine sq_exit ?_
      refine lp1_exit ?_
      obtain rfl := Option.some.inj hx
      obtain rfl := Option.some.inj hx92
      replace hx := hx83
      try dsimp only [Sum.elim_inl, Sum.elim_inr] at hx
      refine bk_here ?_
      refine sq_n ?_
      refine wc_seq ?_
      refine wc_region ?_
      refine wv rfl (r_move rfl) ?_
      refine wv rfl (r_assign rfl) ?_
      refine wl_nil ?_
      refine sq_n ?_
      refine wc_ret ?_
      obtain rfl := Option.some.inj hx
      refine fin_ret [(.int .i64 left84)] ⟨rfl, trivial⟩ ?_
      replace hM : St ⟨w, X, S⟩ [] [rV s_a.v (cSl 3 fDPart a)] _ := hM.tk 0
      have hM := hM.fewer rsN
      exact ⟨(), rfl, hM.gives⟩

noncomputable def x_laws_toPart (a : DPart) : Option DPart :=
  Option.bind (x_laws_toIntS a.signs) fun r25 => some (⟨a.kind, a.n, r25⟩ : DPart)
theorem ct_laws_toPart (w : World) (X S : Bs) (a : DPart) (s_a_2 : Sv) (hS : ∀ b, S b → b < w.heap.size ∧ ¬ X b) (a_a_2 : (cSl 1 fI a.signs).rd S w s_a_2.v) (oL : Sep [] X w) {r : DPart} (hx : x_laws_toPart a = some r) :
    Ret Try.prog 62 [(.agg #[(.int .i64 a.kind), (.int .i64 a.n), s_a_2.v])] w (fun u w' => ∃ y : Sv, u = .agg #[(.int .i64 r.kind), (.int .i64 r.n), y.v] ∧ Gives X S w [oC (cSl 1 fI r.signs) y.v] [] w') := by
  unfold x_laws_toPart at hx
  refine enter Try.func62 rfl Try.ntmps62 (by kernel_rfl) rfl ?_
  have hM := St.enter oL hS
  have hM := hM.addE (r := rV s_a_2.v (cSl 1 fI a.signs)) a_a_2
  refine wc_seq ?_
  refine wc_region ?_
  refine w_ex rfl (x_box rfl hM ?_); intro b37 w36 hR38 hM
  replace hM : St ⟨w, X, S⟩ [oBox b37 #[(.int .i64 a.kind), (.int .i64 a.n), s_a_2.v] 75] [rV s_a_2.v (cSl 1 fI a.signs)] _ := hM
  refine w_ex rfl (x_alloc sz79 hM ?_); intro b41 w40 hR42 hM
  replace hM : St ⟨w, X, S⟩ [oBox b41 #[(.int .i64 0), (.int .i64 0), (.slice none 0 0)] 79, oBox b37 #[(.int .i64 a.kind), (.int .i64 a.n), s_a_2.v] 75] [rV s_a_2.v (cSl 1 fI a.signs)] _ := hM
  refine wl_nil ?_
  refine sq_n ?_
  refine wc_seq ?_
  refine wc_region ?_
  refine w_ex rfl (x_alloc sz79 hM ?_); intro b45 w44 hR46 hM
  replace hM : St ⟨w, X, S⟩ [oBox b45 #[(.int .i64 0), (.int .i64 0), (.slice none 0 0)] 79, oBox b41 #[(.int .i64 0), (.int .i64 0), (.slice none 0 0)] 79, oBox b37 #[(.int .i64 a.kind), (.int .i64 a.n), s_a_2.v] 75] [rV s_a_2.v (cSl 1 fI a.signs)] _ := hM
  refine wl_nil ?_
  refine sq_n ?_
  refine wc_seq ?_
  refine wc_region ?_
  refine wv rfl (r_fld Try.underlying75 rfl rfl sz3 rfl) ?_
  refine wv rfl (r_ldB Try.underlying3 rfl rfl hM (.tail _ (.tail _ (.head _))) rfl) ?_
  refine wv rfl (r_fld Try.underlying79 rfl rfl sz3 rfl) ?_
  refine w_exu (x_stB #[(.int .i64 a.kind), (.int .i64 0), (.slice none 0 0)] sz3 rfl rfl rfl rfl rfl rfl hM ?_); intro w51 hM
  refine wl_nil ?_
  refine sq_n ?_
  refine wc_seq ?_
  refine wc_region ?_
  refine wv rfl (r_fld Try.underlying75 rfl rfl sz3 rfl) ?_
  refine wv rfl (r_ldB Try.underlying3 rfl rfl hM (.tail _ (.tail _ (.head _))) rfl) ?_
  refine wv rfl (r_fld Try.underlying79 rfl rfl sz3 rfl) ?_
  refine w_exu (x_stB #[(.int .i64 a.kind), (.int .i64 a.n), (.slice none 0 0)] sz3 rfl rfl rfl rfl rfl rfl hM ?_); intro w56 hM
  refine wl_nil ?_
  refine sq_n ?_
  refine wc_seq ?_
  refine wc_region ?_
  refine wv rfl (r_fld Try.underlying75 rfl rfl sz24 rfl) ?_
  refine wv rfl (r_ldB Try.underlying24 rfl rfl hM (.tail _ (.tail _ (.head _))) rfl) ?_
  obtain ⟨r60, h61, hx⟩ := bind_some' hx
  refine w_call rfl rfl (hM.callO (l := []) fun X S oL hS hR hO => ct_laws_toIntS _ X S a.signs s_a_2 hS (hR _ (.head _)) oL h61) ?_
  rintro _ w62 ⟨s63, rfl, hM⟩
  replace hM : St ⟨w, X, S⟩ [oC (cSl 1 fI r60) s63.v, oBox b45 #[(.int .i64 a.kind), (.int .i64 a.n), (.slice none 0 0)] 79, oBox b41 #[(.int .i64 0), (.int .i64 0), (.slice none 0 0)] 79, oBox b37 #[(.int .i64 a.kind), (.int .i64 a.n), s_a_2.v] 75] [rV s_a_2.v (cSl 1 fI a.signs)] _ := hM
  refine wv rfl (r_fld Try.underlying79 rfl rfl sz24 rfl) ?_
  replace hM : St ⟨w, X, S⟩ [oBox b45 #[(.int .i64 a.kind), (.int .i64 a.n), (.slice none 0 0)] 79, oC (cSl 1 fI r60) s63.v, oBox b41 #[(.int .i64 0), (.int .i64 0), (.slice none 0 0)] 79, oBox b37 #[(.int .i64 a.kind), (.int .i64 a.n), s_a_2.v] 75] [rV s_a_2.v (cSl 1 fI a.signs)] _ := hM.pl [1]
  refine w_exu (x_stB #[(.int .i64 a.kind), (.int .i64 a.n), s63.v] sz24 rfl rfl rfl rfl rfl rfl hM ?_); intro w66 hM
  refine wl_nil ?_
  refine sq_n ?_
  refine wc_seq ?_
  refine wc_region ?_
  refine wv rfl (r_ldBS Try.underlying79 sz79 rfl (us := [(.int .i64 a.kind), (.int .i64 a.n), s63.v]) rfl hM (.head _) rfl) ?_
  replace hM : St ⟨w, X, S⟩ [oBox b41 #[(.int .i64 0), (.int .i64 0), (.slice none 0 0)] 79, oBox b45 #[(.int .i64 a.kind), (.int .i64 a.n), s63.v] 79, oC (cSl 1 fI r60) s63.v, oBox b37 #[(.int .i64 a.kind), (.int .i64 a.n), s_a_2.v] 75] [rV s_a_2.v (cSl 1 fI a.signs)] _ := hM.pl [2]
  refine w_exu (x_stB #[(.int .i64 a.kind), (.int .i64 a.n), s63.v] sz79 rfl rfl rfl rfl rfl rfl hM ?_); intro w69 hM
  refine wl_nil ?_
  refine sq_n ?_
  refine wc_ret ?_
  obtain rfl := Option.some.inj hx
  refine fin_ret [(.agg #[(.int .i64 a.kind), (.int .i64 a.n), s63.v])] ⟨rv_box Try.underlying79 sz79 rfl rfl hM (.head _), trivial⟩ ?_
  replace hM : St ⟨w, X, S⟩ [oC (cSl 1 fI r60) s63.v, oBox b41 #[(.int .i64 a.kind), (.int .i64 a.n), s63.v] 79, oBox b45 #[(.int .i64 a.kind), (.int .i64 a.n), s63.v] 79, oBox b37 #[(.int .i64 a.kind), (.int .i64 a.n), s_a_2.v] 75] [rV s_a_2.v (cSl 1 fI a.signs)] _ := hM.pl [2]
  replace hM : St ⟨w, X, S⟩ [oC (cSl 1 fI r60) s63.v] [rV s_a_2.v (cSl 1 fI a.signs)] _ := hM.tk 1
  have hM := hM.fewer rsN
  exact ⟨s63, rfl, hM.gives⟩

noncomputable def x_laws_toPartS_b0 (a : List DPart) (i41 : Int) (l42 : List DPart) : Option (Lr (Int × List DPart) (List DPart)) :=
  bif decide (i41 < (a.length : Int)) then (xg (0 ≤ i41 ∧ i41 < (a.length : Int)) <| Option.bind (x_laws_toPart (el a i41.toNat)) fun r86 => xg (0 ≤ i41 ∧ i41 < (l42.length : Int)) <| xg (inI (i41 + 1)) <| some (Lr.go (i41 + 1, l42.set i41.toNat r86))) else (some (Lr.out l42))
noncomputable def x_laws_toPartS_f0 (a : List DPart) (s100 : Int × List DPart) : Option (Lr (Int × List DPart) (List DPart)) := x_laws_toPartS_b0 a s100.1 s100.2
noncomputable def x_laws_toPartS (a : List DPart) : Option (List DPart) :=
  xg (0 ≤ (a.length : Int) ∧ (a.length : Int) ≤ 1099511627776) <| Option.bind (iter (x_laws_toPartS_f0 a) (0, List.replicate ((a.length : Int).toNat) (default : DPart))) fun (y101 : List DPart) => some y101
theorem ct_laws_toPartS (w : World) (X S : Bs) (a : List DPart) (s_a : Sv) (hS : ∀ b, S b → b < w.heap.size ∧ ¬ X b) (a_a_0 : (cSl 3 fDPart a).rd S w s_a.v) (oL : Sep [] X w) {r : List DPart} (hx : x_laws_toPartS a = some r) :
    Ret Try.prog 17 [s_a.v] w (fun u w' => ∃ y : Sv, u = y.v ∧ Gives X S w [oC (cSl 3 fDPart r) y.v] [] w') := by
  unfold x_laws_toPartS at hx
  refine enter Try.func17 rfl Try.ntmps17 (by kernel_rfl) rfl ?_
  have hM := St.enter oL hS
  have hM := hM.addE (r := rV s_a.v (cSl 3 fDPart a)) a_a_0
  refine wc_seq ?_
  refine wc_region ?_
  refine wv rfl (r_assign rfl) ?_
  refine wl_nil ?_
  refine sq_n ?_
  refine wc_seq ?_
  refine wc_region ?_
  refine wv rfl (r_move rfl) ?_
  refine wv rfl (r_lenC Try.underlying22 rfl (hM.seeR (.head _))) ?_
  obtain ⟨hg110, hx⟩ := xg_some hx
  have hk111 : (a.length : Int) = ((a.length : Int).toNat : Int) := by omega
  refine w_ex rfl (x_make (f := fDPart) (k := ((a.length : Int).toNat)) (default : DPart) Try.underlying26 sz79 (fun _ => rfl) (fun _ => zP (pV _ rfl) (zP (pV _ rfl) (zP (pN _ _) zN))) (by rw [← hk111]; rfl) (by omega) rfl hM ?_); intro s109 w108 hR112 hM
  refine wv rfl (r_assign rfl) ?_
  refine wl_nil ?_
  refine sq_n ?_
  refine wc_seq ?_
  refine wc_seq ?_
  refine wc_region ?_
  refine wv rfl (r_assign rfl) ?_
  refine wl_nil ?_
  refine sq_n ?_
  refine wc_block ?_
  obtain ⟨y116, hx, hx117⟩ := bind_some' hx
  obtain ⟨m122, hx⟩ := iter_run hx
  refine wc_loop (un fun (m120 : Nat) => un fun (i118 : Int) => fun (l119 : List DPart) => [(0, s_a.v), (3, s109.v), (4, (.int .i64 i118))]) (un fun (m120 : Nat) => un fun (i118 : Int) => fun (l119 : List DPart) w' => St ⟨w, X, S⟩ [oC (cSl 3 fDPart l119) s109.v] [rV s_a.v (cSl 3 fDPart a)] w' ∧ iterN _ m120 (i118, l119) = some y116) (fun p => p.1) (m122, 0, List.replicate ((a.length : Int).toNat) (default : DPart)) ⟨rfl, rfl, rfl, trivial⟩ ⟨hM, hx⟩ ?_
  rintro ⟨m120, i118, l119⟩ w123 ⟨hM, hx⟩
  obtain ⟨m124, z125, rfl, hx, hx126⟩ := iterN_step hx
  unfold x_laws_toPartS_f0 x_laws_toPartS_b0 at hx
  try dsimp only at hx
  refine wc_seq ?_
  refine wc_seq ?_
  refine wc_region ?_
  refine wv rfl (r_move rfl) ?_
  refine wv rfl (r_move rfl) ?_
  refine wv rfl (r_lenC Try.underlying22 rfl (hM.seeR (.head _))) ?_
  refine wv rfl (r_lss rfl rfl) ?_
  refine wl_nil ?_
  refine sq_n ?_
  refine wc_cond rfl (fun hc131 => ?_) (fun hc131 => ?_)
  · replace hx := xif_t hc131 hx
    refine wc_skip ?_
    refine sq_n ?_
    refine wc_seq ?_
    refine wc_block ?_
    refine wc_region ?_
    refine wv rfl (r_move rfl) ?_
    refine wv rfl (r_move rfl) ?_
    refine wv rfl (r_move rfl) ?_
    refine wv rfl (r_move rfl) ?_
    obtain ⟨hg138, hx⟩ := xg_some hx
    have hi137 : i118.toNat < a.length := by omega
    refine wv rfl (r_ixC Try.underlying22 sz75 rfl rfl (hM.seeR (.head _)) hg138) ?_
    obtain ⟨s140, hM, hc141⟩ := hM.leaf (i := i118.toNat) (j := 2) (.head _) (fun _ => rfl) hi137 rfl
    refine wv rfl (r_ldC (o := i118.toNat * 3) Try.underlying75 sz75 rfl (us := [(.int .i64 ((el a i118.toNat).kind)), (.int .i64 ((el a i118.toNat).n)), s140.v]) rfl (hM.seeR (.tail _ (.head _))) hi137 ⟨(Cs.get (i := i118.toNat) (j := 0) (hM.seeR (.tail _ (.head _))) (fun _ => rfl) hi137 rfl), (Cs.get (i := i118.toNat) (j := 1) (hM.seeR (.tail _ (.head _))) (fun _ => rfl) hi137 rfl), (hc141 _ (Rel.refl _)), trivial⟩) ?_
    obtain ⟨r142, h143, hx⟩ := bind_some' hx
    refine w_call rfl rfl (hM.callO (l := []) fun X S oL hS hR hO => ct_laws_toPart _ X S (el a i118.toNat) s140 hS (hR _ (.head _)) oL h143) ?_
    rintro _ w144 ⟨s145, rfl, hM⟩
    replace hM : St ⟨w, X, S⟩ [oC (cSl 1 fI r142.signs) s145.v, oC (cSl 3 fDPart l119) s109.v] [rV s140.v (cSl 1 fI ((el a i118.toNat).signs)), rV s_a.v (cSl 3 fDPart a)] _ := hM
    obtain ⟨hg149, hx⟩ := xg_some hx
    have hi148 : i118.toNat < l119.length := by omega
    refine wv rfl (r_ixC Try.underlying26 sz79 rfl rfl (hM.seeO (.tail _ (.head _))) hg149) ?_
    replace hM : St ⟨w, X, S⟩ [oC (cSl 3 fDPart l119) s109.v, oC (cSl 1 fI r142.signs) s145.v] [rV s140.v (cSl 1 fI ((el a i118.toNat).signs)), rV s_a.v (cSl 3 fDPart a)] _ := hM.pl [0, 1]
    refine w_exu (x_stE (f := fDPart) (k := 3) (L := l119) (i := i118.toNat) (j := 0) r142 [cI r142.kind, cI r142.n, cSl 1 fI r142.signs] sz79 (fun _ => rfl) rfl rfl hi148 rfl rfl rfl rfl rfl (fun _ => zP (pV _ rfl) (zP (pV _ rfl) (zO zN))) hM ?_); intro w150 hM
    refine wl_nil ?_
    refine bk_n ?_
    refine sq_n ?_
    refine wc_region ?_
    refine wv rfl (r_move rfl) ?_
    obtain ⟨hg154, hx⟩ := xg_some hx
    refine wv rfl (r_add rfl rfl hg154) ?_
    refine wv rfl (r_assign rfl) ?_
    refine wl_nil ?_
    obtain rfl := Option.some.inj hx
    have hM := hM.fewer (rsC (.tail _ (.head _)) rsN)
    replace hM : St ⟨w, X, S⟩ [oC (cSl 3 fDPart (l119.set i118.toNat r142)) s109.v] [rV s_a.v (cSl 3 fDPart a)] _ := hM
    exact lp_end (m124, i118 + 1, l119.set i118.toNat r142) (Nat.lt_succ_self _) ⟨rfl, rfl, rfl, trivial⟩ ⟨hM, hx126⟩
  · replace hx := xif_f hc131 hx
    refine wc_exit ?_
    refine sq_exit ?_
    refine lp1_exit ?_
    obtain rfl := Option.some.inj hx
    obtain rfl := Option.some.inj hx126
    replace hx := hx117
    try dsimp only [Sum.elim_inl, Sum.elim_inr] at hx
    refine bk_here ?_
    refine sq_n ?_
    refine wc_seq ?_
    refine wc_region ?_
    refine wv rfl (r_move rfl) ?_
    refine wv rfl (r_assign rfl) ?_
    refine wl_nil ?_
    refine sq_n ?_
    refine wc_ret ?_
    obtain rfl := Option.some.inj hx
    refine fin_ret [s109.v] ⟨rfl, trivial⟩ ?_
    replace hM : St ⟨w, X, S⟩ [oC (cSl 3 fDPart l119) s109.v] [rV s_a.v (cSl 3 fDPart a)] _ := hM.tk 1
    have hM := hM.fewer rsN
    exact ⟨s109, rfl, hM.gives⟩

noncomputable def x_laws_FnExactRowMoved (aT : List Int) (aO : List DPart) (aRow : Int) : Option Bool :=
  bif decide ((1048576 : Int) < (aT.length : Int)) then (some true) else (Option.bind (x_laws_szPartS aO 1048576) fun r9 => bif decide (r9 < 0) then (some true) else (Option.bind (x_laws_toIntS aT) fun r18 => Option.bind (x_laws_toPartS aO) fun r24 => Option.bind (x_spec_RowMoved r18 r24 aRow) fun r30 => Option.bind (x_laws_toIntS aT) fun r40 => Option.bind (x_laws_toPartS aO) fun r47 => Option.bind (x_impl_RowMoved r40 r47 aRow) fun r56 => Option.bind (bif !decide (r56.1 = r30.1) then (some true) else (some (!(r56.2 == r30.2)))) fun c69 => bif c69 then (some false) else (Option.bind (x_laws_toIntS aT) fun r80 => Option.bind (x_laws_eqIntS r40 r80) fun r85 => bif !r85 then (some false) else (Option.bind (x_laws_toPartS aO) fun r93 => Option.bind (x_laws_eqPartS r47 r93) fun r98 => bif !r98 then (some false) else (some true)))))
theorem ct_laws_FnExactRowMoved (w : World) (X S : Bs) (aT : List Int) (s_aT : Sv) (aO : List DPart) (s_aO : Sv) (aRow : Int) (hS : ∀ b, S b → b < w.heap.size ∧ ¬ X b) (a_aT_0 : (cSl 1 fI aT).rd S w s_aT.v) (a_aO_0 : (cSl 3 fDPart aO).rd S w s_aO.v) (oL : Sep [] X w) {r : Bool} (hx : x_laws_FnExactRowMoved aT aO aRow = some r) :
    Ret Try.prog 9 [s_aT.v, s_aO.v, (.int .i64 aRow)] w (fun u w' => ∃ _ : Unit, u = (.bool r) ∧ Gives X S w [] [] w') := by
  unfold x_laws_FnExactRowMoved at hx
  refine enter Try.func9 rfl Try.ntmps9 (by kernel_rfl) rfl ?_
  have hM := St.enter oL hS
  have hM := hM.addE (r := rV s_aT.v (cSl 1 fI aT)) a_aT_0
  have hM := hM.addE (r := rV s_aO.v (cSl 3 fDPart aO)) a_aO_0
  refine wc_seq ?_
  refine wc_region ?_
  refine wv rfl (r_assign rfl) ?_
  refine wl_nil ?_
  refine sq_n ?_
  refine wc_seq ?_
  refine wc_seq ?_
  refine wc_region ?_
  refine wv rfl (r_move rfl) ?_
  refine wv rfl (r_lenC Try.underlying24 rfl (hM.seeR (.tail _ (.head _)))) ?_
  refine wv rfl (r_gtr rfl rfl) ?_
  refine wl_nil ?_
  refine sq_n ?_
  refine wc_cond rfl (fun hc109 => ?_) (fun hc109 => ?_)
  · replace hx := xif_t hc109 hx
    refine wc_seq ?_
    refine wc_region ?_
    refine wv rfl (r_assign rfl) ?_
    refine wl_nil ?_
    refine sq_n ?_
    refine wc_ret ?_
    refine sq_ret ?_
    obtain rfl := Option.some.inj hx
    refine fin_ret [(.bool true)] ⟨rfl, trivial⟩ ?_
    replace hM : St ⟨w, X, S⟩ [] [rV s_aO.v (cSl 3 fDPart aO), rV s_aT.v (cSl 1 fI aT)] _ := hM.tk 0
    have hM := hM.fewer rsN
    exact ⟨(), rfl, hM.gives⟩
  · replace hx := xif_f hc109 hx
    refine wc_skip ?_
    refine sq_n ?_
    refine wc_seq ?_
    refine wc_region ?_
    refine wv rfl (r_assign rfl) ?_
    refine wl_nil ?_
    refine sq_n ?_
    refine wc_seq ?_
    refine wc_region ?_
    refine wv rfl (r_move rfl) ?_
    refine wv rfl (r_move rfl) ?_
    obtain ⟨r114, h115, hx⟩ := bind_some' hx
    refine w_call rfl rfl (hM.callV fun X S oL hS hR hO => ct_laws_szPartS _ X S aO s_aO (1048576 : Int) hS (hR _ (.head _)) oL h115) ?_
    rintro _ w116 ⟨rfl, hR117⟩
    have hM := hM.call hR117
    refine wv rfl (r_assign rfl) ?_
    refine wl_nil ?_
    refine sq_n ?_
    refine wc_seq ?_
    refine wc_seq ?_
    refine wc_region ?_
    refine wv rfl (r_move rfl) ?_
    refine wv rfl (r_lss rfl rfl) ?_
    refine wl_nil ?_
    refine sq_n ?_
    refine wc_cond rfl (fun hc121 => ?_) (fun hc121 => ?_)
    · replace hx := xif_t hc121 hx
      refine wc_seq ?_
      refine wc_region ?_
      refine wv rfl (r_assign rfl) ?_
      refine wl_nil ?_
      refine sq_n ?_
      refine wc_ret ?_
      refine sq_ret ?_
      obtain rfl := Option.some.inj hx
      refine fin_ret [(.bool true)] ⟨rfl, trivial⟩ ?_
      replace hM : St ⟨w, X, S⟩ [] [rV s_aO.v (cSl 3 fDPart aO), rV s_aT.v (cSl 1 fI aT)] _ := hM.tk 0
      have hM := hM.fewer rsN
      exact ⟨(), rfl, hM.gives⟩
    · replace hx := xif_f hc121 hx
      refine wc_skip ?_
      refine sq_n ?_
      refine wc_seq ?_
      refine wc_region ?_
      refine wv rfl (r_move rfl) ?_
      obtain ⟨r124, h125, hx⟩ := bind_some' hx
      refine w_call rfl rfl (hM.callO (l := []) fun X S oL hS hR hO => ct_laws_toIntS _ X S aT s_aT hS (hR _ (.tail _ (.head _))) oL h125) ?_
      rintro _ w126 ⟨s127, rfl, hM⟩
      replace hM : St ⟨w, X, S⟩ [oC (cSl 1 fI r124) s127.v] [rV s_aO.v (cSl 3 fDPart aO), rV s_aT.v (cSl 1 fI aT)] _ := hM
      refine wv rfl (r_move rfl) ?_
      obtain ⟨r130, h131, hx⟩ := bind_some' hx
      refine w_call rfl rfl (hM.callO (l := []) fun X S oL hS hR hO => ct_laws_toPartS _ X S aO s_aO hS (hR _ (.head _)) oL h131) ?_
      rintro _ w132 ⟨s133, rfl, hM⟩
      replace hM : St ⟨w, X, S⟩ [oC (cSl 3 fDPart r130) s133.v, oC (cSl 1 fI r124) s127.v] [rV s_aO.v (cSl 3 fDPart aO), rV s_aT.v (cSl 1 fI aT)] _ := hM
      refine wv rfl (r_move rfl) ?_
      obtain ⟨r136, h137, hx⟩ := bind_some' hx
      refine w_call rfl rfl (hM.callV fun X S oL hS hR hO => ct_spec_RowMoved _ X S r124 s127 r130 s133 aRow hS (seeA hO (.tail _ (.head _))) (seeA hO (.head _)) oL h137) ?_
      rintro _ w138 ⟨rfl, hR139⟩
      have hM := hM.call hR139
      refine wv rfl (r_move rfl) ?_
      refine wv rfl (r_extract rfl rfl) ?_
      refine wv rfl (r_extract rfl rfl) ?_
      refine wv rfl (r_assign rfl) ?_
      refine wv rfl (r_assign rfl) ?_
      refine wl_nil ?_
      refine sq_n ?_
      refine wc_seq ?_
      refine wc_region ?_
      refine wv rfl (r_move rfl) ?_
      obtain ⟨r146, h147, hx⟩ := bind_some' hx
      refine w_call rfl rfl (hM.callO (l := []) fun X S oL hS hR hO => ct_laws_toIntS _ X S aT s_aT hS (hR _ (.tail _ (.head _))) oL h147) ?_
      rintro _ w148 ⟨s149, rfl, hM⟩
      replace hM : St ⟨w, X, S⟩ [oC (cSl 1 fI r146) s149.v, oC (cSl 3 fDPart r130) s133.v, oC (cSl 1 fI r124) s127.v] [rV s_aO.v (cSl 3 fDPart aO), rV s_aT.v (cSl 1 fI aT)] _ := hM
      refine wv rfl (r_assign rfl) ?_
      refine wl_nil ?_
      refine sq_n ?_
      refine wc_seq ?_
      refine wc_region ?_
      refine wv rfl (r_move rfl) ?_
      obtain ⟨r153, h154, hx⟩ := bind_some' hx
      refine w_call rfl rfl (hM.callO (l := []) fun X S oL hS hR hO => ct_laws_toPartS _ X S aO s_aO hS (hR _ (.head _)) oL h154) ?_
      rintro _ w155 ⟨s156, rfl, hM⟩
      replace hM : St ⟨w, X, S⟩ [oC (cSl 3 fDPart r153) s156.v, oC (cSl 1 fI r146) s149.v, oC (cSl 3 fDPart r130) s133.v, oC (cSl 1 fI r124) s127.v] [rV s_aO.v (cSl 3 fDPart aO), rV s_aT.v (cSl 1 fI aT)] _ := hM
      refine wv rfl (r_assign rfl) ?_
      refine wl_nil ?_
      refine sq_n ?_
      refine wc_seq ?_
      refine wc_region ?_
      refine wv rfl (r_move rfl) ?_
      refine wv rfl (r_move rfl) ?_
      refine wv rfl (r_move rfl) ?_
      obtain ⟨r162, h163, hx⟩ := bind_some' hx
      refine w_call rfl rfl (hM.callV fun X S oL hS hR hO => ct_impl_RowMoved _ X S r146 s149 r153 s156 aRow hS (seeA hO (.tail _ (.head _))) (seeA hO (.head _)) oL h163) ?_
      rintro _ w164 ⟨rfl, hR165⟩
      have hM := hM.call hR165
      refine wv rfl (r_move rfl) ?_
      refine wv rfl (r_extract rfl rfl) ?_
      refine wv rfl (r_extract rfl rfl) ?_
      refine wv rfl (r_assign rfl) ?_
      refine wv rfl (r_assign rfl) ?_
      refine wl_nil ?_
      refine sq_n ?_
      refine wc_seq ?_
      refine wc_seq ?_
      refine wc_region ?_
      refine wv rfl (r_move rfl) ?_
      refine wv rfl (r_move rfl) ?_
      refine wv rfl (r_neq rfl rfl) ?_
      refine wv rfl (r_move rfl) ?_
      obtain ⟨c175, hx, hx180⟩ := bind_some' hx
      refine wl_mid 4 (fun _ : Unit => [(49, (.bool c175)), (0, s_aT.v), (1, s_aO.v), (10, s149.v), (11, s156.v)]) (fun _ w' => St ⟨w, X, S⟩ [oC (cSl 3 fDPart r153) s156.v, oC (cSl 1 fI r146) s149.v, oC (cSl 3 fDPart r130) s133.v, oC (cSl 1 fI r124) s127.v] [rV s_aO.v (cSl 3 fDPart aO), rV s_aT.v (cSl 1 fI aT)] w') ?_ ?_
      · rcases Bool.eq_false_or_eq_true (!decide (r162.1 = r136.1)) with hg176 | hg176
        · replace hx := xif_t hg176 hx
          refine gs rfl (isB_no hg176) rfl ?_
          refine gs rfl (isB_no hg176) rfl ?_
          refine gs rfl (isB_no hg176) rfl ?_
          refine wv rfl (p_t rfl hg176 rfl) ?_
          obtain rfl := Option.some.inj hx
          exact mid_nil () ⟨rfl, rfl, rfl, rfl, rfl, trivial⟩ hM
        · replace hx := xif_f hg176 hx
          refine gv rfl hg176 rfl (r_move rfl) ?_
          refine gv rfl hg176 rfl (r_move rfl) ?_
          refine gv rfl hg176 rfl (r_neqb Try.underlying4 rfl rfl) ?_
          refine wv rfl (p_f rfl hg176 rfl) ?_
          obtain rfl := Option.some.inj hx
          exact mid_nil () ⟨rfl, rfl, rfl, rfl, rfl, trivial⟩ hM
      rintro _ w184 hM
      replace hx := hx180
      refine wl_nil ?_
      refine sq_n ?_
      refine wc_cond rfl (fun hc185 => ?_) (fun hc185 => ?_)
      · replace hx := xif_t hc185 hx
        refine wc_seq ?_
        refine wc_region ?_
        refine wv rfl (r_assign rfl) ?_
        refine wl_nil ?_
        refine sq_n ?_
        refine wc_ret ?_
        refine sq_ret ?_
        obtain rfl := Option.some.inj hx
        refine fin_ret [(.bool false)] ⟨rfl, trivial⟩ ?_
        replace hM : St ⟨w, X, S⟩ [] [rV s_aO.v (cSl 3 fDPart aO), rV s_aT.v (cSl 1 fI aT)] _ := hM.tk 0
        have hM := hM.fewer rsN
        exact ⟨(), rfl, hM.gives⟩
      · replace hx := xif_f hc185 hx
        refine wc_skip ?_
        refine sq_n ?_
        refine wc_seq ?_
        refine wc_seq ?_
        refine wc_region ?_
        refine wv rfl (r_move rfl) ?_
        refine wv rfl (r_move rfl) ?_
        obtain ⟨r189, h190, hx⟩ := bind_some' hx
        refine w_call rfl rfl (hM.callO (l := []) fun X S oL hS hR hO => ct_laws_toIntS _ X S aT s_aT hS (hR _ (.tail _ (.head _))) oL h190) ?_
        rintro _ w191 ⟨s192, rfl, hM⟩
        replace hM : St ⟨w, X, S⟩ [oC (cSl 1 fI r189) s192.v, oC (cSl 3 fDPart r153) s156.v, oC (cSl 1 fI r146) s149.v, oC (cSl 3 fDPart r130) s133.v, oC (cSl 1 fI r124) s127.v] [rV s_aO.v (cSl 3 fDPart aO), rV s_aT.v (cSl 1 fI aT)] _ := hM
        obtain ⟨r194, h195, hx⟩ := bind_some' hx
        refine w_call rfl rfl (hM.callV fun X S oL hS hR hO => ct_laws_eqIntS _ X S r146 s149 r189 s192 hS (seeA hO (.tail _ (.tail _ (.head _)))) (seeA hO (.head _)) oL h195) ?_
        rintro _ w196 ⟨rfl, hR197⟩
        have hM := hM.call hR197
        refine wv rfl (r_not rfl) ?_
        refine wl_nil ?_
        refine sq_n ?_
        refine wc_cond rfl (fun hc199 => ?_) (fun hc199 => ?_)
        · replace hx := xif_t hc199 hx
          refine wc_seq ?_
          refine wc_region ?_
          refine wv rfl (r_assign rfl) ?_
          refine wl_nil ?_
          refine sq_n ?_
          refine wc_ret ?_
          refine sq_ret ?_
          obtain rfl := Option.some.inj hx
          refine fin_ret [(.bool false)] ⟨rfl, trivial⟩ ?_
          replace hM : St ⟨w, X, S⟩ [] [rV s_aO.v (cSl 3 fDPart aO), rV s_aT.v (cSl 1 fI aT)] _ := hM.tk 0
          have hM := hM.fewer rsN
          exact ⟨(), rfl, hM.gives⟩
        · replace hx := xif_f hc199 hx
          refine wc_skip ?_
          refine sq_n ?_
          refine wc_seq ?_
          refine wc_seq ?_
          refine wc_region ?_
          refine wv rfl (r_move rfl) ?_
          refine wv rfl (r_move rfl) ?_
          obtain ⟨r203, h204, hx⟩ := bind_some' hx
          refine w_call rfl rfl (hM.callO (l := []) fun X S oL hS hR hO => ct_laws_toPartS _ X S aO s_aO hS (hR _ (.head _)) oL h204) ?_
          rintro _ w205 ⟨s206, rfl, hM⟩
          replace hM : St ⟨w, X, S⟩ [oC (cSl 3 fDPart r203) s206.v, oC (cSl 1 fI r189) s192.v, oC (cSl 3 fDPart r153) s156.v, oC (cSl 1 fI r146) s149.v, oC (cSl 3 fDPart r130) s133.v, oC (cSl 1 fI r124) s127.v] [rV s_aO.v (cSl 3 fDPart aO), rV s_aT.v (cSl 1 fI aT)] _ := hM
          obtain ⟨r208, h209, hx⟩ := bind_some' hx
          refine w_call rfl rfl (hM.callV fun X S oL hS hR hO => ct_laws_eqPartS _ X S r153 s156 r203 s206 hS (seeA hO (.tail _ (.tail _ (.head _)))) (seeA hO (.head _)) oL h209) ?_
          rintro _ w210 ⟨rfl, hR211⟩
          have hM := hM.call hR211
          refine wv rfl (r_not rfl) ?_
          refine wl_nil ?_
          refine sq_n ?_
          refine wc_cond rfl (fun hc213 => ?_) (fun hc213 => ?_)
          · replace hx := xif_t hc213 hx
            refine wc_seq ?_
            refine wc_region ?_
            refine wv rfl (r_assign rfl) ?_
            refine wl_nil ?_
            refine sq_n ?_
            refine wc_ret ?_
            refine sq_ret ?_
            obtain rfl := Option.some.inj hx
            refine fin_ret [(.bool false)] ⟨rfl, trivial⟩ ?_
            replace hM : St ⟨w, X, S⟩ [] [rV s_aO.v (cSl 3 fDPart aO), rV s_aT.v (cSl 1 fI aT)] _ := hM.tk 0
            have hM := hM.fewer rsN
            exact ⟨(), rfl, hM.gives⟩
          · replace hx := xif_f hc213 hx
            refine wc_skip ?_
            refine sq_n ?_
            refine wc_seq ?_
            refine wc_region ?_
            refine wv rfl (r_assign rfl) ?_
            refine wl_nil ?_
            refine sq_n ?_
            refine wc_ret ?_
            obtain rfl := Option.some.inj hx
            refine fin_ret [(.bool true)] ⟨rfl, trivial⟩ ?_
            replace hM : St ⟨w, X, S⟩ [] [rV s_aO.v (cSl 3 fDPart aO), rV s_aT.v (cSl 1 fI aT)] _ := hM.tk 0
            have hM := hM.fewer rsN
            exact ⟨(), rfl, hM.gives⟩

noncomputable def x_laws_szMarkS (a : List DMark) (left : Int) : Option Int :=
  xg (inI (left - (a.length : Int))) <| bif decide ((left - (a.length : Int)) < 0) then (some (-1)) else (some (left - (a.length : Int)))
theorem ct_laws_szMarkS (w : World) (X S : Bs) (a : List DMark) (s_a : Sv) (left : Int) (hS : ∀ b, S b → b < w.heap.size ∧ ¬ X b) (a_a_0 : (cSl 3 fDMark a).rd S w s_a.v) (oL : Sep [] X w) {r : Int} (hx : x_laws_szMarkS a left = some r) :
    Ret Try.prog 41 [s_a.v, (.int .i64 left)] w (fun u w' => ∃ _ : Unit, u = (.int .i64 r) ∧ Gives X S w [] [] w') := by
  unfold x_laws_szMarkS at hx
  refine enter Try.func41 rfl Try.ntmps41 (by kernel_rfl) rfl ?_
  have hM := St.enter oL hS
  have hM := hM.addE (r := rV s_a.v (cSl 3 fDMark a)) a_a_0
  refine wc_seq ?_
  refine wc_region ?_
  refine wv rfl (r_assign rfl) ?_
  refine wl_nil ?_
  refine sq_n ?_
  refine wc_seq ?_
  refine wc_region ?_
  refine wv rfl (r_move rfl) ?_
  refine wv rfl (r_move rfl) ?_
  refine wv rfl (r_lenC Try.underlying55 rfl (hM.seeR (.head _))) ?_
  obtain ⟨hg18, hx⟩ := xg_some hx
  refine wv rfl (r_sub rfl rfl hg18) ?_
  refine wv rfl (r_assign rfl) ?_
  refine wl_nil ?_
  refine sq_n ?_
  refine wc_seq ?_
  refine wc_seq ?_
  refine wc_region ?_
  refine wv rfl (r_move rfl) ?_
  refine wv rfl (r_lss rfl rfl) ?_
  refine wl_nil ?_
  refine sq_n ?_
  refine wc_cond rfl (fun hc22 => ?_) (fun hc22 => ?_)
  · replace hx := xif_t hc22 hx
    refine wc_seq ?_
    refine wc_region ?_
    refine wv rfl (r_assign rfl) ?_
    refine wl_nil ?_
    refine sq_n ?_
    refine wc_ret ?_
    refine sq_ret ?_
    obtain rfl := Option.some.inj hx
    refine fin_ret [(.int .i64 (-1))] ⟨rfl, trivial⟩ ?_
    replace hM : St ⟨w, X, S⟩ [] [rV s_a.v (cSl 3 fDMark a)] _ := hM.tk 0
    have hM := hM.fewer rsN
    exact ⟨(), rfl, hM.gives⟩
  · replace hx := xif_f hc22 hx
    refine wc_skip ?_
    refine sq_n ?_
    refine wc_seq ?_
    refine wc_region ?_
    refine wv rfl (r_move rfl) ?_
    refine wv rfl (r_assign rfl) ?_
    refine wl_nil ?_
    refine sq_n ?_
    refine wc_ret ?_
    obtain rfl := Option.some.inj hx
    refine fin_ret [(.int .i64 (left - (a.length : Int)))] ⟨rfl, trivial⟩ ?_
    replace hM : St ⟨w, X, S⟩ [] [rV s_a.v (cSl 3 fDMark a)] _ := hM.tk 0
    have hM := hM.fewer rsN
    exact ⟨(), rfl, hM.gives⟩

noncomputable def x_laws_toMark (a : DMark) : Option DMark :=
  some a
theorem ct_laws_toMark (w : World) (X S : Bs) (a : DMark) (hS : ∀ b, S b → b < w.heap.size ∧ ¬ X b)  (oL : Sep [] X w) {r : DMark} (hx : x_laws_toMark a = some r) :
    Ret Try.prog 93 [(.agg #[(.int .i64 a.id), (.int .i64 a.from_), (.int .i64 a.to)])] w (fun u w' => ∃ _ : Unit, u = .agg #[(.int .i64 r.id), (.int .i64 r.from_), (.int .i64 r.to)] ∧ Gives X S w [] [] w') := by
  unfold x_laws_toMark at hx
  refine enter Try.func93 rfl Try.ntmps93 (by kernel_rfl) rfl ?_
  have hM := St.enter oL hS
  refine wc_seq ?_
  refine wc_region ?_
  refine w_ex rfl (x_box rfl hM ?_); intro b32 w31 hR33 hM
  replace hM : St ⟨w, X, S⟩ [oBox b32 #[(.int .i64 a.id), (.int .i64 a.from_), (.int .i64 a.to)] 100] [] _ := hM
  refine w_ex rfl (x_alloc sz98 hM ?_); intro b36 w35 hR37 hM
  replace hM : St ⟨w, X, S⟩ [oBox b36 #[(.int .i64 0), (.int .i64 0), (.int .i64 0)] 98, oBox b32 #[(.int .i64 a.id), (.int .i64 a.from_), (.int .i64 a.to)] 100] [] _ := hM
  refine wl_nil ?_
  refine sq_n ?_
  refine wc_seq ?_
  refine wc_region ?_
  refine w_ex rfl (x_alloc sz98 hM ?_); intro b40 w39 hR41 hM
  replace hM : St ⟨w, X, S⟩ [oBox b40 #[(.int .i64 0), (.int .i64 0), (.int .i64 0)] 98, oBox b36 #[(.int .i64 0), (.int .i64 0), (.int .i64 0)] 98, oBox b32 #[(.int .i64 a.id), (.int .i64 a.from_), (.int .i64 a.to)] 100] [] _ := hM
  refine wl_nil ?_
  refine sq_n ?_
  refine wc_seq ?_
  refine wc_region ?_
  refine wv rfl (r_fld Try.underlying100 rfl rfl sz3 rfl) ?_
  refine wv rfl (r_ldB Try.underlying3 rfl rfl hM (.tail _ (.tail _ (.head _))) rfl) ?_
  refine wv rfl (r_fld Try.underlying98 rfl rfl sz3 rfl) ?_
  refine w_exu (x_stB #[(.int .i64 a.id), (.int .i64 0), (.int .i64 0)] sz3 rfl rfl rfl rfl rfl rfl hM ?_); intro w46 hM
  refine wl_nil ?_
  refine sq_n ?_
  refine wc_seq ?_
  refine wc_region ?_
  refine wv rfl (r_fld Try.underlying100 rfl rfl sz3 rfl) ?_
  refine wv rfl (r_ldB Try.underlying3 rfl rfl hM (.tail _ (.tail _ (.head _))) rfl) ?_
  refine wv rfl (r_fld Try.underlying98 rfl rfl sz3 rfl) ?_
  refine w_exu (x_stB #[(.int .i64 a.id), (.int .i64 a.from_), (.int .i64 0)] sz3 rfl rfl rfl rfl rfl rfl hM ?_); intro w51 hM
  refine wl_nil ?_
  refine sq_n ?_
  refine wc_seq ?_
  refine wc_region ?_
  refine wv rfl (r_fld Try.underlying100 rfl rfl sz3 rfl) ?_
  refine wv rfl (r_ldB Try.underlying3 rfl rfl hM (.tail _ (.tail _ (.head _))) rfl) ?_
  refine wv rfl (r_fld Try.underlying98 rfl rfl sz3 rfl) ?_
  refine w_exu (x_stB #[(.int .i64 a.id), (.int .i64 a.from_), (.int .i64 a.to)] sz3 rfl rfl rfl rfl rfl rfl hM ?_); intro w56 hM
  refine wl_nil ?_
  refine sq_n ?_
  refine wc_seq ?_
  refine wc_region ?_
  refine wv rfl (r_ldBS Try.underlying98 sz98 rfl (us := [(.int .i64 a.id), (.int .i64 a.from_), (.int .i64 a.to)]) rfl hM (.head _) rfl) ?_
  replace hM : St ⟨w, X, S⟩ [oBox b36 #[(.int .i64 0), (.int .i64 0), (.int .i64 0)] 98, oBox b40 #[(.int .i64 a.id), (.int .i64 a.from_), (.int .i64 a.to)] 98, oBox b32 #[(.int .i64 a.id), (.int .i64 a.from_), (.int .i64 a.to)] 100] [] _ := hM.pl [1]
  refine w_exu (x_stB #[(.int .i64 a.id), (.int .i64 a.from_), (.int .i64 a.to)] sz98 rfl rfl rfl rfl rfl rfl hM ?_); intro w59 hM
  refine wl_nil ?_
  refine sq_n ?_
  refine wc_ret ?_
  obtain rfl := Option.some.inj hx
  refine fin_ret [(.agg #[(.int .i64 a.id), (.int .i64 a.from_), (.int .i64 a.to)])] ⟨rv_box Try.underlying98 sz98 rfl rfl hM (.head _), trivial⟩ ?_
  replace hM : St ⟨w, X, S⟩ [] [] _ := hM.tk 0
  have hM := hM.fewer rsN
  exact ⟨(), rfl, hM.gives⟩

noncomputable def x_laws_toMarkS_b0 (a : List DMark) (i38 : Int) (l39 : List DMark) : Option (Lr (Int × List DMark) (List DMark)) :=
  bif decide (i38 < (a.length : Int)) then (xg (0 ≤ i38 ∧ i38 < (a.length : Int)) <| Option.bind (x_laws_toMark (el a i38.toNat)) fun r78 => xg (0 ≤ i38 ∧ i38 < (l39.length : Int)) <| xg (inI (i38 + 1)) <| some (Lr.go (i38 + 1, l39.set i38.toNat r78))) else (some (Lr.out l39))
noncomputable def x_laws_toMarkS_f0 (a : List DMark) (s91 : Int × List DMark) : Option (Lr (Int × List DMark) (List DMark)) := x_laws_toMarkS_b0 a s91.1 s91.2
noncomputable def x_laws_toMarkS (a : List DMark) : Option (List DMark) :=
  xg (0 ≤ (a.length : Int) ∧ (a.length : Int) ≤ 1099511627776) <| Option.bind (iter (x_laws_toMarkS_f0 a) (0, List.replicate ((a.length : Int).toNat) (default : DMark))) fun (y92 : List DMark) => some y92
theorem ct_laws_toMarkS (w : World) (X S : Bs) (a : List DMark) (s_a : Sv) (hS : ∀ b, S b → b < w.heap.size ∧ ¬ X b) (a_a_0 : (cSl 3 fDMark a).rd S w s_a.v) (oL : Sep [] X w) {r : List DMark} (hx : x_laws_toMarkS a = some r) :
    Ret Try.prog 43 [s_a.v] w (fun u w' => ∃ y : Sv, u = y.v ∧ Gives X S w [oC (cSl 3 fDMark r) y.v] [] w') := by
  unfold x_laws_toMarkS at hx
  refine enter Try.func43 rfl Try.ntmps43 (by kernel_rfl) rfl ?_
  have hM := St.enter oL hS
  have hM := hM.addE (r := rV s_a.v (cSl 3 fDMark a)) a_a_0
  refine wc_seq ?_
  refine wc_region ?_
  refine wv rfl (r_assign rfl) ?_
  refine wl_nil ?_
  refine sq_n ?_
  refine wc_seq ?_
  refine wc_region ?_
  refine wv rfl (r_move rfl) ?_
  refine wv rfl (r_lenC Try.underlying55 rfl (hM.seeR (.head _))) ?_
  obtain ⟨hg101, hx⟩ := xg_some hx
  have hk102 : (a.length : Int) = ((a.length : Int).toNat : Int) := by omega
  refine w_ex rfl (x_make (f := fDMark) (k := ((a.length : Int).toNat)) (default : DMark) Try.underlying57 sz98 (fun _ => rfl) (fun _ => zP (pV _ rfl) (zP (pV _ rfl) (zP (pV _ rfl) zN))) (by rw [← hk102]; rfl) (by omega) rfl hM ?_); intro s100 w99 hR103 hM
  refine wv rfl (r_assign rfl) ?_
  refine wl_nil ?_
  refine sq_n ?_
  refine wc_seq ?_
  refine wc_seq ?_
  refine wc_region ?_
  refine wv rfl (r_assign rfl) ?_
  refine wl_nil ?_
  refine sq_n ?_
  refine wc_block ?_
  obtain ⟨y107, hx, hx108⟩ := bind_some' hx
  obtain ⟨m113, hx⟩ := iter_run hx
  refine wc_loop (un fun (m111 : Nat) => un fun (i109 : Int) => fun (l110 : List DMark) => [(0, s_a.v), (3, s100.v), (4, (.int .i64 i109))]) (un fun (m111 : Nat) => un fun (i109 : Int) => fun (l110 : List DMark) w' => St ⟨w, X, S⟩ [oC (cSl 3 fDMark l110) s100.v] [rV s_a.v (cSl 3 fDMark a)] w' ∧ iterN _ m111 (i109, l110) = some y107) (fun p => p.1) (m113, 0, List.replicate ((a.length : Int).toNat) (default : DMark)) ⟨rfl, rfl, rfl, trivial⟩ ⟨hM, hx⟩ ?_
  rintro ⟨m111, i109, l110⟩ w114 ⟨hM, hx⟩
  obtain ⟨m115, z116, rfl, hx, hx117⟩ := iterN_step hx
  unfold x_laws_toMarkS_f0 x_laws_toMarkS_b0 at hx
  try dsimp only at hx
  refine wc_seq ?_
  refine wc_seq ?_
  refine wc_region ?_
  refine wv rfl (r_move rfl) ?_
  refine wv rfl (r_move rfl) ?_
  refine wv rfl (r_lenC Try.underlying55 rfl (hM.seeR (.head _))) ?_
  refine wv rfl (r_lss rfl rfl) ?_
  refine wl_nil ?_
  refine sq_n ?_
  refine wc_cond rfl (fun hc122 => ?_) (fun hc122 => ?_)
  · replace hx := xif_t hc122 hx
    refine wc_skip ?_
    refine sq_n ?_
    refine wc_seq ?_
    refine wc_block ?_
    refine wc_region ?_
    refine wv rfl (r_move rfl) ?_
    refine wv rfl (r_move rfl) ?_
    refine wv rfl (r_move rfl) ?_
    refine wv rfl (r_move rfl) ?_
    obtain ⟨hg129, hx⟩ := xg_some hx
    have hi128 : i109.toNat < a.length := by omega
    refine wv rfl (r_ixC Try.underlying55 sz100 rfl rfl (hM.seeR (.head _)) hg129) ?_
    refine wv rfl (r_ldC (o := i109.toNat * 3) Try.underlying100 sz100 rfl (us := [(.int .i64 ((el a i109.toNat).id)), (.int .i64 ((el a i109.toNat).from_)), (.int .i64 ((el a i109.toNat).to))]) rfl (hM.seeR (.head _)) hi128 ⟨(Cs.get (i := i109.toNat) (j := 0) (hM.seeR (.head _)) (fun _ => rfl) hi128 rfl), (Cs.get (i := i109.toNat) (j := 1) (hM.seeR (.head _)) (fun _ => rfl) hi128 rfl), (Cs.get (i := i109.toNat) (j := 2) (hM.seeR (.head _)) (fun _ => rfl) hi128 rfl), trivial⟩) ?_
    obtain ⟨r131, h132, hx⟩ := bind_some' hx
    refine w_call rfl rfl (hM.callV fun X S oL hS hR hO => ct_laws_toMark _ X S (el a i109.toNat) hS  oL h132) ?_
    rintro _ w133 ⟨rfl, hR134⟩
    have hM := hM.call hR134
    obtain ⟨hg137, hx⟩ := xg_some hx
    have hi136 : i109.toNat < l110.length := by omega
    refine wv rfl (r_ixC Try.underlying57 sz98 rfl rfl (hM.seeO (.head _)) hg137) ?_
    refine w_exu (x_stE (f := fDMark) (k := 3) (L := l110) (i := i109.toNat) (j := 0) r131 [cI r131.id, cI r131.from_, cI r131.to] sz98 (fun _ => rfl) rfl rfl hi136 rfl rfl rfl rfl rfl (fun _ => zP (pV _ rfl) (zP (pV _ rfl) (zP (pV _ rfl) zN))) hM ?_); intro w138 hM
    refine wl_nil ?_
    refine bk_n ?_
    refine sq_n ?_
    refine wc_region ?_
    refine wv rfl (r_move rfl) ?_
    obtain ⟨hg142, hx⟩ := xg_some hx
    refine wv rfl (r_add rfl rfl hg142) ?_
    refine wv rfl (r_assign rfl) ?_
    refine wl_nil ?_
    obtain rfl := Option.some.inj hx
    exact lp_end (m115, i109 + 1, l110.set i109.toNat r131) (Nat.lt_succ_self _) ⟨rfl, rfl, rfl, trivial⟩ ⟨hM, hx117⟩
  · replace hx := xif_f hc122 hx
    refine wc_exit ?_
    refine sq_exit ?_
    refine lp1_exit ?_
    obtain rfl := Option.some.inj hx
    obtain rfl := Option.some.inj hx117
    replace hx := hx108
    try dsimp only [Sum.elim_inl, Sum.elim_inr] at hx
    refine bk_here ?_
    refine sq_n ?_
    refine wc_seq ?_
    refine wc_region ?_
    refine wv rfl (r_move rfl) ?_
    refine wv rfl (r_assign rfl) ?_
    refine wl_nil ?_
    refine sq_n ?_
    refine wc_ret ?_
    obtain rfl := Option.some.inj hx
    refine fin_ret [s100.v] ⟨rfl, trivial⟩ ?_
    replace hM : St ⟨w, X, S⟩ [oC (cSl 3 fDMark l110) s100.v] [rV s_a.v (cSl 3 fDMark a)] _ := hM.tk 1
    have hM := hM.fewer rsN
    exact ⟨s100, rfl, hM.gives⟩

noncomputable def x_laws_eqMark (a : DMark) (b : DMark) : Option Bool :=
  bif !decide (a.id = b.id) then (some false) else (bif !decide (a.from_ = b.from_) then (some false) else (bif !decide (a.to = b.to) then (some false) else (some true)))
theorem ct_laws_eqMark (w : World) (X S : Bs) (a : DMark) (b : DMark) (hS : ∀ b, S b → b < w.heap.size ∧ ¬ X b)  (oL : Sep [] X w) {r : Bool} (hx : x_laws_eqMark a b = some r) :
    Ret Try.prog 95 [(.agg #[(.int .i64 a.id), (.int .i64 a.from_), (.int .i64 a.to)]), (.agg #[(.int .i64 b.id), (.int .i64 b.from_), (.int .i64 b.to)])] w (fun u w' => ∃ _ : Unit, u = (.bool r) ∧ Gives X S w [] [] w') := by
  unfold x_laws_eqMark at hx
  refine enter Try.func95 rfl Try.ntmps95 (by kernel_rfl) rfl ?_
  have hM := St.enter oL hS
  refine wc_seq ?_
  refine wc_region ?_
  refine w_ex rfl (x_box rfl hM ?_); intro b30 w29 hR31 hM
  replace hM : St ⟨w, X, S⟩ [oBox b30 #[(.int .i64 a.id), (.int .i64 a.from_), (.int .i64 a.to)] 98] [] _ := hM
  refine w_ex rfl (x_box rfl hM ?_); intro b34 w33 hR35 hM
  replace hM : St ⟨w, X, S⟩ [oBox b34 #[(.int .i64 b.id), (.int .i64 b.from_), (.int .i64 b.to)] 98, oBox b30 #[(.int .i64 a.id), (.int .i64 a.from_), (.int .i64 a.to)] 98] [] _ := hM
  refine wv rfl (r_assign rfl) ?_
  refine wl_nil ?_
  refine sq_n ?_
  refine wc_seq ?_
  refine wc_seq ?_
  refine wc_region ?_
  refine wv rfl (r_fld Try.underlying98 rfl rfl sz3 rfl) ?_
  refine wv rfl (r_ldB Try.underlying3 rfl rfl hM (.tail _ (.head _)) rfl) ?_
  refine wv rfl (r_fld Try.underlying98 rfl rfl sz3 rfl) ?_
  refine wv rfl (r_ldB Try.underlying3 rfl rfl hM (.head _) rfl) ?_
  refine wv rfl (r_neq rfl rfl) ?_
  refine wl_nil ?_
  refine sq_n ?_
  refine wc_cond rfl (fun hc43 => ?_) (fun hc43 => ?_)
  · replace hx := xif_t hc43 hx
    refine wc_seq ?_
    refine wc_region ?_
    refine wv rfl (r_assign rfl) ?_
    refine wl_nil ?_
    refine sq_n ?_
    refine wc_ret ?_
    refine sq_ret ?_
    obtain rfl := Option.some.inj hx
    refine fin_ret [(.bool false)] ⟨rfl, trivial⟩ ?_
    replace hM : St ⟨w, X, S⟩ [] [] _ := hM.tk 0
    have hM := hM.fewer rsN
    exact ⟨(), rfl, hM.gives⟩
  · replace hx := xif_f hc43 hx
    refine wc_skip ?_
    refine sq_n ?_
    refine wc_seq ?_
    refine wc_seq ?_
    refine wc_region ?_
    refine wv rfl (r_fld Try.underlying98 rfl rfl sz3 rfl) ?_
    refine wv rfl (r_ldB Try.underlying3 rfl rfl hM (.tail _ (.head _)) rfl) ?_
    refine wv rfl (r_fld Try.underlying98 rfl rfl sz3 rfl) ?_
    refine wv rfl (r_ldB Try.underlying3 rfl rfl hM (.head _) rfl) ?_
    refine wv rfl (r_neq rfl rfl) ?_
    refine wl_nil ?_
    refine sq_n ?_
    refine wc_cond rfl (fun hc50 => ?_) (fun hc50 => ?_)
    · replace hx := xif_t hc50 hx
      refine wc_seq ?_
      refine wc_region ?_
      refine wv rfl (r_assign rfl) ?_
      refine wl_nil ?_
      refine sq_n ?_
      refine wc_ret ?_
      refine sq_ret ?_
      obtain rfl := Option.some.inj hx
      refine fin_ret [(.bool false)] ⟨rfl, trivial⟩ ?_
      replace hM : St ⟨w, X, S⟩ [] [] _ := hM.tk 0
      have hM := hM.fewer rsN
      exact ⟨(), rfl, hM.gives⟩
    · replace hx := xif_f hc50 hx
      refine wc_skip ?_
      refine sq_n ?_
      refine wc_seq ?_
      refine wc_seq ?_
      refine wc_region ?_
      refine wv rfl (r_fld Try.underlying98 rfl rfl sz3 rfl) ?_
      refine wv rfl (r_ldB Try.underlying3 rfl rfl hM (.tail _ (.head _)) rfl) ?_
      refine wv rfl (r_fld Try.underlying98 rfl rfl sz3 rfl) ?_
      refine wv rfl (r_ldB Try.underlying3 rfl rfl hM (.head _) rfl) ?_
      refine wv rfl (r_neq rfl rfl) ?_
      refine wl_nil ?_
      refine sq_n ?_
      refine wc_cond rfl (fun hc57 => ?_) (fun hc57 => ?_)
      · replace hx := xif_t hc57 hx
        refine wc_seq ?_
        refine wc_region ?_
        refine wv rfl (r_assign rfl) ?_
        refine wl_nil ?_
        refine sq_n ?_
        refine wc_ret ?_
        refine sq_ret ?_
        obtain rfl := Option.some.inj hx
        refine fin_ret [(.bool false)] ⟨rfl, trivial⟩ ?_
        replace hM : St ⟨w, X, S⟩ [] [] _ := hM.tk 0
        have hM := hM.fewer rsN
        exact ⟨(), rfl, hM.gives⟩
      · replace hx := xif_f hc57 hx
        refine wc_skip ?_
        refine sq_n ?_
        refine wc_seq ?_
        refine wc_region ?_
        refine wv rfl (r_assign rfl) ?_
        refine wl_nil ?_
        refine sq_n ?_
        refine wc_ret ?_
        obtain rfl := Option.some.inj hx
        refine fin_ret [(.bool true)] ⟨rfl, trivial⟩ ?_
        replace hM : St ⟨w, X, S⟩ [] [] _ := hM.tk 0
        have hM := hM.fewer rsN
        exact ⟨(), rfl, hM.gives⟩

noncomputable def x_laws_eqMarkS_b0 (a : List DMark) (b : List DMark) (i9 : Int) : Option (Lr Int (Sum Unit Unit)) :=
  bif decide (i9 < (a.length : Int)) then (xg (0 ≤ i9 ∧ i9 < (a.length : Int)) <| xg (0 ≤ i9 ∧ i9 < (b.length : Int)) <| Option.bind (x_laws_eqMark (el a i9.toNat) (el b i9.toNat)) fun r53 => bif !r53 then (some (Lr.out (Sum.inr (())))) else (xg (inI (i9 + 1)) <| some (Lr.go (i9 + 1)))) else (some (Lr.out (Sum.inl ())))
noncomputable def x_laws_eqMarkS_f0 (a : List DMark) (b : List DMark) (s64 : Int) : Option (Lr Int (Sum Unit Unit)) := x_laws_eqMarkS_b0 a b s64
noncomputable def x_laws_eqMarkS (a : List DMark) (b : List DMark) : Option Bool :=
  bif !decide ((a.length : Int) = (b.length : Int)) then (some false) else (Option.bind (iter (x_laws_eqMarkS_f0 a b) 0) fun (y65 : Sum Unit Unit) => Sum.elim (fun _y66 => some true) (fun _y67 => some false) y65)
theorem ct_laws_eqMarkS (w : World) (X S : Bs) (a : List DMark) (s_a : Sv) (b : List DMark) (s_b : Sv) (hS : ∀ b, S b → b < w.heap.size ∧ ¬ X b) (a_a_0 : (cSl 3 fDMark a).rd S w s_a.v) (a_b_0 : (cSl 3 fDMark b).rd S w s_b.v) (oL : Sep [] X w) {r : Bool} (hx : x_laws_eqMarkS a b = some r) :
    Ret Try.prog 45 [s_a.v, s_b.v] w (fun u w' => ∃ _ : Unit, u = (.bool r) ∧ Gives X S w [] [] w') := by
  unfold x_laws_eqMarkS at hx
  refine enter Try.func45 rfl Try.ntmps45 (by kernel_rfl) rfl ?_
  have hM := St.enter oL hS
  have hM := hM.addE (r := rV s_a.v (cSl 3 fDMark a)) a_a_0
  have hM := hM.addE (r := rV s_b.v (cSl 3 fDMark b)) a_b_0
  refine wc_seq ?_
  refine wc_region ?_
  refine wv rfl (r_assign rfl) ?_
  refine wl_nil ?_
  refine sq_n ?_
  refine wc_seq ?_
  refine wc_seq ?_
  refine wc_region ?_
  refine wv rfl (r_move rfl) ?_
  refine wv rfl (r_lenC Try.underlying57 rfl (hM.seeR (.tail _ (.head _)))) ?_
  refine wv rfl (r_move rfl) ?_
  refine wv rfl (r_lenC Try.underlying57 rfl (hM.seeR (.head _))) ?_
  refine wv rfl (r_neq rfl rfl) ?_
  refine wl_nil ?_
  refine sq_n ?_
  refine wc_cond rfl (fun hc75 => ?_) (fun hc75 => ?_)
  · replace hx := xif_t hc75 hx
    refine wc_seq ?_
    refine wc_region ?_
    refine wv rfl (r_assign rfl) ?_
    refine wl_nil ?_
    refine sq_n ?_
    refine wc_ret ?_
    refine sq_ret ?_
    obtain rfl := Option.some.inj hx
    refine fin_ret [(.bool false)] ⟨rfl, trivial⟩ ?_
    replace hM : St ⟨w, X, S⟩ [] [rV s_b.v (cSl 3 fDMark b), rV s_a.v (cSl 3 fDMark a)] _ := hM.tk 0
    have hM := hM.fewer rsN
    exact ⟨(), rfl, hM.gives⟩
  · replace hx := xif_f hc75 hx
    refine wc_skip ?_
    refine sq_n ?_
    refine wc_seq ?_
    refine wc_seq ?_
    refine wc_region ?_
    refine wv rfl (r_assign rfl) ?_
    refine wl_nil ?_
    refine sq_n ?_
    refine wc_block ?_
    obtain ⟨y78, hx, hx79⟩ := bind_some' hx
    have hM := hM.fewer (rsC (.tail _ (.head _)) (rsC (.head _) rsN))
    replace hM : St ⟨w, X, S⟩ [] [rV s_a.v (cSl 3 fDMark a), rV s_b.v (cSl 3 fDMark b)] _ := hM
    obtain ⟨m83, hx⟩ := iter_run hx
    refine wc_loop (un fun (m81 : Nat) => fun (i80 : Int) => [(0, s_a.v), (1, s_b.v), (5, (.int .i64 i80))]) (un fun (m81 : Nat) => fun (i80 : Int) w' => St ⟨w, X, S⟩ [] [rV s_a.v (cSl 3 fDMark a), rV s_b.v (cSl 3 fDMark b)] w' ∧ iterN _ m81 i80 = some y78) (fun p => p.1) (m83, 0) ⟨rfl, rfl, rfl, trivial⟩ ⟨hM, hx⟩ ?_
    rintro ⟨m81, i80⟩ w84 ⟨hM, hx⟩
    obtain ⟨m85, z86, rfl, hx, hx87⟩ := iterN_step hx
    unfold x_laws_eqMarkS_f0 x_laws_eqMarkS_b0 at hx
    try dsimp only at hx
    refine wc_seq ?_
    refine wc_seq ?_
    refine wc_region ?_
    refine wv rfl (r_move rfl) ?_
    refine wv rfl (r_move rfl) ?_
    refine wv rfl (r_lenC Try.underlying57 rfl (hM.seeR (.head _))) ?_
    refine wv rfl (r_lss rfl rfl) ?_
    refine wl_nil ?_
    refine sq_n ?_
    refine wc_cond rfl (fun hc92 => ?_) (fun hc92 => ?_)
    · replace hx := xif_t hc92 hx
      refine wc_skip ?_
      refine sq_n ?_
      refine wc_seq ?_
      refine wc_block ?_
      refine wc_seq ?_
      refine wc_draw [(0, 0), (1, 0), (2, 0), (3, 0), (4, 0), (5, 0), (6, 0), (7, 0), (8, 0), (9, 0)] Try_mixed (by kernel_rfl) rfl (by kernel_rfl) rfl ?_
      refine ov rfl (fun w' h' => r_move rfl) ?_
      refine ov rfl (fun w' h' => r_move rfl) ?_
      obtain ⟨hg97, hx⟩ := xg_some hx
      have hi96 : i80.toNat < a.length := by omega
      refine ov rfl (fun w' h' => r_ixC Try.underlying57 sz98 rfl rfl ((hM.call h').seeR (.head _)) hg97) ?_
      refine ov rfl (fun w' h' => r_ldC (o := i80.toNat * 3) Try.underlying98 sz98 rfl (us := [(.int .i64 ((el a i80.toNat).id)), (.int .i64 ((el a i80.toNat).from_)), (.int .i64 ((el a i80.toNat).to))]) rfl ((hM.call h').seeR (.head _)) hi96 ⟨(Cs.get (i := i80.toNat) (j := 0) ((hM.call h').seeR (.head _)) (fun _ => rfl) hi96 rfl), (Cs.get (i := i80.toNat) (j := 1) ((hM.call h').seeR (.head _)) (fun _ => rfl) hi96 rfl), (Cs.get (i := i80.toNat) (j := 2) ((hM.call h').seeR (.head _)) (fun _ => rfl) hi96 rfl), trivial⟩) ?_
      refine ov rfl (fun w' h' => r_move rfl) ?_
      refine ov rfl (fun w' h' => r_move rfl) ?_
      obtain ⟨hg103, hx⟩ := xg_some hx
      have hi102 : i80.toNat < b.length := by omega
      refine ov rfl (fun w' h' => r_ixC Try.underlying57 sz98 rfl rfl ((hM.call h').seeR (.tail _ (.head _))) hg103) ?_
      refine ov rfl (fun w' h' => r_ldC (o := i80.toNat * 3) Try.underlying98 sz98 rfl (us := [(.int .i64 ((el b i80.toNat).id)), (.int .i64 ((el b i80.toNat).from_)), (.int .i64 ((el b i80.toNat).to))]) rfl ((hM.call h').seeR (.tail _ (.head _))) hi102 ⟨(Cs.get (i := i80.toNat) (j := 0) ((hM.call h').seeR (.tail _ (.head _))) (fun _ => rfl) hi102 rfl), (Cs.get (i := i80.toNat) (j := 1) ((hM.call h').seeR (.tail _ (.head _))) (fun _ => rfl) hi102 rfl), (Cs.get (i := i80.toNat) (j := 2) ((hM.call h').seeR (.tail _ (.head _))) (fun _ => rfl) hi102 rfl), trivial⟩) ?_
      obtain ⟨r105, h106, hx⟩ := bind_some' hx
      refine oc rfl rfl (fun w' h' => (hM.call h').callV fun X S oL hS hR hO => ct_laws_eqMark _ X S (el a i80.toNat) (el b i80.toNat) hS  oL h106) ?_
      refine ov rfl (fun w' h' => r_not rfl) ?_
      refine o_nil fun w109 hw110 => ?_
      have hM := hM.call hw110
      refine sq_n ?_
      refine wc_cond rfl (fun hc111 => ?_) (fun hc111 => ?_)
      · replace hx := xif_t hc111 hx
        refine wc_seq ?_
        refine wc_region ?_
        refine wv rfl (r_assign rfl) ?_
        refine wl_nil ?_
        refine sq_n ?_
        refine wc_ret ?_
        refine bk_ret ?_
        refine sq_ret ?_
        refine lp1_ret ?_
        obtain rfl := Option.some.inj hx
        obtain rfl := Option.some.inj hx87
        replace hx := hx79
        try dsimp only [Sum.elim_inl, Sum.elim_inr] at hx
        refine bk_ret ?_
        refine sq_ret ?_
        obtain rfl := Option.some.inj hx
        refine fin_ret [(.bool false)] ⟨rfl, trivial⟩ ?_
        replace hM : St ⟨w, X, S⟩ [] [rV s_a.v (cSl 3 fDMark a), rV s_b.v (cSl 3 fDMark b)] _ := hM.tk 0
        have hM := hM.fewer rsN
        exact ⟨(), rfl, hM.gives⟩
      · replace hx := xif_f hc111 hx
        refine wc_skip ?_
        refine bk_n ?_
        refine sq_n ?_
        refine wc_region ?_
        refine wv rfl (r_move rfl) ?_
        obtain ⟨hg115, hx⟩ := xg_some hx
        refine wv rfl (r_add rfl rfl hg115) ?_
        refine wv rfl (r_assign rfl) ?_
        refine wl_nil ?_
        obtain rfl := Option.some.inj hx
        exact lp_end (m85, i80 + 1) (Nat.lt_succ_self _) ⟨rfl, rfl, rfl, trivial⟩ ⟨hM, hx87⟩
    · replace hx := xif_f hc92 hx
      refine wc_exit ?_
      refine sq_exit ?_
      refine lp1_exit ?_
      obtain rfl := Option.some.inj hx
      obtain rfl := Option.some.inj hx87
      replace hx := hx79
      try dsimp only [Sum.elim_inl, Sum.elim_inr] at hx
      refine bk_here ?_
      refine sq_n ?_
      refine wc_seq ?_
      refine wc_region ?_
      refine wv rfl (r_assign rfl) ?_
      refine wl_nil ?_
      refine sq_n ?_
      refine wc_ret ?_
      obtain rfl := Option.some.inj hx
      refine fin_ret [(.bool true)] ⟨rfl, trivial⟩ ?_
      replace hM : St ⟨w, X, S⟩ [] [rV s_a.v (cSl 3 fDMark a), rV s_b.v (cSl 3 fDMark b)] _ := hM.tk 0
      have hM := hM.fewer rsN
      exact ⟨(), rfl, hM.gives⟩

noncomputable def x_laws_markMarkS_b0 (k53 : Int) (i54 : Int) (l55 : List DMark) : Option (Lr (Int × Int × List DMark) (Int × List DMark)) :=
  bif decide (i54 < (l55.length : Int)) then (xg (0 ≤ i54 ∧ i54 < (l55.length : Int)) <| xg (inI (k53 + 1)) <| xg (0 ≤ i54 ∧ i54 < ((l55.set i54.toNat (⟨k53, (el l55 i54.toNat).from_, (el l55 i54.toNat).to⟩ : DMark)).length : Int)) <| xg (inI ((k53 + 1) + 1)) <| xg (0 ≤ i54 ∧ i54 < (((l55.set i54.toNat (⟨k53, (el l55 i54.toNat).from_, (el l55 i54.toNat).to⟩ : DMark)).set i54.toNat (⟨(el (l55.set i54.toNat (⟨k53, (el l55 i54.toNat).from_, (el l55 i54.toNat).to⟩ : DMark)) i54.toNat).id, k53 + 1, (el (l55.set i54.toNat (⟨k53, (el l55 i54.toNat).from_, (el l55 i54.toNat).to⟩ : DMark)) i54.toNat).to⟩ : DMark)).length : Int)) <| xg (inI (((k53 + 1) + 1) + 1)) <| xg (inI (i54 + 1)) <| some (Lr.go (((k53 + 1) + 1) + 1, i54 + 1, ((l55.set i54.toNat (⟨k53, (el l55 i54.toNat).from_, (el l55 i54.toNat).to⟩ : DMark)).set i54.toNat (⟨(el (l55.set i54.toNat (⟨k53, (el l55 i54.toNat).from_, (el l55 i54.toNat).to⟩ : DMark)) i54.toNat).id, k53 + 1, (el (l55.set i54.toNat (⟨k53, (el l55 i54.toNat).from_, (el l55 i54.toNat).to⟩ : DMark)) i54.toNat).to⟩ : DMark)).set i54.toNat (⟨(el ((l55.set i54.toNat (⟨k53, (el l55 i54.toNat).from_, (el l55 i54.toNat).to⟩ : DMark)).set i54.toNat (⟨(el (l55.set i54.toNat (⟨k53, (el l55 i54.toNat).from_, (el l55 i54.toNat).to⟩ : DMark)) i54.toNat).id, k53 + 1, (el (l55.set i54.toNat (⟨k53, (el l55 i54.toNat).from_, (el l55 i54.toNat).to⟩ : DMark)) i54.toNat).to⟩ : DMark)) i54.toNat).id, (el ((l55.set i54.toNat (⟨k53, (el l55 i54.toNat).from_, (el l55 i54.toNat).to⟩ : DMark)).set i54.toNat (⟨(el (l55.set i54.toNat (⟨k53, (el l55 i54.toNat).from_, (el l55 i54.toNat).to⟩ : DMark)) i54.toNat).id, k53 + 1, (el (l55.set i54.toNat (⟨k53, (el l55 i54.toNat).from_, (el l55 i54.toNat).to⟩ : DMark)) i54.toNat).to⟩ : DMark)) i54.toNat).from_, (k53 + 1) + 1⟩ : DMark)))) else (some (Lr.out (k53, l55)))
noncomputable def x_laws_markMarkS_f0 (s151 : Int × Int × List DMark) : Option (Lr (Int × Int × List DMark) (Int × List DMark)) := x_laws_markMarkS_b0 s151.1 s151.2.1 s151.2.2
noncomputable def x_laws_markMarkS (a : List DMark) (k : Int) : Option (Int × List DMark) :=
  Option.bind (iter (x_laws_markMarkS_f0) (k, 0, a)) fun (y152 : Int × List DMark) => some (y152.1, y152.2)
theorem ct_laws_markMarkS (w : World) (X S : Bs) (a : List DMark) (s_a : Sv) (k : Int) (hS : ∀ b, S b → b < w.heap.size ∧ ¬ X b)  (oL : Sep [oC (cSl 3 fDMark a) s_a.v] X w) {r : Int × List DMark} (hx : x_laws_markMarkS a k = some r) :
    Ret Try.prog 46 [s_a.v, (.int .i64 k)] w (fun u w' => ∃ _ : Unit, u = (.int .i64 r.1) ∧ Gives X S w [oC (cSl 3 fDMark r.2) s_a.v] [] w') := by
  unfold x_laws_markMarkS at hx
  refine enter Try.func46 rfl Try.ntmps46 (by kernel_rfl) rfl ?_
  have hM := St.enter oL hS
  refine wc_seq ?_
  refine wc_region ?_
  refine wv rfl (r_assign rfl) ?_
  refine wl_nil ?_
  refine sq_n ?_
  refine wc_seq ?_
  refine wc_seq ?_
  refine wc_region ?_
  refine wv rfl (r_assign rfl) ?_
  refine wl_nil ?_
  refine sq_n ?_
  refine wc_block ?_
  obtain ⟨y158, hx, hx159⟩ := bind_some' hx
  obtain ⟨m165, hx⟩ := iter_run hx
  refine wc_loop (un fun (m163 : Nat) => un fun (k160 : Int) => un fun (i161 : Int) => fun (l162 : List DMark) => [(0, s_a.v), (1, (.int .i64 k160)), (5, (.int .i64 i161))]) (un fun (m163 : Nat) => un fun (k160 : Int) => un fun (i161 : Int) => fun (l162 : List DMark) w' => St ⟨w, X, S⟩ [oC (cSl 3 fDMark l162) s_a.v] [] w' ∧ iterN _ m163 (k160, i161, l162) = some y158) (fun p => p.1) (m165, k, 0, a) ⟨rfl, rfl, rfl, trivial⟩ ⟨hM, hx⟩ ?_
  rintro ⟨m163, k160, i161, l162⟩ w166 ⟨hM, hx⟩
  obtain ⟨m167, z168, rfl, hx, hx169⟩ := iterN_step hx
  unfold x_laws_markMarkS_f0 x_laws_markMarkS_b0 at hx
  try dsimp only at hx
  refine wc_seq ?_
  refine wc_seq ?_
  refine wc_region ?_
  refine wv rfl (r_move rfl) ?_
  refine wv rfl (r_move rfl) ?_
  refine wv rfl (r_lenC Try.underlying57 rfl (hM.seeO (.head _))) ?_
  refine wv rfl (r_lss rfl rfl) ?_
  refine wl_nil ?_
  refine sq_n ?_
  refine wc_cond rfl (fun hc174 => ?_) (fun hc174 => ?_)
  · replace hx := xif_t hc174 hx
    refine wc_skip ?_
    refine sq_n ?_
    refine wc_seq ?_
    refine wc_block ?_
    refine wc_seq ?_
    refine wc_region ?_
    refine wv rfl (r_move rfl) ?_
    refine wv rfl (r_move rfl) ?_
    refine wv rfl (r_move rfl) ?_
    obtain ⟨hg180, hx⟩ := xg_some hx
    have hi179 : i161.toNat < l162.length := by omega
    refine wv rfl (r_ixC Try.underlying57 sz98 rfl rfl (hM.seeO (.head _)) hg180) ?_
    refine wv rfl (r_fldC (i := i161.toNat) Try.underlying98 rfl rfl sz3 rfl (hM.seeO (.head _)) hi179) ?_
    refine w_exu (x_stE (f := fDMark) (k := 3) (L := l162) (i := i161.toNat) (j := 0) (⟨k160, (el l162 i161.toNat).from_, (el l162 i161.toNat).to⟩ : DMark) [cI k160] sz3 (fun _ => rfl) rfl rfl hi179 rfl rfl rfl rfl rfl (fun _ => zP (pV _ rfl) zN) hM ?_); intro w182 hM
    refine wl_nil ?_
    refine sq_n ?_
    refine wc_seq ?_
    refine wc_region ?_
    refine wv rfl (r_move rfl) ?_
    obtain ⟨hg186, hx⟩ := xg_some hx
    refine wv rfl (r_add rfl rfl hg186) ?_
    refine wv rfl (r_assign rfl) ?_
    refine wl_nil ?_
    refine sq_n ?_
    refine wc_seq ?_
    refine wc_region ?_
    refine wv rfl (r_move rfl) ?_
    refine wv rfl (r_move rfl) ?_
    refine wv rfl (r_move rfl) ?_
    obtain ⟨hg193, hx⟩ := xg_some hx
    have hi192 : i161.toNat < (l162.set i161.toNat (⟨k160, (el l162 i161.toNat).from_, (el l162 i161.toNat).to⟩ : DMark)).length := by omega
    refine wv rfl (r_ixC Try.underlying57 sz98 rfl rfl (hM.seeO (.head _)) hg193) ?_
    refine wv rfl (r_fldC (i := i161.toNat) Try.underlying98 rfl rfl sz3 rfl (hM.seeO (.head _)) hi192) ?_
    refine w_exu (x_stE (f := fDMark) (k := 3) (L := (l162.set i161.toNat (⟨k160, (el l162 i161.toNat).from_, (el l162 i161.toNat).to⟩ : DMark))) (i := i161.toNat) (j := 1) (⟨(el (l162.set i161.toNat (⟨k160, (el l162 i161.toNat).from_, (el l162 i161.toNat).to⟩ : DMark)) i161.toNat).id, k160 + 1, (el (l162.set i161.toNat (⟨k160, (el l162 i161.toNat).from_, (el l162 i161.toNat).to⟩ : DMark)) i161.toNat).to⟩ : DMark) [cI (k160 + 1)] sz3 (fun _ => rfl) rfl rfl hi192 rfl rfl rfl rfl rfl (fun _ => zP (pV _ rfl) zN) hM ?_); intro w195 hM
    refine wl_nil ?_
    refine sq_n ?_
    refine wc_seq ?_
    refine wc_region ?_
    refine wv rfl (r_move rfl) ?_
    obtain ⟨hg199, hx⟩ := xg_some hx
    refine wv rfl (r_add rfl rfl hg199) ?_
    refine wv rfl (r_assign rfl) ?_
    refine wl_nil ?_
    refine sq_n ?_
    refine wc_seq ?_
    refine wc_region ?_
    refine wv rfl (r_move rfl) ?_
    refine wv rfl (r_move rfl) ?_
    refine wv rfl (r_move rfl) ?_
    obtain ⟨hg206, hx⟩ := xg_some hx
    have hi205 : i161.toNat < ((l162.set i161.toNat (⟨k160, (el l162 i161.toNat).from_, (el l162 i161.toNat).to⟩ : DMark)).set i161.toNat (⟨(el (l162.set i161.toNat (⟨k160, (el l162 i161.toNat).from_, (el l162 i161.toNat).to⟩ : DMark)) i161.toNat).id, k160 + 1, (el (l162.set i161.toNat (⟨k160, (el l162 i161.toNat).from_, (el l162 i161.toNat).to⟩ : DMark)) i161.toNat).to⟩ : DMark)).length := by omega
    refine wv rfl (r_ixC Try.underlying57 sz98 rfl rfl (hM.seeO (.head _)) hg206) ?_
    refine wv rfl (r_fldC (i := i161.toNat) Try.underlying98 rfl rfl sz3 rfl (hM.seeO (.head _)) hi205) ?_
    refine w_exu (x_stE (f := fDMark) (k := 3) (L := ((l162.set i161.toNat (⟨k160, (el l162 i161.toNat).from_, (el l162 i161.toNat).to⟩ : DMark)).set i161.toNat (⟨(el (l162.set i161.toNat (⟨k160, (el l162 i161.toNat).from_, (el l162 i161.toNat).to⟩ : DMark)) i161.toNat).id, k160 + 1, (el (l162.set i161.toNat (⟨k160, (el l162 i161.toNat).from_, (el l162 i161.toNat).to⟩ : DMark)) i161.toNat).to⟩ : DMark))) (i := i161.toNat) (j := 2) (⟨(el ((l162.set i161.toNat (⟨k160, (el l162 i161.toNat).from_, (el l162 i161.toNat).to⟩ : DMark)).set i161.toNat (⟨(el (l162.set i161.toNat (⟨k160, (el l162 i161.toNat).from_, (el l162 i161.toNat).to⟩ : DMark)) i161.toNat).id, k160 + 1, (el (l162.set i161.toNat (⟨k160, (el l162 i161.toNat).from_, (el l162 i161.toNat).to⟩ : DMark)) i161.toNat).to⟩ : DMark)) i161.toNat).id, (el ((l162.set i161.toNat (⟨k160, (el l162 i161.toNat).from_, (el l162 i161.toNat).to⟩ : DMark)).set i161.toNat (⟨(el (l162.set i161.toNat (⟨k160, (el l162 i161.toNat).from_, (el l162 i161.toNat).to⟩ : DMark)) i161.toNat).id, k160 + 1, (el (l162.set i161.toNat (⟨k160, (el l162 i161.toNat).from_, (el l162 i161.toNat).to⟩ : DMark)) i161.toNat).to⟩ : DMark)) i161.toNat).from_, (k160 + 1) + 1⟩ : DMark) [cI ((k160 + 1) + 1)] sz3 (fun _ => rfl) rfl rfl hi205 rfl rfl rfl rfl rfl (fun _ => zP (pV _ rfl) zN) hM ?_); intro w208 hM
    refine wl_nil ?_
    refine sq_n ?_
    refine wc_region ?_
    refine wv rfl (r_move rfl) ?_
    obtain ⟨hg212, hx⟩ := xg_some hx
    refine wv rfl (r_add rfl rfl hg212) ?_
    refine wv rfl (r_assign rfl) ?_
    refine wl_nil ?_
    refine bk_n ?_
    refine sq_n ?_
    refine wc_region ?_
    refine wv rfl (r_move rfl) ?_
    obtain ⟨hg216, hx⟩ := xg_some hx
    refine wv rfl (r_add rfl rfl hg216) ?_
    refine wv rfl (r_assign rfl) ?_
    refine wl_nil ?_
    obtain rfl := Option.some.inj hx
    exact lp_end (m167, ((k160 + 1) + 1) + 1, i161 + 1, ((l162.set i161.toNat (⟨k160, (el l162 i161.toNat).from_, (el l162 i161.toNat).to⟩ : DMark)).set i161.toNat (⟨(el (l162.set i161.toNat (⟨k160, (el l162 i161.toNat).from_, (el l162 i161.toNat).to⟩ : DMark)) i161.toNat).id, k160 + 1, (el (l162.set i161.toNat (⟨k160, (el l162 i161.toNat).from_, (el l162 i161.toNat).to⟩ : DMark)) i161.toNat).to⟩ : DMark)).set i161.toNat (⟨(el ((l162.set i161.toNat (⟨k160, (el l162 i161.toNat).from_, (el l162 i161.toNat).to⟩ : DMark)).set i161.toNat (⟨(el (l162.set i161.toNat (⟨k160, (el l162 i161.toNat).from_, (el l162 i161.toNat).to⟩ : DMark)) i161.toNat).id, k160 + 1, (el (l162.set i161.toNat (⟨k160, (el l162 i161.toNat).from_, (el l162 i161.toNat).to⟩ : DMark)) i161.toNat).to⟩ : DMark)) i161.toNat).id, (el ((l162.set i161.toNat (⟨k160, (el l162 i161.toNat).from_, (el l162 i161.toNat).to⟩ : DMark)).set i161.toNat (⟨(el (l162.set i161.toNat (⟨k160, (el l162 i161.toNat).from_, (el l162 i161.toNat).to⟩ : DMark)) i161.toNat).id, k160 + 1, (el (l162.set i161.toNat (⟨k160, (el l162 i161.toNat).from_, (el l162 i161.toNat).to⟩ : DMark)) i161.toNat).to⟩ : DMark)) i161.toNat).from_, (k160 + 1) + 1⟩ : DMark)) (Nat.lt_succ_self _) ⟨rfl, rfl, rfl, trivial⟩ ⟨hM, hx169⟩
  · replace hx := xif_f hc174 hx
    refine wc_exit ?_
    refine sq_exit ?_
    refine lp1_exit ?_
    obtain rfl := Option.some.inj hx
    obtain rfl := Option.some.inj hx169
    replace hx := hx159
    try dsimp only [Sum.elim_inl, Sum.elim_inr] at hx
    refine bk_here ?_
    refine sq_n ?_
    refine wc_seq ?_
    refine wc_region ?_
    refine wv rfl (r_move rfl) ?_
    refine wv rfl (r_assign rfl) ?_
    refine wl_nil ?_
    refine sq_n ?_
    refine wc_ret ?_
    obtain rfl := Option.some.inj hx
    refine fin_ret [(.int .i64 k160)] ⟨rfl, trivial⟩ ?_
    replace hM : St ⟨w, X, S⟩ [oC (cSl 3 fDMark l162) s_a.v] [] _ := hM.tk 1
    have hM := hM.fewer rsN
    exact ⟨(), rfl, hM.gives⟩

noncomputable def x_laws_heldMarkS_b0 (a : List DMark) (k3 : Int) (i4 : Int) : Option (Lr (Int × Int) (Sum Int Int)) :=
  bif decide (i4 < (a.length : Int)) then (xg (0 ≤ i4 ∧ i4 < (a.length : Int)) <| bif !decide (((el a i4.toNat).id) = k3) then (some (Lr.out (Sum.inr (-1)))) else (xg (inI (k3 + 1)) <| xg (0 ≤ i4 ∧ i4 < (a.length : Int)) <| bif !decide (((el a i4.toNat).from_) = (k3 + 1)) then (some (Lr.out (Sum.inr (-1)))) else (xg (inI ((k3 + 1) + 1)) <| xg (0 ≤ i4 ∧ i4 < (a.length : Int)) <| bif !decide (((el a i4.toNat).to) = ((k3 + 1) + 1)) then (some (Lr.out (Sum.inr (-1)))) else (xg (inI (((k3 + 1) + 1) + 1)) <| xg (inI (i4 + 1)) <| some (Lr.go (((k3 + 1) + 1) + 1, i4 + 1)))))) else (some (Lr.out (Sum.inl k3)))
noncomputable def x_laws_heldMarkS_f0 (a : List DMark) (s105 : Int × Int) : Option (Lr (Int × Int) (Sum Int Int)) := x_laws_heldMarkS_b0 a s105.1 s105.2
noncomputable def x_laws_heldMarkS (a : List DMark) (k : Int) : Option Int :=
  Option.bind (iter (x_laws_heldMarkS_f0 a) (k, 0)) fun (y106 : Sum Int Int) => Sum.elim (fun y107 => some y107) (fun y108 => some y108) y106
theorem ct_laws_heldMarkS (w : World) (X S : Bs) (a : List DMark) (s_a : Sv) (k : Int) (hS : ∀ b, S b → b < w.heap.size ∧ ¬ X b) (a_a_0 : (cSl 3 fDMark a).rd S w s_a.v) (oL : Sep [] X w) {r : Int} (hx : x_laws_heldMarkS a k = some r) :
    Ret Try.prog 47 [s_a.v, (.int .i64 k)] w (fun u w' => ∃ _ : Unit, u = (.int .i64 r) ∧ Gives X S w [] [] w') := by
  unfold x_laws_heldMarkS at hx
  refine enter Try.func47 rfl Try.ntmps47 (by kernel_rfl) rfl ?_
  have hM := St.enter oL hS
  have hM := hM.addE (r := rV s_a.v (cSl 3 fDMark a)) a_a_0
  refine wc_seq ?_
  refine wc_region ?_
  refine wv rfl (r_assign rfl) ?_
  refine wl_nil ?_
  refine sq_n ?_
  refine wc_seq ?_
  refine wc_seq ?_
  refine wc_region ?_
  refine wv rfl (r_assign rfl) ?_
  refine wl_nil ?_
  refine sq_n ?_
  refine wc_block ?_
  obtain ⟨y113, hx, hx114⟩ := bind_some' hx
  obtain ⟨m119, hx⟩ := iter_run hx
  refine wc_loop (un fun (m117 : Nat) => un fun (k115 : Int) => fun (i116 : Int) => [(0, s_a.v), (1, (.int .i64 k115)), (5, (.int .i64 i116))]) (un fun (m117 : Nat) => un fun (k115 : Int) => fun (i116 : Int) w' => St ⟨w, X, S⟩ [] [rV s_a.v (cSl 3 fDMark a)] w' ∧ iterN _ m117 (k115, i116) = some y113) (fun p => p.1) (m119, k, 0) ⟨rfl, rfl, rfl, trivial⟩ ⟨hM, hx⟩ ?_
  rintro ⟨m117, k115, i116⟩ w120 ⟨hM, hx⟩
  obtain ⟨m121, z122, rfl, hx, hx123⟩ := iterN_step hx
  unfold x_laws_heldMarkS_f0 x_laws_heldMarkS_b0 at hx
  try dsimp only at hx
  refine wc_seq ?_
  refine wc_seq ?_
  refine wc_region ?_
  refine wv rfl (r_move rfl) ?_
  refine wv rfl (r_move rfl) ?_
  refine wv rfl (r_lenC Try.underlying57 rfl (hM.seeR (.head _))) ?_
  refine wv rfl (r_lss rfl rfl) ?_
  refine wl_nil ?_
  refine sq_n ?_
  refine wc_cond rfl (fun hc128 => ?_) (fun hc128 => ?_)
  · replace hx := xif_t hc128 hx
    refine wc_skip ?_
    refine sq_n ?_
    refine wc_seq ?_
    refine wc_block ?_
    refine wc_seq ?_
    refine wc_seq ?_
    refine wc_region ?_
    refine wv rfl (r_move rfl) ?_
    refine wv rfl (r_move rfl) ?_
    obtain ⟨hg133, hx⟩ := xg_some hx
    have hi132 : i116.toNat < a.length := by omega
    refine wv rfl (r_ixC Try.underlying57 sz98 rfl rfl (hM.seeR (.head _)) hg133) ?_
    refine wv rfl (r_fldC (i := i116.toNat) Try.underlying98 rfl rfl sz3 rfl (hM.seeR (.head _)) hi132) ?_
    refine wv rfl (r_ld Try.underlying3 rfl rfl (Cs.get (i := i116.toNat) (j := 0) (hM.seeR (.head _)) (fun _ => rfl) hi132 rfl)) ?_
    refine wv rfl (r_move rfl) ?_
    refine wv rfl (r_neq rfl rfl) ?_
    refine wl_nil ?_
    refine sq_n ?_
    refine wc_cond rfl (fun hc138 => ?_) (fun hc138 => ?_)
    · replace hx := xif_t hc138 hx
      refine wc_seq ?_
      refine wc_region ?_
      refine wv rfl (r_assign rfl) ?_
      refine wl_nil ?_
      refine sq_n ?_
      refine wc_ret ?_
      refine sq_ret ?_
      refine bk_ret ?_
      refine sq_ret ?_
      refine lp1_ret ?_
      obtain rfl := Option.some.inj hx
      obtain rfl := Option.some.inj hx123
      replace hx := hx114
      try dsimp only [Sum.elim_inl, Sum.elim_inr] at hx
      refine bk_ret ?_
      refine sq_ret ?_
      obtain rfl := Option.some.inj hx
      refine fin_ret [(.int .i64 (-1))] ⟨rfl, trivial⟩ ?_
      replace hM : St ⟨w, X, S⟩ [] [rV s_a.v (cSl 3 fDMark a)] _ := hM.tk 0
      have hM := hM.fewer rsN
      exact ⟨(), rfl, hM.gives⟩
    · replace hx := xif_f hc138 hx
      refine wc_skip ?_
      refine sq_n ?_
      refine wc_seq ?_
      refine wc_region ?_
      refine wv rfl (r_move rfl) ?_
      obtain ⟨hg142, hx⟩ := xg_some hx
      refine wv rfl (r_add rfl rfl hg142) ?_
      refine wv rfl (r_assign rfl) ?_
      refine wl_nil ?_
      refine sq_n ?_
      refine wc_seq ?_
      refine wc_seq ?_
      refine wc_region ?_
      refine wv rfl (r_move rfl) ?_
      refine wv rfl (r_move rfl) ?_
      obtain ⟨hg148, hx⟩ := xg_some hx
      have hi147 : i116.toNat < a.length := by omega
      refine wv rfl (r_ixC Try.underlying57 sz98 rfl rfl (hM.seeR (.head _)) hg148) ?_
      refine wv rfl (r_fldC (i := i116.toNat) Try.underlying98 rfl rfl sz3 rfl (hM.seeR (.head _)) hi147) ?_
      refine wv rfl (r_ld Try.underlying3 rfl rfl (Cs.get (i := i116.toNat) (j := 1) (hM.seeR (.head _)) (fun _ => rfl) hi147 rfl)) ?_
      refine wv rfl (r_move rfl) ?_
      refine wv rfl (r_neq rfl rfl) ?_
      refine wl_nil ?_
      refine sq_n ?_
      refine wc_cond rfl (fun hc153 => ?_) (fun hc153 => ?_)
      · replace hx := xif_t hc153 hx
        refine wc_seq ?_
        refine wc_region ?_
        refine wv rfl (r_assign rfl) ?_
        refine wl_nil ?_
        refine sq_n ?_
        refine wc_ret ?_
        refine sq_ret ?_
        refine bk_ret ?_
        refine sq_ret ?_
        refine lp1_ret ?_
        obtain rfl := Option.some.inj hx
        obtain rfl := Option.some.inj hx123
        replace hx := hx114
        try dsimp only [Sum.elim_inl, Sum.elim_inr] at hx
        refine bk_ret ?_
        refine sq_ret ?_
        obtain rfl := Option.some.inj hx
        refine fin_ret [(.int .i64 (-1))] ⟨rfl, trivial⟩ ?_
        replace hM : St ⟨w, X, S⟩ [] [rV s_a.v (cSl 3 fDMark a)] _ := hM.tk 0
        have hM := hM.fewer rsN
        exact ⟨(), rfl, hM.gives⟩
      · replace hx := xif_f hc153 hx
        refine wc_skip ?_
        refine sq_n ?_
        refine wc_seq ?_
        refine wc_region ?_
        refine wv rfl (r_move rfl) ?_
        obtain ⟨hg157, hx⟩ := xg_some hx
        refine wv rfl (r_add rfl rfl hg157) ?_
        refine wv rfl (r_assign rfl) ?_
        refine wl_nil ?_
        refine sq_n ?_
        refine wc_seq ?_
        refine wc_seq ?_
        refine wc_region ?_
        refine wv rfl (r_move rfl) ?_
        refine wv rfl (r_move rfl) ?_
        obtain ⟨hg163, hx⟩ := xg_some hx
        have hi162 : i116.toNat < a.length := by omega
        refine wv rfl (r_ixC Try.underlying57 sz98 rfl rfl (hM.seeR (.head _)) hg163) ?_
        refine wv rfl (r_fldC (i := i116.toNat) Try.underlying98 rfl rfl sz3 rfl (hM.seeR (.head _)) hi162) ?_
        refine wv rfl (r_ld Try.underlying3 rfl rfl (Cs.get (i := i116.toNat) (j := 2) (hM.seeR (.head _)) (fun _ => rfl) hi162 rfl)) ?_
        refine wv rfl (r_move rfl) ?_
        refine wv rfl (r_neq rfl rfl) ?_
        refine wl_nil ?_
        refine sq_n ?_
        refine wc_cond rfl (fun hc168 => ?_) (fun hc168 => ?_)
        · replace hx := xif_t hc168 hx
          refine wc_seq ?_
          refine wc_region ?_
          refine wv rfl (r_assign rfl) ?_
          refine wl_nil ?_
          refine sq_n ?_
          refine wc_ret ?_
          refine sq_ret ?_
          refine bk_ret ?_
          refine sq_ret ?_
          refine lp1_ret ?_
          obtain rfl := Option.some.inj hx
          obtain rfl := Option.some.inj hx123
          replace hx := hx114
          try dsimp only [Sum.elim_inl, Sum.elim_inr] at hx
          refine bk_ret ?_
          refine sq_ret ?_
          obtain rfl := Option.some.inj hx
          refine fin_ret [(.int .i64 (-1))] ⟨rfl, trivial⟩ ?_
          replace hM : St ⟨w, X, S⟩ [] [rV s_a.v (cSl 3 fDMark a)] _ := hM.tk 0
          have hM := hM.fewer rsN
          exact ⟨(), rfl, hM.gives⟩
        · replace hx := xif_f hc168 hx
          refine wc_skip ?_
          refine sq_n ?_
          refine wc_region ?_
          refine wv rfl (r_move rfl) ?_
          obtain ⟨hg172, hx⟩ := xg_some hx
          refine wv rfl (r_add rfl rfl hg172) ?_
          refine wv rfl (r_assign rfl) ?_
          refine wl_nil ?_
          refine bk_n ?_
          refine sq_n ?_
          refine wc_region ?_
          refine wv rfl (r_move rfl) ?_
          obtain ⟨hg176, hx⟩ := xg_some hx
          refine wv rfl (r_add rfl rfl hg176) ?_
          refine wv rfl (r_assign rfl) ?_
          refine wl_nil ?_
          obtain rfl := Option.some.inj hx
          exact lp_end (m121, ((k115 + 1) + 1) + 1, i116 + 1) (Nat.lt_succ_self _) ⟨rfl, rfl, rfl, trivial⟩ ⟨hM, hx123⟩
  · replace hx := xif_f hc128 hx
    refine wc_exit ?_
    refine sq_exit ?_
    refine lp1_exit ?_
    obtain rfl := Option.some.inj hx
    obtain rfl := Option.some.inj hx123
    replace hx := hx114
    try dsimp only [Sum.elim_inl, Sum.elim_inr] at hx
    refine bk_here ?_
    refine sq_n ?_
    refine wc_seq ?_
    refine wc_region ?_
    refine wv rfl (r_move rfl) ?_
    refine wv rfl (r_assign rfl) ?_
    refine wl_nil ?_
    refine sq_n ?_
    refine wc_ret ?_
    obtain rfl := Option.some.inj hx
    refine fin_ret [(.int .i64 k115)] ⟨rfl, trivial⟩ ?_
    replace hM : St ⟨w, X, S⟩ [] [rV s_a.v (cSl 3 fDMark a)] _ := hM.tk 0
    have hM := hM.fewer rsN
    exact ⟨(), rfl, hM.gives⟩

noncomputable def x_laws_FnExactMarksMove (aL : List DMark) (aO : List DPart) : Option Bool :=
  Option.bind (x_laws_szMarkS aL 1048576) fun r5 => bif decide (r5 < 0) then (some true) else (Option.bind (x_laws_szPartS aO r5) fun r15 => bif decide (r15 < 0) then (some true) else (Option.bind (x_laws_toMarkS aL) fun r24 => Option.bind (x_laws_toPartS aO) fun r30 => Option.bind (x_spec_MarksMove r24 r30) fun r35 => Option.bind (x_laws_toMarkS aL) fun r46 => Option.bind (x_laws_toPartS aO) fun r53 => Option.bind (x_impl_MarksMove r46 r53) fun r61 => Option.bind (x_laws_eqMarkS r61.1 r35.1) fun r73 => Option.bind (bif !r73 then (some true) else (some (!(r61.2 == r35.2)))) fun c79 => bif c79 then (some false) else (Option.bind (x_laws_toMarkS aL) fun r90 => Option.bind (x_laws_eqMarkS r46 r90) fun r95 => bif !r95 then (some false) else (Option.bind (x_laws_toPartS aO) fun r103 => Option.bind (x_laws_eqPartS r53 r103) fun r108 => bif !r108 then (some false) else (Option.bind (x_laws_markMarkS r46 1) fun r117 => Option.bind (x_laws_markPartS r53 r117.1) fun r123 => Option.bind (bif decide (r123.1 < 0) then (some true) else (Option.bind (x_laws_eqMarkS r61.1 r35.1) fun r141 => some (!r141))) fun c130 => Option.bind (bif c130 then (some true) else (some (!(r61.2 == r35.2)))) fun c147 => bif c147 then (some false) else (Option.bind (x_laws_markMarkS r61.1 1) fun r159 => Option.bind (x_laws_heldMarkS r159.2 1) fun r166 => bif decide (r166 < 0) then (some false) else (bif !decide (r166 = r159.1) then (some false) else (Option.bind (x_laws_toMarkS aL) fun r179 => Option.bind (x_laws_toPartS aO) fun r185 => Option.bind (x_impl_MarksMove r179 r185) fun r190 => Option.bind (x_laws_eqMarkS r190.1 r35.1) fun r202 => Option.bind (bif !r202 then (some true) else (some (!(r190.2 == r35.2)))) fun c208 => bif c208 then (some false) else (Option.bind (x_laws_heldMarkS r159.2 1) fun r220 => bif decide (r220 < 0) then (some false) else (bif !decide (r220 = r159.1) then (some false) else (some true)))))))))))
theorem ct_laws_FnExactMarksMove (w : World) (X S : Bs) (aL : List DMark) (s_aL : Sv) (aO : List DPart) (s_aO : Sv) (hS : ∀ b, S b → b < w.heap.size ∧ ¬ X b) (a_aL_0 : (cSl 3 fDMark aL).rd S w s_aL.v) (a_aO_0 : (cSl 3 fDPart aO).rd S w s_aO.v) (oL : Sep [] X w) {r : Bool} (hx : x_laws_FnExactMarksMove aL aO = some r) :
    Ret Try.prog 10 [s_aL.v, s_aO.v] w (fun u w' => ∃ _ : Unit, u = (.bool r) ∧ Gives X S w [] [] w') := by
  unfold x_laws_FnExactMarksMove at hx
  refine enter Try.func10 rfl Try.ntmps10 (by kernel_rfl) rfl ?_
  have hM := St.enter oL hS
  have hM := hM.addE (r := rV s_aL.v (cSl 3 fDMark aL)) a_aL_0
  have hM := hM.addE (r := rV s_aO.v (cSl 3 fDPart aO)) a_aO_0
  refine wc_seq ?_
  refine wc_region ?_
  refine wv rfl (r_assign rfl) ?_
  refine wl_nil ?_
  refine sq_n ?_
  refine wc_seq ?_
  refine wc_region ?_
  refine wv rfl (r_assign rfl) ?_
  refine wl_nil ?_
  refine sq_n ?_
  refine wc_seq ?_
  refine wc_region ?_
  refine wv rfl (r_move rfl) ?_
  refine wv rfl (r_move rfl) ?_
  obtain ⟨r237, h238, hx⟩ := bind_some' hx
  refine w_call rfl rfl (hM.callV fun X S oL hS hR hO => ct_laws_szMarkS _ X S aL s_aL (1048576 : Int) hS (hR _ (.tail _ (.head _))) oL h238) ?_
  rintro _ w239 ⟨rfl, hR240⟩
  have hM := hM.call hR240
  refine wv rfl (r_assign rfl) ?_
  refine wl_nil ?_
  refine sq_n ?_
  refine wc_seq ?_
  refine wc_seq ?_
  refine wc_region ?_
  refine wv rfl (r_move rfl) ?_
  refine wv rfl (r_lss rfl rfl) ?_
  refine wl_nil ?_
  refine sq_n ?_
  refine wc_cond rfl (fun hc244 => ?_) (fun hc244 => ?_)
  · replace hx := xif_t hc244 hx
    refine wc_seq ?_
    refine wc_region ?_
    refine wv rfl (r_assign rfl) ?_
    refine wl_nil ?_
    refine sq_n ?_
    refine wc_ret ?_
    refine sq_ret ?_
    obtain rfl := Option.some.inj hx
    refine fin_ret [(.bool true)] ⟨rfl, trivial⟩ ?_
    replace hM : St ⟨w, X, S⟩ [] [rV s_aO.v (cSl 3 fDPart aO), rV s_aL.v (cSl 3 fDMark aL)] _ := hM.tk 0
    have hM := hM.fewer rsN
    exact ⟨(), rfl, hM.gives⟩
  · replace hx := xif_f hc244 hx
    refine wc_skip ?_
    refine sq_n ?_
    refine wc_seq ?_
    refine wc_region ?_
    refine wv rfl (r_move rfl) ?_
    refine wv rfl (r_move rfl) ?_
    obtain ⟨r248, h249, hx⟩ := bind_some' hx
    refine w_call rfl rfl (hM.callV fun X S oL hS hR hO => ct_laws_szPartS _ X S aO s_aO r237 hS (hR _ (.head _)) oL h249) ?_
    rintro _ w250 ⟨rfl, hR251⟩
    have hM := hM.call hR251
    refine wv rfl (r_assign rfl) ?_
    refine wl_nil ?_
    refine sq_n ?_
    refine wc_seq ?_
    refine wc_seq ?_
    refine wc_region ?_
    refine wv rfl (r_move rfl) ?_
    refine wv rfl (r_lss rfl rfl) ?_
    refine wl_nil ?_
    refine sq_n ?_
    refine wc_cond rfl (fun hc255 => ?_) (fun hc255 => ?_)
    · replace hx := xif_t hc255 hx
      refine wc_seq ?_
      refine wc_region ?_
      refine wv rfl (r_assign rfl) ?_
      refine wl_nil ?_
      refine sq_n ?_
      refine wc_ret ?_
      refine sq_ret ?_
      obtain rfl := Option.some.inj hx
      refine fin_ret [(.bool true)] ⟨rfl, trivial⟩ ?_
      replace hM : St ⟨w, X, S⟩ [] [rV s_aO.v (cSl 3 fDPart aO), rV s_aL.v (cSl 3 fDMark aL)] _ := hM.tk 0
      have hM := hM.fewer rsN
      exact ⟨(), rfl, hM.gives⟩
    · replace hx := xif_f hc255 hx
      refine wc_skip ?_
      refine sq_n ?_
      refine wc_seq ?_
      refine wc_region ?_
      refine wv rfl (r_move rfl) ?_
      obtain ⟨r258, h259, hx⟩ := bind_some' hx
      refine w_call rfl rfl (hM.callO (l := []) fun X S oL hS hR hO => ct_laws_toMarkS _ X S aL s_aL hS (hR _ (.tail _ (.head _))) oL h259) ?_
      rintro _ w260 ⟨s261, rfl, hM⟩
      replace hM : St ⟨w, X, S⟩ [oC (cSl 3 fDMark r258) s261.v] [rV s_aO.v (cSl 3 fDPart aO), rV s_aL.v (cSl 3 fDMark aL)] _ := hM
      refine wv rfl (r_move rfl) ?_
      obtain ⟨r264, h265, hx⟩ := bind_some' hx
      refine w_call rfl rfl (hM.callO (l := []) fun X S oL hS hR hO => ct_laws_toPartS _ X S aO s_aO hS (hR _ (.head _)) oL h265) ?_
      rintro _ w266 ⟨s267, rfl, hM⟩
      replace hM : St ⟨w, X, S⟩ [oC (cSl 3 fDPart r264) s267.v, oC (cSl 3 fDMark r258) s261.v] [rV s_aO.v (cSl 3 fDPart aO), rV s_aL.v (cSl 3 fDMark aL)] _ := hM
      obtain ⟨r269, h270, hx⟩ := bind_some' hx
      refine w_call rfl rfl (hM.callO (l := []) fun X S oL hS hR hO => ct_spec_MarksMove _ X S r258 s261 r264 s267 hS (seeA hO (.tail _ (.head _))) (seeA hO (.head _)) oL h270) ?_
      rintro _ w271 ⟨s272, rfl, hM⟩
      replace hM : St ⟨w, X, S⟩ [oC (cSl 3 fDMark r269.1) s272.v, oC (cSl 3 fDPart r264) s267.v, oC (cSl 3 fDMark r258) s261.v] [rV s_aO.v (cSl 3 fDPart aO), rV s_aL.v (cSl 3 fDMark aL)] _ := hM
      refine wv rfl (r_move rfl) ?_
      refine wv rfl (r_extract rfl rfl) ?_
      refine wv rfl (r_extract rfl rfl) ?_
      refine wv rfl (r_assign rfl) ?_
      refine wv rfl (r_assign rfl) ?_
      refine wl_nil ?_
      refine sq_n ?_
      refine wc_seq ?_
      refine wc_region ?_
      refine wv rfl (r_move rfl) ?_
      obtain ⟨r280, h281, hx⟩ := bind_some' hx
      refine w_call rfl rfl (hM.callO (l := []) fun X S oL hS hR hO => ct_laws_toMarkS _ X S aL s_aL hS (hR _ (.tail _ (.head _))) oL h281) ?_
      rintro _ w282 ⟨s283, rfl, hM⟩
      replace hM : St ⟨w, X, S⟩ [oC (cSl 3 fDMark r280) s283.v, oC (cSl 3 fDMark r269.1) s272.v, oC (cSl 3 fDPart r264) s267.v, oC (cSl 3 fDMark r258) s261.v] [rV s_aO.v (cSl 3 fDPart aO), rV s_aL.v (cSl 3 fDMark aL)] _ := hM
      refine wv rfl (r_assign rfl) ?_
      refine wl_nil ?_
      refine sq_n ?_
      refine wc_seq ?_
      refine wc_region ?_
      refine wv rfl (r_move rfl) ?_
      obtain ⟨r287, h288, hx⟩ := bind_some' hx
      refine w_call rfl rfl (hM.callO (l := []) fun X S oL hS hR hO => ct_laws_toPartS _ X S aO s_aO hS (hR _ (.head _)) oL h288) ?_
      rintro _ w289 ⟨s290, rfl, hM⟩
      replace hM : St ⟨w, X, S⟩ [oC (cSl 3 fDPart r287) s290.v, oC (cSl 3 fDMark r280) s283.v, oC (cSl 3 fDMark r269.1) s272.v, oC (cSl 3 fDPart r264) s267.v, oC (cSl 3 fDMark r258) s261.v] [rV s_aO.v (cSl 3 fDPart aO), rV s_aL.v (cSl 3 fDMark aL)] _ := hM
      refine wv rfl (r_assign rfl) ?_
      refine wl_nil ?_
      refine sq_n ?_
      refine wc_seq ?_
      refine wc_region ?_
      refine wv rfl (r_move rfl) ?_
      refine wv rfl (r_move rfl) ?_
      obtain ⟨r295, h296, hx⟩ := bind_some' hx
      refine w_call rfl rfl (hM.callO (l := []) fun X S oL hS hR hO => ct_impl_MarksMove _ X S r280 s283 r287 s290 hS (seeA hO (.tail _ (.head _))) (seeA hO (.head _)) oL h296) ?_
      rintro _ w297 ⟨s298, rfl, hM⟩
      replace hM : St ⟨w, X, S⟩ [oC (cSl 3 fDMark r295.1) s298.v, oC (cSl 3 fDPart r287) s290.v, oC (cSl 3 fDMark r280) s283.v, oC (cSl 3 fDMark r269.1) s272.v, oC (cSl 3 fDPart r264) s267.v, oC (cSl 3 fDMark r258) s261.v] [rV s_aO.v (cSl 3 fDPart aO), rV s_aL.v (cSl 3 fDMark aL)] _ := hM
      refine wv rfl (r_move rfl) ?_
      refine wv rfl (r_extract rfl rfl) ?_
      refine wv rfl (r_extract rfl rfl) ?_
      refine wv rfl (r_assign rfl) ?_
      refine wv rfl (r_assign rfl) ?_
      refine wl_nil ?_
      refine sq_n ?_
      refine wc_seq ?_
      refine wc_seq ?_
      refine wc_region ?_
      refine wv rfl (r_move rfl) ?_
      refine wv rfl (r_move rfl) ?_
      obtain ⟨r307, h308, hx⟩ := bind_some' hx
      refine w_call rfl rfl (hM.callV fun X S oL hS hR hO => ct_laws_eqMarkS _ X S r295.1 s298 r269.1 s272 hS (seeA hO (.head _)) (seeA hO (.tail _ (.tail _ (.tail _ (.head _))))) oL h308) ?_
      rintro _ w309 ⟨rfl, hR310⟩
      have hM := hM.call hR310
      refine wv rfl (r_not rfl) ?_
      refine wv rfl (r_move rfl) ?_
      obtain ⟨c313, hx, hx318⟩ := bind_some' hx
      refine wl_mid 4 (fun _ : Unit => [(53, (.bool c313)), (0, s_aL.v), (1, s_aO.v), (6, s272.v), (7, (.bool r269.2)), (8, s283.v), (9, s290.v), (10, s298.v), (11, (.bool r295.2))]) (fun _ w' => St ⟨w, X, S⟩ [oC (cSl 3 fDMark r295.1) s298.v, oC (cSl 3 fDPart r287) s290.v, oC (cSl 3 fDMark r280) s283.v, oC (cSl 3 fDMark r269.1) s272.v, oC (cSl 3 fDPart r264) s267.v, oC (cSl 3 fDMark r258) s261.v] [rV s_aO.v (cSl 3 fDPart aO), rV s_aL.v (cSl 3 fDMark aL)] w') ?_ ?_
      · rcases Bool.eq_false_or_eq_true (!r307) with hg314 | hg314
        · replace hx := xif_t hg314 hx
          refine gs rfl (isB_no hg314) rfl ?_
          refine gs rfl (isB_no hg314) rfl ?_
          refine gs rfl (isB_no hg314) rfl ?_
          refine wv rfl (p_t rfl hg314 rfl) ?_
          obtain rfl := Option.some.inj hx
          exact mid_nil () ⟨rfl, rfl, rfl, rfl, rfl, rfl, rfl, rfl, rfl, trivial⟩ hM
        · replace hx := xif_f hg314 hx
          refine gv rfl hg314 rfl (r_move rfl) ?_
          refine gv rfl hg314 rfl (r_move rfl) ?_
          refine gv rfl hg314 rfl (r_neqb Try.underlying4 rfl rfl) ?_
          refine wv rfl (p_f rfl hg314 rfl) ?_
          obtain rfl := Option.some.inj hx
          exact mid_nil () ⟨rfl, rfl, rfl, rfl, rfl, rfl, rfl, rfl, rfl, trivial⟩ hM
      rintro _ w322 hM
      replace hx := hx318
      refine wl_nil ?_
      refine sq_n ?_
      refine wc_cond rfl (fun hc323 => ?_) (fun hc323 => ?_)
      · replace hx := xif_t hc323 hx
        refine wc_seq ?_
        refine wc_region ?_
        refine wv rfl (r_assign rfl) ?_
        refine wl_nil ?_
        refine sq_n ?_
        refine wc_ret ?_
        refine sq_ret ?_
        obtain rfl := Option.some.inj hx
        refine fin_ret [(.bool false)] ⟨rfl, trivial⟩ ?_
        replace hM : St ⟨w, X, S⟩ [] [rV s_aO.v (cSl 3 fDPart aO), rV s_aL.v (cSl 3 fDMark aL)] _ := hM.tk 0
        have hM := hM.fewer rsN
        exact ⟨(), rfl, hM.gives⟩
      · replace hx := xif_f hc323 hx
        refine wc_skip ?_
        refine sq_n ?_
        refine wc_seq ?_
        refine wc_seq ?_
        refine wc_region ?_
        refine wv rfl (r_move rfl) ?_
        refine wv rfl (r_move rfl) ?_
        obtain ⟨r327, h328, hx⟩ := bind_some' hx
        refine w_call rfl rfl (hM.callO (l := []) fun X S oL hS hR hO => ct_laws_toMarkS _ X S aL s_aL hS (hR _ (.tail _ (.head _))) oL h328) ?_
        rintro _ w329 ⟨s330, rfl, hM⟩
        replace hM : St ⟨w, X, S⟩ [oC (cSl 3 fDMark r327) s330.v, oC (cSl 3 fDMark r295.1) s298.v, oC (cSl 3 fDPart r287) s290.v, oC (cSl 3 fDMark r280) s283.v, oC (cSl 3 fDMark r269.1) s272.v, oC (cSl 3 fDPart r264) s267.v, oC (cSl 3 fDMark r258) s261.v] [rV s_aO.v (cSl 3 fDPart aO), rV s_aL.v (cSl 3 fDMark aL)] _ := hM
        obtain ⟨r332, h333, hx⟩ := bind_some' hx
        refine w_call rfl rfl (hM.callV fun X S oL hS hR hO => ct_laws_eqMarkS _ X S r280 s283 r327 s330 hS (seeA hO (.tail _ (.tail _ (.tail _ (.head _))))) (seeA hO (.head _)) oL h333) ?_
        rintro _ w334 ⟨rfl, hR335⟩
        have hM := hM.call hR335
        refine wv rfl (r_not rfl) ?_
        refine wl_nil ?_
        refine sq_n ?_
        refine wc_cond rfl (fun hc337 => ?_) (fun hc337 => ?_)
        · replace hx := xif_t hc337 hx
          refine wc_seq ?_
          refine wc_region ?_
          refine wv rfl (r_assign rfl) ?_
          refine wl_nil ?_
          refine sq_n ?_
          refine wc_ret ?_
          refine sq_ret ?_
          obtain rfl := Option.some.inj hx
          refine fin_ret [(.bool false)] ⟨rfl, trivial⟩ ?_
          replace hM : St ⟨w, X, S⟩ [] [rV s_aO.v (cSl 3 fDPart aO), rV s_aL.v (cSl 3 fDMark aL)] _ := hM.tk 0
          have hM := hM.fewer rsN
          exact ⟨(), rfl, hM.gives⟩
        · replace hx := xif_f hc337 hx
          refine wc_skip ?_
          refine sq_n ?_
          refine wc_seq ?_
          refine wc_seq ?_
          refine wc_region ?_
          refine wv rfl (r_move rfl) ?_
          refine wv rfl (r_move rfl) ?_
          obtain ⟨r341, h342, hx⟩ := bind_some' hx
          refine w_call rfl rfl (hM.callO (l := []) fun X S oL hS hR hO => ct_laws_toPartS _ X S aO s_aO hS (hR _ (.head _)) oL h342) ?_
          rintro _ w343 ⟨s344, rfl, hM⟩
          replace hM : St ⟨w, X, S⟩ [oC (cSl 3 fDPart r341) s344.v, oC (cSl 3 fDMark r327) s330.v, oC (cSl 3 fDMark r295.1) s298.v, oC (cSl 3 fDPart r287) s290.v, oC (cSl 3 fDMark r280) s283.v, oC (cSl 3 fDMark r269.1) s272.v, oC (cSl 3 fDPart r264) s267.v, oC (cSl 3 fDMark r258) s261.v] [rV s_aO.v (cSl 3 fDPart aO), rV s_aL.v (cSl 3 fDMark aL)] _ := hM
          obtain ⟨r346, h347, hx⟩ := bind_some' hx
          refine w_call rfl rfl (hM.callV fun X S oL hS hR hO => ct_laws_eqPartS _ X S r287 s290 r341 s344 hS (seeA hO (.tail _ (.tail _ (.tail _ (.head _))))) (seeA hO (.head _)) oL h347) ?_
          rintro _ w348 ⟨rfl, hR349⟩
          have hM := hM.call hR349
          refine wv rfl (r_not rfl) ?_
          refine wl_nil ?_
          refine sq_n ?_
          refine wc_cond rfl (fun hc351 => ?_) (fun hc351 => ?_)
          · replace hx := xif_t hc351 hx
            refine wc_seq ?_
            refine wc_region ?_
            refine wv rfl (r_assign rfl) ?_
            refine wl_nil ?_
            refine sq_n ?_
            refine wc_ret ?_
            refine sq_ret ?_
            obtain rfl := Option.some.inj hx
            refine fin_ret [(.bool false)] ⟨rfl, trivial⟩ ?_
            replace hM : St ⟨w, X, S⟩ [] [rV s_aO.v (cSl 3 fDPart aO), rV s_aL.v (cSl 3 fDMark aL)] _ := hM.tk 0
            have hM := hM.fewer rsN
            exact ⟨(), rfl, hM.gives⟩
          · replace hx := xif_f hc351 hx
            refine wc_skip ?_
            refine sq_n ?_
            refine wc_seq ?_
            refine wc_region ?_
            refine wv rfl (r_assign rfl) ?_
            refine wl_nil ?_
            refine sq_n ?_
            refine wc_seq ?_
            refine wc_region ?_
            refine wv rfl (r_move rfl) ?_
            refine wv rfl (r_move rfl) ?_
            replace hM : St ⟨w, X, S⟩ [oC (cSl 3 fDMark r280) s283.v, oC (cSl 3 fDPart r341) s344.v, oC (cSl 3 fDMark r327) s330.v, oC (cSl 3 fDMark r295.1) s298.v, oC (cSl 3 fDPart r287) s290.v, oC (cSl 3 fDMark r269.1) s272.v, oC (cSl 3 fDPart r264) s267.v, oC (cSl 3 fDMark r258) s261.v] [rV s_aO.v (cSl 3 fDPart aO), rV s_aL.v (cSl 3 fDMark aL)] _ := hM.pl [4]
            obtain ⟨r356, h357, hx⟩ := bind_some' hx
            refine w_call rfl rfl (hM.callO (l := [oC (cSl 3 fDMark r280) s283.v]) fun X S oL hS hR hO => ct_laws_markMarkS _ X S r280 s283 (1 : Int) hS  oL h357) ?_
            rintro _ w358 ⟨_, rfl, hM⟩
            replace hM : St ⟨w, X, S⟩ [oC (cSl 3 fDMark r356.2) s283.v, oC (cSl 3 fDPart r341) s344.v, oC (cSl 3 fDMark r327) s330.v, oC (cSl 3 fDMark r295.1) s298.v, oC (cSl 3 fDPart r287) s290.v, oC (cSl 3 fDMark r269.1) s272.v, oC (cSl 3 fDPart r264) s267.v, oC (cSl 3 fDMark r258) s261.v] [rV s_aO.v (cSl 3 fDPart aO), rV s_aL.v (cSl 3 fDMark aL)] _ := hM
            refine wv rfl (r_assign rfl) ?_
            refine wl_nil ?_
            refine sq_n ?_
            refine wc_seq ?_
            refine wc_region ?_
            refine wv rfl (r_move rfl) ?_
            refine wv rfl (r_move rfl) ?_
            replace hM : St ⟨w, X, S⟩ [oC (cSl 3 fDPart r287) s290.v, oC (cSl 3 fDMark r356.2) s283.v, oC (cSl 3 fDPart r341) s344.v, oC (cSl 3 fDMark r327) s330.v, oC (cSl 3 fDMark r295.1) s298.v, oC (cSl 3 fDMark r269.1) s272.v, oC (cSl 3 fDPart r264) s267.v, oC (cSl 3 fDMark r258) s261.v] [rV s_aO.v (cSl 3 fDPart aO), rV s_aL.v (cSl 3 fDMark aL)] _ := hM.pl [4]
            obtain ⟨r362, h363, hx⟩ := bind_some' hx
            refine w_call rfl rfl (hM.callO (l := [oC (cSl 3 fDPart r287) s290.v]) fun X S oL hS hR hO => ct_laws_markPartS _ X S r287 s290 r356.1 hS  oL h363) ?_
            rintro _ w364 ⟨_, rfl, hM⟩
            replace hM : St ⟨w, X, S⟩ [oC (cSl 3 fDPart r362.2) s290.v, oC (cSl 3 fDMark r356.2) s283.v, oC (cSl 3 fDPart r341) s344.v, oC (cSl 3 fDMark r327) s330.v, oC (cSl 3 fDMark r295.1) s298.v, oC (cSl 3 fDMark r269.1) s272.v, oC (cSl 3 fDPart r264) s267.v, oC (cSl 3 fDMark r258) s261.v] [rV s_aO.v (cSl 3 fDPart aO), rV s_aL.v (cSl 3 fDMark aL)] _ := hM
            refine wv rfl (r_assign rfl) ?_
            refine wl_nil ?_
            refine sq_n ?_
            refine wc_seq ?_
            refine wc_seq ?_
            refine wc_region ?_
            refine wv rfl (r_move rfl) ?_
            refine wv rfl (r_lss rfl rfl) ?_
            refine wv rfl (r_move rfl) ?_
            obtain ⟨c369, hx, hx378⟩ := bind_some' hx
            refine wl_mid 5 (fun _ : Unit => [(77, (.bool c369)), (0, s_aL.v), (1, s_aO.v), (6, s272.v), (7, (.bool r269.2)), (10, s298.v), (11, (.bool r295.2))]) (fun _ w' => St ⟨w, X, S⟩ [oC (cSl 3 fDPart r362.2) s290.v, oC (cSl 3 fDMark r356.2) s283.v, oC (cSl 3 fDPart r341) s344.v, oC (cSl 3 fDMark r327) s330.v, oC (cSl 3 fDMark r295.1) s298.v, oC (cSl 3 fDMark r269.1) s272.v, oC (cSl 3 fDPart r264) s267.v, oC (cSl 3 fDMark r258) s261.v] [rV s_aO.v (cSl 3 fDPart aO), rV s_aL.v (cSl 3 fDMark aL)] w') ?_ ?_
            · rcases Bool.eq_false_or_eq_true (decide (r362.1 < 0)) with hg370 | hg370
              · replace hx := xif_t hg370 hx
                refine gs rfl (isB_no hg370) rfl ?_
                refine gs rfl (isB_no hg370) rfl ?_
                refine gs rfl (isB_no hg370) rfl ?_
                refine gs rfl (isB_no hg370) rfl ?_
                refine wv rfl (p_t rfl hg370 rfl) ?_
                obtain rfl := Option.some.inj hx
                exact mid_nil () ⟨rfl, rfl, rfl, rfl, rfl, rfl, rfl, trivial⟩ hM
              · replace hx := xif_f hg370 hx
                refine gv rfl hg370 rfl (r_move rfl) ?_
                refine gv rfl hg370 rfl (r_move rfl) ?_
                obtain ⟨r381, h382, hx⟩ := bind_some' hx
                refine gc rfl hg370 rfl rfl (hM.callV fun X S oL hS hR hO => ct_laws_eqMarkS _ X S r295.1 s298 r269.1 s272 hS (seeA hO (.tail _ (.tail _ (.tail _ (.tail _ (.head _)))))) (seeA hO (.tail _ (.tail _ (.tail _ (.tail _ (.tail _ (.head _))))))) oL h382) ?_
                rintro _ w383 ⟨rfl, hR384⟩
                have hM := hM.call hR384
                refine gv rfl hg370 rfl (r_not rfl) ?_
                refine wv rfl (p_f rfl hg370 rfl) ?_
                obtain rfl := Option.some.inj hx
                exact mid_nil () ⟨rfl, rfl, rfl, rfl, rfl, rfl, rfl, trivial⟩ hM
            rintro _ w386 hM
            replace hx := hx378
            refine wv rfl (r_move rfl) ?_
            obtain ⟨c388, hx, hx393⟩ := bind_some' hx
            refine wl_mid 4 (fun _ : Unit => [(82, (.bool c388)), (0, s_aL.v), (1, s_aO.v), (6, s272.v), (7, (.bool r269.2)), (10, s298.v)]) (fun _ w' => St ⟨w, X, S⟩ [oC (cSl 3 fDPart r362.2) s290.v, oC (cSl 3 fDMark r356.2) s283.v, oC (cSl 3 fDPart r341) s344.v, oC (cSl 3 fDMark r327) s330.v, oC (cSl 3 fDMark r295.1) s298.v, oC (cSl 3 fDMark r269.1) s272.v, oC (cSl 3 fDPart r264) s267.v, oC (cSl 3 fDMark r258) s261.v] [rV s_aO.v (cSl 3 fDPart aO), rV s_aL.v (cSl 3 fDMark aL)] w') ?_ ?_
            · rcases Bool.eq_false_or_eq_true c369 with hg389 | hg389
              · replace hx := xif_t hg389 hx
                refine gs rfl (isB_no hg389) rfl ?_
                refine gs rfl (isB_no hg389) rfl ?_
                refine gs rfl (isB_no hg389) rfl ?_
                refine wv rfl (p_t rfl hg389 rfl) ?_
                obtain rfl := Option.some.inj hx
                exact mid_nil () ⟨rfl, rfl, rfl, rfl, rfl, rfl, trivial⟩ hM
              · replace hx := xif_f hg389 hx
                refine gv rfl hg389 rfl (r_move rfl) ?_
                refine gv rfl hg389 rfl (r_move rfl) ?_
                refine gv rfl hg389 rfl (r_neqb Try.underlying4 rfl rfl) ?_
                refine wv rfl (p_f rfl hg389 rfl) ?_
                obtain rfl := Option.some.inj hx
                exact mid_nil () ⟨rfl, rfl, rfl, rfl, rfl, rfl, trivial⟩ hM
            rintro _ w397 hM
            replace hx := hx393
            refine wl_nil ?_
            refine sq_n ?_
            refine wc_cond rfl (fun hc398 => ?_) (fun hc398 => ?_)
            · replace hx := xif_t hc398 hx
              refine wc_seq ?_
              refine wc_region ?_
              refine wv rfl (r_assign rfl) ?_
              refine wl_nil ?_
              refine sq_n ?_
              refine wc_ret ?_
              refine sq_ret ?_
              obtain rfl := Option.some.inj hx
              refine fin_ret [(.bool false)] ⟨rfl, trivial⟩ ?_
              replace hM : St ⟨w, X, S⟩ [] [rV s_aO.v (cSl 3 fDPart aO), rV s_aL.v (cSl 3 fDMark aL)] _ := hM.tk 0
              have hM := hM.fewer rsN
              exact ⟨(), rfl, hM.gives⟩
            · replace hx := xif_f hc398 hx
              refine wc_skip ?_
              refine sq_n ?_
              refine wc_seq ?_
              refine wc_region ?_
              refine wv rfl (r_assign rfl) ?_
              refine wl_nil ?_
              refine sq_n ?_
              refine wc_seq ?_
              refine wc_region ?_
              refine wv rfl (r_move rfl) ?_
              refine wv rfl (r_move rfl) ?_
              replace hM : St ⟨w, X, S⟩ [oC (cSl 3 fDMark r295.1) s298.v, oC (cSl 3 fDPart r362.2) s290.v, oC (cSl 3 fDMark r356.2) s283.v, oC (cSl 3 fDPart r341) s344.v, oC (cSl 3 fDMark r327) s330.v, oC (cSl 3 fDMark r269.1) s272.v, oC (cSl 3 fDPart r264) s267.v, oC (cSl 3 fDMark r258) s261.v] [rV s_aO.v (cSl 3 fDPart aO), rV s_aL.v (cSl 3 fDMark aL)] _ := hM.pl [4]
              obtain ⟨r403, h404, hx⟩ := bind_some' hx
              refine w_call rfl rfl (hM.callO (l := [oC (cSl 3 fDMark r295.1) s298.v]) fun X S oL hS hR hO => ct_laws_markMarkS _ X S r295.1 s298 (1 : Int) hS  oL h404) ?_
              rintro _ w405 ⟨_, rfl, hM⟩
              replace hM : St ⟨w, X, S⟩ [oC (cSl 3 fDMark r403.2) s298.v, oC (cSl 3 fDPart r362.2) s290.v, oC (cSl 3 fDMark r356.2) s283.v, oC (cSl 3 fDPart r341) s344.v, oC (cSl 3 fDMark r327) s330.v, oC (cSl 3 fDMark r269.1) s272.v, oC (cSl 3 fDPart r264) s267.v, oC (cSl 3 fDMark r258) s261.v] [rV s_aO.v (cSl 3 fDPart aO), rV s_aL.v (cSl 3 fDMark aL)] _ := hM
              refine wv rfl (r_assign rfl) ?_
              refine wl_nil ?_
              refine sq_n ?_
              refine wc_seq ?_
              refine wc_region ?_
              refine wv rfl (r_assign rfl) ?_
              refine wl_nil ?_
              refine sq_n ?_
              refine wc_seq ?_
              refine wc_region ?_
              refine wv rfl (r_move rfl) ?_
              refine wv rfl (r_move rfl) ?_
              obtain ⟨r410, h411, hx⟩ := bind_some' hx
              refine w_call rfl rfl (hM.callV fun X S oL hS hR hO => ct_laws_heldMarkS _ X S r403.2 s298 (1 : Int) hS (seeA hO (.head _)) oL h411) ?_
              rintro _ w412 ⟨rfl, hR413⟩
              have hM := hM.call hR413
              refine wv rfl (r_assign rfl) ?_
              refine wl_nil ?_
              refine sq_n ?_
              refine wc_seq ?_
              refine wc_seq ?_
              refine wc_region ?_
              refine wv rfl (r_move rfl) ?_
              refine wv rfl (r_lss rfl rfl) ?_
              refine wl_nil ?_
              refine sq_n ?_
              refine wc_cond rfl (fun hc417 => ?_) (fun hc417 => ?_)
              · replace hx := xif_t hc417 hx
                refine wc_seq ?_
                refine wc_region ?_
                refine wv rfl (r_assign rfl) ?_
                refine wl_nil ?_
                refine sq_n ?_
                refine wc_ret ?_
                refine sq_ret ?_
                obtain rfl := Option.some.inj hx
                refine fin_ret [(.bool false)] ⟨rfl, trivial⟩ ?_
                replace hM : St ⟨w, X, S⟩ [] [rV s_aO.v (cSl 3 fDPart aO), rV s_aL.v (cSl 3 fDMark aL)] _ := hM.tk 0
                have hM := hM.fewer rsN
                exact ⟨(), rfl, hM.gives⟩
              · replace hx := xif_f hc417 hx
                refine wc_skip ?_
                refine sq_n ?_
                refine wc_seq ?_
                refine wc_seq ?_
                refine wc_region ?_
                refine wv rfl (r_move rfl) ?_
                refine wv rfl (r_move rfl) ?_
                refine wv rfl (r_neq rfl rfl) ?_
                refine wl_nil ?_
                refine sq_n ?_
                refine wc_cond rfl (fun hc422 => ?_) (fun hc422 => ?_)
                · replace hx := xif_t hc422 hx
                  refine wc_seq ?_
                  refine wc_region ?_
                  refine wv rfl (r_assign rfl) ?_
                  refine wl_nil ?_
                  refine sq_n ?_
                  refine wc_ret ?_
                  refine sq_ret ?_
                  obtain rfl := Option.some.inj hx
                  refine fin_ret [(.bool false)] ⟨rfl, trivial⟩ ?_
                  replace hM : St ⟨w, X, S⟩ [] [rV s_aO.v (cSl 3 fDPart aO), rV s_aL.v (cSl 3 fDMark aL)] _ := hM.tk 0
                  have hM := hM.fewer rsN
                  exact ⟨(), rfl, hM.gives⟩
                · replace hx := xif_f hc422 hx
                  refine wc_skip ?_
                  refine sq_n ?_
                  refine wc_seq ?_
                  refine wc_region ?_
                  refine wv rfl (r_move rfl) ?_
                  obtain ⟨r425, h426, hx⟩ := bind_some' hx
                  refine w_call rfl rfl (hM.callO (l := []) fun X S oL hS hR hO => ct_laws_toMarkS _ X S aL s_aL hS (hR _ (.tail _ (.head _))) oL h426) ?_
                  rintro _ w427 ⟨s428, rfl, hM⟩
                  replace hM : St ⟨w, X, S⟩ [oC (cSl 3 fDMark r425) s428.v, oC (cSl 3 fDMark r403.2) s298.v, oC (cSl 3 fDPart r362.2) s290.v, oC (cSl 3 fDMark r356.2) s283.v, oC (cSl 3 fDPart r341) s344.v, oC (cSl 3 fDMark r327) s330.v, oC (cSl 3 fDMark r269.1) s272.v, oC (cSl 3 fDPart r264) s267.v, oC (cSl 3 fDMark r258) s261.v] [rV s_aO.v (cSl 3 fDPart aO), rV s_aL.v (cSl 3 fDMark aL)] _ := hM
                  refine wv rfl (r_move rfl) ?_
                  obtain ⟨r431, h432, hx⟩ := bind_some' hx
                  refine w_call rfl rfl (hM.callO (l := []) fun X S oL hS hR hO => ct_laws_toPartS _ X S aO s_aO hS (hR _ (.head _)) oL h432) ?_
                  rintro _ w433 ⟨s434, rfl, hM⟩
                  replace hM : St ⟨w, X, S⟩ [oC (cSl 3 fDPart r431) s434.v, oC (cSl 3 fDMark r425) s428.v, oC (cSl 3 fDMark r403.2) s298.v, oC (cSl 3 fDPart r362.2) s290.v, oC (cSl 3 fDMark r356.2) s283.v, oC (cSl 3 fDPart r341) s344.v, oC (cSl 3 fDMark r327) s330.v, oC (cSl 3 fDMark r269.1) s272.v, oC (cSl 3 fDPart r264) s267.v, oC (cSl 3 fDMark r258) s261.v] [rV s_aO.v (cSl 3 fDPart aO), rV s_aL.v (cSl 3 fDMark aL)] _ := hM
                  obtain ⟨r436, h437, hx⟩ := bind_some' hx
                  refine w_call rfl rfl (hM.callO (l := []) fun X S oL hS hR hO => ct_impl_MarksMove _ X S r425 s428 r431 s434 hS (seeA hO (.tail _ (.head _))) (seeA hO (.head _)) oL h437) ?_
                  rintro _ w438 ⟨s439, rfl, hM⟩
                  replace hM : St ⟨w, X, S⟩ [oC (cSl 3 fDMark r436.1) s439.v, oC (cSl 3 fDPart r431) s434.v, oC (cSl 3 fDMark r425) s428.v, oC (cSl 3 fDMark r403.2) s298.v, oC (cSl 3 fDPart r362.2) s290.v, oC (cSl 3 fDMark r356.2) s283.v, oC (cSl 3 fDPart r341) s344.v, oC (cSl 3 fDMark r327) s330.v, oC (cSl 3 fDMark r269.1) s272.v, oC (cSl 3 fDPart r264) s267.v, oC (cSl 3 fDMark r258) s261.v] [rV s_aO.v (cSl 3 fDPart aO), rV s_aL.v (cSl 3 fDMark aL)] _ := hM
                  refine wv rfl (r_move rfl) ?_
                  refine wv rfl (r_extract rfl rfl) ?_
                  refine wv rfl (r_extract rfl rfl) ?_
                  refine wv rfl (r_assign rfl) ?_
                  refine wv rfl (r_assign rfl) ?_
                  refine wl_nil ?_
                  refine sq_n ?_
                  refine wc_seq ?_
                  refine wc_seq ?_
                  refine wc_region ?_
                  refine wv rfl (r_move rfl) ?_
                  refine wv rfl (r_move rfl) ?_
                  obtain ⟨r448, h449, hx⟩ := bind_some' hx
                  refine w_call rfl rfl (hM.callV fun X S oL hS hR hO => ct_laws_eqMarkS _ X S r436.1 s439 r269.1 s272 hS (seeA hO (.head _)) (seeA hO (.tail _ (.tail _ (.tail _ (.tail _ (.tail _ (.tail _ (.tail _ (.tail _ (.head _)))))))))) oL h449) ?_
                  rintro _ w450 ⟨rfl, hR451⟩
                  have hM := hM.call hR451
                  refine wv rfl (r_not rfl) ?_
                  refine wv rfl (r_move rfl) ?_
                  obtain ⟨c454, hx, hx459⟩ := bind_some' hx
                  refine wl_mid 4 (fun _ : Unit => [(110, (.bool c454)), (10, s298.v), (13, (.int .i64 r403.1))]) (fun _ w' => St ⟨w, X, S⟩ [oC (cSl 3 fDMark r436.1) s439.v, oC (cSl 3 fDPart r431) s434.v, oC (cSl 3 fDMark r425) s428.v, oC (cSl 3 fDMark r403.2) s298.v, oC (cSl 3 fDPart r362.2) s290.v, oC (cSl 3 fDMark r356.2) s283.v, oC (cSl 3 fDPart r341) s344.v, oC (cSl 3 fDMark r327) s330.v, oC (cSl 3 fDMark r269.1) s272.v, oC (cSl 3 fDPart r264) s267.v, oC (cSl 3 fDMark r258) s261.v] [rV s_aO.v (cSl 3 fDPart aO), rV s_aL.v (cSl 3 fDMark aL)] w') ?_ ?_
                  · rcases Bool.eq_false_or_eq_true (!r448) with hg455 | hg455
                    · replace hx := xif_t hg455 hx
                      refine gs rfl (isB_no hg455) rfl ?_
                      refine gs rfl (isB_no hg455) rfl ?_
                      refine gs rfl (isB_no hg455) rfl ?_
                      refine wv rfl (p_t rfl hg455 rfl) ?_
                      obtain rfl := Option.some.inj hx
                      exact mid_nil () ⟨rfl, rfl, rfl, trivial⟩ hM
                    · replace hx := xif_f hg455 hx
                      refine gv rfl hg455 rfl (r_move rfl) ?_
                      refine gv rfl hg455 rfl (r_move rfl) ?_
                      refine gv rfl hg455 rfl (r_neqb Try.underlying4 rfl rfl) ?_
                      refine wv rfl (p_f rfl hg455 rfl) ?_
                      obtain rfl := Option.some.inj hx
                      exact mid_nil () ⟨rfl, rfl, rfl, trivial⟩ hM
                  rintro _ w463 hM
                  replace hx := hx459
                  refine wl_nil ?_
                  refine sq_n ?_
                  refine wc_cond rfl (fun hc464 => ?_) (fun hc464 => ?_)
                  · replace hx := xif_t hc464 hx
                    refine wc_seq ?_
                    refine wc_region ?_
                    refine wv rfl (r_assign rfl) ?_
                    refine wl_nil ?_
                    refine sq_n ?_
                    refine wc_ret ?_
                    refine sq_ret ?_
                    obtain rfl := Option.some.inj hx
                    refine fin_ret [(.bool false)] ⟨rfl, trivial⟩ ?_
                    replace hM : St ⟨w, X, S⟩ [] [rV s_aO.v (cSl 3 fDPart aO), rV s_aL.v (cSl 3 fDMark aL)] _ := hM.tk 0
                    have hM := hM.fewer rsN
                    exact ⟨(), rfl, hM.gives⟩
                  · replace hx := xif_f hc464 hx
                    refine wc_skip ?_
                    refine sq_n ?_
                    refine wc_seq ?_
                    refine wc_region ?_
                    refine wv rfl (r_assign rfl) ?_
                    refine wl_nil ?_
                    refine sq_n ?_
                    refine wc_seq ?_
                    refine wc_region ?_
                    refine wv rfl (r_move rfl) ?_
                    refine wv rfl (r_move rfl) ?_
                    obtain ⟨r469, h470, hx⟩ := bind_some' hx
                    refine w_call rfl rfl (hM.callV fun X S oL hS hR hO => ct_laws_heldMarkS _ X S r403.2 s298 (1 : Int) hS (seeA hO (.tail _ (.tail _ (.tail _ (.head _))))) oL h470) ?_
                    rintro _ w471 ⟨rfl, hR472⟩
                    have hM := hM.call hR472
                    refine wv rfl (r_assign rfl) ?_
                    refine wl_nil ?_
                    refine sq_n ?_
                    refine wc_seq ?_
                    refine wc_seq ?_
                    refine wc_region ?_
                    refine wv rfl (r_move rfl) ?_
                    refine wv rfl (r_lss rfl rfl) ?_
                    refine wl_nil ?_
                    refine sq_n ?_
                    refine wc_cond rfl (fun hc476 => ?_) (fun hc476 => ?_)
                    · replace hx := xif_t hc476 hx
                      refine wc_seq ?_
                      refine wc_region ?_
                      refine wv rfl (r_assign rfl) ?_
                      refine wl_nil ?_
                      refine sq_n ?_
                      refine wc_ret ?_
                      refine sq_ret ?_
                      obtain rfl := Option.some.inj hx
                      refine fin_ret [(.bool false)] ⟨rfl, trivial⟩ ?_
                      replace hM : St ⟨w, X, S⟩ [] [rV s_aO.v (cSl 3 fDPart aO), rV s_aL.v (cSl 3 fDMark aL)] _ := hM.tk 0
                      have hM := hM.fewer rsN
                      exact ⟨(), rfl, hM.gives⟩
                    · replace hx := xif_f hc476 hx
                      refine wc_skip ?_
                      refine sq_n ?_
                      refine wc_seq ?_
                      refine wc_seq ?_
                      refine wc_region ?_
                      refine wv rfl (r_move rfl) ?_
                      refine wv rfl (r_move rfl) ?_
                      refine wv rfl (r_neq rfl rfl) ?_
                      refine wl_nil ?_
                      refine sq_n ?_
                      refine wc_cond rfl (fun hc481 => ?_) (fun hc481 => ?_)
                      · replace hx := xif_t hc481 hx
                        refine wc_seq ?_
                        refine wc_region ?_
                        refine wv rfl (r_assign rfl) ?_
                        refine wl_nil ?_
                        refine sq_n ?_
                        refine wc_ret ?_
                        refine sq_ret ?_
                        obtain rfl := Option.some.inj hx
                        refine fin_ret [(.bool false)] ⟨rfl, trivial⟩ ?_
                        replace hM : St ⟨w, X, S⟩ [] [rV s_aO.v (cSl 3 fDPart aO), rV s_aL.v (cSl 3 fDMark aL)] _ := hM.tk 0
                        have hM := hM.fewer rsN
                        exact ⟨(), rfl, hM.gives⟩
                      · replace hx := xif_f hc481 hx
                        refine wc_skip ?_
                        refine sq_n ?_
                        refine wc_seq ?_
                        refine wc_region ?_
                        refine wv rfl (r_assign rfl) ?_
                        refine wl_nil ?_
                        refine sq_n ?_
                        refine wc_ret ?_
                        obtain rfl := Option.some.inj hx
                        refine fin_ret [(.bool true)] ⟨rfl, trivial⟩ ?_
                        replace hM : St ⟨w, X, S⟩ [] [rV s_aO.v (cSl 3 fDPart aO), rV s_aL.v (cSl 3 fDMark aL)] _ := hM.tk 0
                        have hM := hM.fewer rsN
                        exact ⟨(), rfl, hM.gives⟩

end Go.Proofs.Ytnpfbhejekpmaaa
