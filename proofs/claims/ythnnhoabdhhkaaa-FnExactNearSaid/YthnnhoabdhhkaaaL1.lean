/- Walks of functions of this program (printed by a program of ours, by the rules of the layer). No condition. -/
import Derived.Test.YthnnhoabdhhkaaaGD
namespace Go.Proofs.Ythnnhoabdhhkaaa
open Go.RowKit

noncomputable def x_laws_toIntS_b0 (a : List Int) (i34 : Int) (l35 : List Int) : Option (Lr (Int × List Int) (List Int)) :=
  bif decide (i34 < (a.length : Int)) then (xg (0 ≤ i34 ∧ i34 < (a.length : Int)) <| xg (0 ≤ i34 ∧ i34 < (l35.length : Int)) <| xg (inI (i34 + 1)) <| some (Lr.go (i34 + 1, l35.set i34.toNat (el a i34.toNat)))) else (some (Lr.out l35))
noncomputable def x_laws_toIntS_f0 (a : List Int) (s79 : Int × List Int) : Option (Lr (Int × List Int) (List Int)) := x_laws_toIntS_b0 a s79.1 s79.2
noncomputable def x_laws_toIntS (a : List Int) : Option (List Int) :=
  xg (0 ≤ (a.length : Int) ∧ (a.length : Int) ≤ 1099511627776) <| Option.bind (iter (x_laws_toIntS_f0 a) (0, List.replicate ((a.length : Int).toNat) 0)) fun (y80 : List Int) => some y80
theorem ct_laws_toIntS (w : World) (X S : Bs) (a : List Int) (s_a : Sv) (hS : ∀ b, S b → b < w.heap.size ∧ ¬ X b) (a_a_0 : (cSl 1 fI a).rd S w s_a.v) (oL : Sep [] X w) {r : List Int} (hx : x_laws_toIntS a = some r) :
    Ret Try.prog 15 [s_a.v] w (fun u w' => ∃ y : Sv, u = y.v ∧ Gives X S w [oC (cSl 1 fI r) y.v] [] w') := by
  unfold x_laws_toIntS at hx
  refine enter Try.func15 rfl Try.ntmps15 (by kernel_rfl) rfl ?_
  have hM := St.enter oL hS
  have hM := hM.addE (r := rV s_a.v (cSl 1 fI a)) a_a_0
  refine wc_seq ?_
  refine wc_region ?_
  refine wv rfl (r_assign rfl) ?_
  refine wl_nil ?_
  refine sq_n ?_
  refine wc_seq ?_
  refine wc_region ?_
  refine wv rfl (r_move rfl) ?_
  refine wv rfl (r_lenC Try.underlying22 rfl (hM.seeR (.head _))) ?_
  obtain ⟨hg89, hx⟩ := xg_some hx
  have hk90 : (a.length : Int) = ((a.length : Int).toNat : Int) := by omega
  refine w_ex rfl (x_make (f := fI) (k := ((a.length : Int).toNat)) 0 Try.underlying22 sz3 (fun _ => rfl) (fun _ => zP (pV _ rfl) zN) (by rw [← hk90]; rfl) (by omega) rfl hM ?_); intro s88 w87 hR91 hM
  refine wv rfl (r_assign rfl) ?_
  refine wl_nil ?_
  refine sq_n ?_
  refine wc_seq ?_
  refine wc_seq ?_
  refine wc_region ?_
  refine wv rfl (r_assign rfl) ?_
  refine wl_nil ?_
  refine sq_n ?_
  refine wc_block ?_
  obtain ⟨y95, hx, hx96⟩ := bind_some' hx
  obtain ⟨m101, hx⟩ := iter_run hx
  refine wc_loop (un fun (m99 : Nat) => un fun (i97 : Int) => fun (l98 : List Int) => [(0, s_a.v), (3, s88.v), (4, (.int .i64 i97))]) (un fun (m99 : Nat) => un fun (i97 : Int) => fun (l98 : List Int) w' => St ⟨w, X, S⟩ [oC (cSl 1 fI l98) s88.v] [rV s_a.v (cSl 1 fI a)] w' ∧ iterN _ m99 (i97, l98) = some y95) (fun p => p.1) (m101, 0, List.replicate ((a.length : Int).toNat) 0) ⟨rfl, rfl, rfl, trivial⟩ ⟨hM, hx⟩ ?_
  rintro ⟨m99, i97, l98⟩ w102 ⟨hM, hx⟩
  obtain ⟨m103, z104, rfl, hx, hx105⟩ := iterN_step hx
  unfold x_laws_toIntS_f0 x_laws_toIntS_b0 at hx
  try dsimp only at hx
  refine wc_seq ?_
  refine wc_seq ?_
  refine wc_region ?_
  refine wv rfl (r_move rfl) ?_
  refine wv rfl (r_move rfl) ?_
  refine wv rfl (r_lenC Try.underlying22 rfl (hM.seeR (.head _))) ?_
  refine wv rfl (r_lss rfl rfl) ?_
  refine wl_nil ?_
  refine sq_n ?_
  refine wc_cond rfl (fun hc110 => ?_) (fun hc110 => ?_)
  · replace hx := xif_t hc110 hx
    refine wc_skip ?_
    refine sq_n ?_
    refine wc_seq ?_
    refine wc_block ?_
    refine wc_region ?_
    refine wv rfl (r_move rfl) ?_
    refine wv rfl (r_move rfl) ?_
    refine wv rfl (r_move rfl) ?_
    refine wv rfl (r_move rfl) ?_
    obtain ⟨hg117, hx⟩ := xg_some hx
    have hi116 : i97.toNat < a.length := by omega
    refine wv rfl (r_ixC Try.underlying22 sz3 rfl rfl (hM.seeR (.head _)) hg117) ?_
    refine wv rfl (r_ld Try.underlying3 rfl rfl (Cs.get (i := i97.toNat) (j := 0) (hM.seeR (.head _)) (fun _ => rfl) hi116 rfl)) ?_
    obtain ⟨hg121, hx⟩ := xg_some hx
    have hi120 : i97.toNat < l98.length := by omega
    refine wv rfl (r_ixC Try.underlying22 sz3 rfl rfl (hM.seeO (.head _)) hg121) ?_
    refine w_exu (x_stE (f := fI) (k := 1) (L := l98) (i := i97.toNat) (j := 0) (el a i97.toNat) [cI (el a i97.toNat)] sz3 (fun _ => rfl) rfl rfl hi120 rfl rfl rfl rfl rfl (fun _ => zP (pV _ rfl) zN) hM ?_); intro w122 hM
    refine wl_nil ?_
    refine bk_n ?_
    refine sq_n ?_
    refine wc_region ?_
    refine wv rfl (r_move rfl) ?_
    obtain ⟨hg126, hx⟩ := xg_some hx
    refine wv rfl (r_add rfl rfl hg126) ?_
    refine wv rfl (r_assign rfl) ?_
    refine wl_nil ?_
    obtain rfl := Option.some.inj hx
    exact lp_end (m103, i97 + 1, l98.set i97.toNat (el a i97.toNat)) (Nat.lt_succ_self _) ⟨rfl, rfl, rfl, trivial⟩ ⟨hM, hx105⟩
  · replace hx := xif_f hc110 hx
    refine wc_exit ?_
    refine sq_exit ?_
    refine lp1_exit ?_
    obtain rfl := Option.some.inj hx
    obtain rfl := Option.some.inj hx105
    replace hx := hx96
    try dsimp only [Sum.elim_inl, Sum.elim_inr] at hx
    refine bk_here ?_
    refine sq_n ?_
    refine wc_seq ?_
    refine wc_region ?_
    refine wv rfl (r_move rfl) ?_
    refine wv rfl (r_assign rfl) ?_
    refine wl_nil ?_
    refine sq_n ?_
    refine wc_ret ?_
    obtain rfl := Option.some.inj hx
    refine fin_ret [s88.v] ⟨rfl, trivial⟩ ?_
    replace hM : St ⟨w, X, S⟩ [oC (cSl 1 fI l98) s88.v] [rV s_a.v (cSl 1 fI a)] _ := hM.tk 1
    have hM := hM.fewer rsN
    exact ⟨s88, rfl, hM.gives⟩

noncomputable def x_laws_eqIntS_b0 (a : List Int) (b : List Int) (i9 : Int) : Option (Lr Int (Sum Unit Unit)) :=
  bif decide (i9 < (a.length : Int)) then (xg (0 ≤ i9 ∧ i9 < (a.length : Int)) <| xg (0 ≤ i9 ∧ i9 < (b.length : Int)) <| bif !decide ((el a i9.toNat) = (el b i9.toNat)) then (some (Lr.out (Sum.inr (())))) else (xg (inI (i9 + 1)) <| some (Lr.go (i9 + 1)))) else (some (Lr.out (Sum.inl ())))
noncomputable def x_laws_eqIntS_f0 (a : List Int) (b : List Int) (s58 : Int) : Option (Lr Int (Sum Unit Unit)) := x_laws_eqIntS_b0 a b s58
noncomputable def x_laws_eqIntS (a : List Int) (b : List Int) : Option Bool :=
  bif !decide ((a.length : Int) = (b.length : Int)) then (some false) else (Option.bind (iter (x_laws_eqIntS_f0 a b) 0) fun (y59 : Sum Unit Unit) => Sum.elim (fun _y60 => some true) (fun _y61 => some false) y59)
theorem ct_laws_eqIntS (w : World) (X S : Bs) (a : List Int) (s_a : Sv) (b : List Int) (s_b : Sv) (hS : ∀ b, S b → b < w.heap.size ∧ ¬ X b) (a_a_0 : (cSl 1 fI a).rd S w s_a.v) (a_b_0 : (cSl 1 fI b).rd S w s_b.v) (oL : Sep [] X w) {r : Bool} (hx : x_laws_eqIntS a b = some r) :
    Ret Try.prog 17 [s_a.v, s_b.v] w (fun u w' => ∃ _ : Unit, u = (.bool r) ∧ Gives X S w [] [] w') := by
  unfold x_laws_eqIntS at hx
  refine enter Try.func17 rfl Try.ntmps17 (by kernel_rfl) rfl ?_
  have hM := St.enter oL hS
  have hM := hM.addE (r := rV s_a.v (cSl 1 fI a)) a_a_0
  have hM := hM.addE (r := rV s_b.v (cSl 1 fI b)) a_b_0
  refine wc_seq ?_
  refine wc_region ?_
  refine wv rfl (r_assign rfl) ?_
  refine wl_nil ?_
  refine sq_n ?_
  refine wc_seq ?_
  refine wc_seq ?_
  refine wc_region ?_
  refine wv rfl (r_move rfl) ?_
  refine wv rfl (r_lenC Try.underlying22 rfl (hM.seeR (.tail _ (.head _)))) ?_
  refine wv rfl (r_move rfl) ?_
  refine wv rfl (r_lenC Try.underlying22 rfl (hM.seeR (.head _))) ?_
  refine wv rfl (r_neq rfl rfl) ?_
  refine wl_nil ?_
  refine sq_n ?_
  refine wc_cond rfl (fun hc69 => ?_) (fun hc69 => ?_)
  · replace hx := xif_t hc69 hx
    refine wc_seq ?_
    refine wc_region ?_
    refine wv rfl (r_assign rfl) ?_
    refine wl_nil ?_
    refine sq_n ?_
    refine wc_ret ?_
    refine sq_ret ?_
    obtain rfl := Option.some.inj hx
    refine fin_ret [(.bool false)] ⟨rfl, trivial⟩ ?_
    replace hM : St ⟨w, X, S⟩ [] [rV s_b.v (cSl 1 fI b), rV s_a.v (cSl 1 fI a)] _ := hM.tk 0
    have hM := hM.fewer rsN
    exact ⟨(), rfl, hM.gives⟩
  · replace hx := xif_f hc69 hx
    refine wc_skip ?_
    refine sq_n ?_
    refine wc_seq ?_
    refine wc_seq ?_
    refine wc_region ?_
    refine wv rfl (r_assign rfl) ?_
    refine wl_nil ?_
    refine sq_n ?_
    refine wc_block ?_
    obtain ⟨y72, hx, hx73⟩ := bind_some' hx
    have hM := hM.fewer (rsC (.tail _ (.head _)) (rsC (.head _) rsN))
    replace hM : St ⟨w, X, S⟩ [] [rV s_a.v (cSl 1 fI a), rV s_b.v (cSl 1 fI b)] _ := hM
    obtain ⟨m77, hx⟩ := iter_run hx
    refine wc_loop (un fun (m75 : Nat) => fun (i74 : Int) => [(0, s_a.v), (1, s_b.v), (5, (.int .i64 i74))]) (un fun (m75 : Nat) => fun (i74 : Int) w' => St ⟨w, X, S⟩ [] [rV s_a.v (cSl 1 fI a), rV s_b.v (cSl 1 fI b)] w' ∧ iterN _ m75 i74 = some y72) (fun p => p.1) (m77, 0) ⟨rfl, rfl, rfl, trivial⟩ ⟨hM, hx⟩ ?_
    rintro ⟨m75, i74⟩ w78 ⟨hM, hx⟩
    obtain ⟨m79, z80, rfl, hx, hx81⟩ := iterN_step hx
    unfold x_laws_eqIntS_f0 x_laws_eqIntS_b0 at hx
    try dsimp only at hx
    refine wc_seq ?_
    refine wc_seq ?_
    refine wc_region ?_
    refine wv rfl (r_move rfl) ?_
    refine wv rfl (r_move rfl) ?_
    refine wv rfl (r_lenC Try.underlying22 rfl (hM.seeR (.head _))) ?_
    refine wv rfl (r_lss rfl rfl) ?_
    refine wl_nil ?_
    refine sq_n ?_
    refine wc_cond rfl (fun hc86 => ?_) (fun hc86 => ?_)
    · replace hx := xif_t hc86 hx
      refine wc_skip ?_
      refine sq_n ?_
      refine wc_seq ?_
      refine wc_block ?_
      refine wc_seq ?_
      refine wc_draw [(0, 0), (1, 0), (2, 0), (3, 0), (4, 0), (5, 0), (6, 0), (7, 0), (8, 0)] Try_mixed (by kernel_rfl) rfl (by kernel_rfl) rfl ?_
      refine ov rfl (fun w' h' => r_move rfl) ?_
      refine ov rfl (fun w' h' => r_move rfl) ?_
      obtain ⟨hg91, hx⟩ := xg_some hx
      have hi90 : i74.toNat < a.length := by omega
      refine ov rfl (fun w' h' => r_ixC Try.underlying22 sz3 rfl rfl ((hM.call h').seeR (.head _)) hg91) ?_
      refine ov rfl (fun w' h' => r_ld Try.underlying3 rfl rfl (Cs.get (i := i74.toNat) (j := 0) ((hM.call h').seeR (.head _)) (fun _ => rfl) hi90 rfl)) ?_
      refine ov rfl (fun w' h' => r_move rfl) ?_
      refine ov rfl (fun w' h' => r_move rfl) ?_
      obtain ⟨hg97, hx⟩ := xg_some hx
      have hi96 : i74.toNat < b.length := by omega
      refine ov rfl (fun w' h' => r_ixC Try.underlying22 sz3 rfl rfl ((hM.call h').seeR (.tail _ (.head _))) hg97) ?_
      refine ov rfl (fun w' h' => r_ld Try.underlying3 rfl rfl (Cs.get (i := i74.toNat) (j := 0) ((hM.call h').seeR (.tail _ (.head _))) (fun _ => rfl) hi96 rfl)) ?_
      refine ov rfl (fun w' h' => r_neq rfl rfl) ?_
      refine o_nil fun w100 hw101 => ?_
      have hM := hM.call hw101
      refine sq_n ?_
      refine wc_cond rfl (fun hc102 => ?_) (fun hc102 => ?_)
      · replace hx := xif_t hc102 hx
        refine wc_seq ?_
        refine wc_region ?_
        refine wv rfl (r_assign rfl) ?_
        refine wl_nil ?_
        refine sq_n ?_
        refine wc_ret ?_
        refine bk_ret ?_
        refine sq_ret ?_
        refine lp1_ret ?_
        obtain rfl := Option.some.inj hx
        obtain rfl := Option.some.inj hx81
        replace hx := hx73
        try dsimp only [Sum.elim_inl, Sum.elim_inr] at hx
        refine bk_ret ?_
        refine sq_ret ?_
        obtain rfl := Option.some.inj hx
        refine fin_ret [(.bool false)] ⟨rfl, trivial⟩ ?_
        replace hM : St ⟨w, X, S⟩ [] [rV s_a.v (cSl 1 fI a), rV s_b.v (cSl 1 fI b)] _ := hM.tk 0
        have hM := hM.fewer rsN
        exact ⟨(), rfl, hM.gives⟩
      · replace hx := xif_f hc102 hx
        refine wc_skip ?_
        refine bk_n ?_
        refine sq_n ?_
        refine wc_region ?_
        refine wv rfl (r_move rfl) ?_
        obtain ⟨hg106, hx⟩ := xg_some hx
        refine wv rfl (r_add rfl rfl hg106) ?_
        refine wv rfl (r_assign rfl) ?_
        refine wl_nil ?_
        obtain rfl := Option.some.inj hx
        exact lp_end (m79, i74 + 1) (Nat.lt_succ_self _) ⟨rfl, rfl, rfl, trivial⟩ ⟨hM, hx81⟩
    · replace hx := xif_f hc86 hx
      refine wc_exit ?_
      refine sq_exit ?_
      refine lp1_exit ?_
      obtain rfl := Option.some.inj hx
      obtain rfl := Option.some.inj hx81
      replace hx := hx73
      try dsimp only [Sum.elim_inl, Sum.elim_inr] at hx
      refine bk_here ?_
      refine sq_n ?_
      refine wc_seq ?_
      refine wc_region ?_
      refine wv rfl (r_assign rfl) ?_
      refine wl_nil ?_
      refine sq_n ?_
      refine wc_ret ?_
      obtain rfl := Option.some.inj hx
      refine fin_ret [(.bool true)] ⟨rfl, trivial⟩ ?_
      replace hM : St ⟨w, X, S⟩ [] [rV s_a.v (cSl 1 fI a), rV s_b.v (cSl 1 fI b)] _ := hM.tk 0
      have hM := hM.fewer rsN
      exact ⟨(), rfl, hM.gives⟩

noncomputable def x_laws_eqPart (a : DPart) (b : DPart) : Option Bool :=
  bif !decide (a.kind = b.kind) then (some false) else (bif !decide (a.n = b.n) then (some false) else (Option.bind (x_laws_eqIntS a.signs b.signs) fun r26 => bif !r26 then (some false) else (some true)))
theorem ct_laws_eqPart (w : World) (X S : Bs) (a : DPart) (s_a_2 : Sv) (b : DPart) (s_b_2 : Sv) (hS : ∀ b, S b → b < w.heap.size ∧ ¬ X b) (a_a_2 : (cSl 1 fI a.signs).rd S w s_a_2.v) (a_b_2 : (cSl 1 fI b.signs).rd S w s_b_2.v) (oL : Sep [] X w) {r : Bool} (hx : x_laws_eqPart a b = some r) :
    Ret Try.prog 86 [(.agg #[(.int .i64 a.kind), (.int .i64 a.n), s_a_2.v]), (.agg #[(.int .i64 b.kind), (.int .i64 b.n), s_b_2.v])] w (fun u w' => ∃ _ : Unit, u = (.bool r) ∧ Gives X S w [] [] w') := by
  unfold x_laws_eqPart at hx
  refine enter Try.func86 rfl Try.ntmps86 (by kernel_rfl) rfl ?_
  have hM := St.enter oL hS
  have hM := hM.addE (r := rV s_a_2.v (cSl 1 fI a.signs)) a_a_2
  have hM := hM.addE (r := rV s_b_2.v (cSl 1 fI b.signs)) a_b_2
  refine wc_seq ?_
  refine wc_region ?_
  refine w_ex rfl (x_box rfl hM ?_); intro b34 w33 hR35 hM
  replace hM : St ⟨w, X, S⟩ [oBox b34 #[(.int .i64 a.kind), (.int .i64 a.n), s_a_2.v] 83] [rV s_b_2.v (cSl 1 fI b.signs), rV s_a_2.v (cSl 1 fI a.signs)] _ := hM
  refine w_ex rfl (x_box rfl hM ?_); intro b38 w37 hR39 hM
  replace hM : St ⟨w, X, S⟩ [oBox b38 #[(.int .i64 b.kind), (.int .i64 b.n), s_b_2.v] 83, oBox b34 #[(.int .i64 a.kind), (.int .i64 a.n), s_a_2.v] 83] [rV s_b_2.v (cSl 1 fI b.signs), rV s_a_2.v (cSl 1 fI a.signs)] _ := hM
  refine wv rfl (r_assign rfl) ?_
  refine wl_nil ?_
  refine sq_n ?_
  refine wc_seq ?_
  refine wc_seq ?_
  refine wc_region ?_
  refine wv rfl (r_fld Try.underlying83 rfl rfl sz3 rfl) ?_
  refine wv rfl (r_ldB Try.underlying3 rfl rfl hM (.tail _ (.head _)) rfl) ?_
  refine wv rfl (r_fld Try.underlying83 rfl rfl sz3 rfl) ?_
  refine wv rfl (r_ldB Try.underlying3 rfl rfl hM (.head _) rfl) ?_
  refine wv rfl (r_neq rfl rfl) ?_
  refine wl_nil ?_
  refine sq_n ?_
  refine wc_cond rfl (fun hc47 => ?_) (fun hc47 => ?_)
  · replace hx := xif_t hc47 hx
    refine wc_seq ?_
    refine wc_region ?_
    refine wv rfl (r_assign rfl) ?_
    refine wl_nil ?_
    refine sq_n ?_
    refine wc_ret ?_
    refine sq_ret ?_
    obtain rfl := Option.some.inj hx
    refine fin_ret [(.bool false)] ⟨rfl, trivial⟩ ?_
    replace hM : St ⟨w, X, S⟩ [] [rV s_b_2.v (cSl 1 fI b.signs), rV s_a_2.v (cSl 1 fI a.signs)] _ := hM.tk 0
    have hM := hM.fewer rsN
    exact ⟨(), rfl, hM.gives⟩
  · replace hx := xif_f hc47 hx
    refine wc_skip ?_
    refine sq_n ?_
    refine wc_seq ?_
    refine wc_seq ?_
    refine wc_region ?_
    refine wv rfl (r_fld Try.underlying83 rfl rfl sz3 rfl) ?_
    refine wv rfl (r_ldB Try.underlying3 rfl rfl hM (.tail _ (.head _)) rfl) ?_
    refine wv rfl (r_fld Try.underlying83 rfl rfl sz3 rfl) ?_
    refine wv rfl (r_ldB Try.underlying3 rfl rfl hM (.head _) rfl) ?_
    refine wv rfl (r_neq rfl rfl) ?_
    refine wl_nil ?_
    refine sq_n ?_
    refine wc_cond rfl (fun hc54 => ?_) (fun hc54 => ?_)
    · replace hx := xif_t hc54 hx
      refine wc_seq ?_
      refine wc_region ?_
      refine wv rfl (r_assign rfl) ?_
      refine wl_nil ?_
      refine sq_n ?_
      refine wc_ret ?_
      refine sq_ret ?_
      obtain rfl := Option.some.inj hx
      refine fin_ret [(.bool false)] ⟨rfl, trivial⟩ ?_
      replace hM : St ⟨w, X, S⟩ [] [rV s_b_2.v (cSl 1 fI b.signs), rV s_a_2.v (cSl 1 fI a.signs)] _ := hM.tk 0
      have hM := hM.fewer rsN
      exact ⟨(), rfl, hM.gives⟩
    · replace hx := xif_f hc54 hx
      refine wc_skip ?_
      refine sq_n ?_
      refine wc_seq ?_
      refine wc_seq ?_
      refine wc_region ?_
      refine wv rfl (r_fld Try.underlying83 rfl rfl sz22 rfl) ?_
      refine wv rfl (r_ldB Try.underlying22 rfl rfl hM (.tail _ (.head _)) rfl) ?_
      refine wv rfl (r_fld Try.underlying83 rfl rfl sz22 rfl) ?_
      refine wv rfl (r_ldB Try.underlying22 rfl rfl hM (.head _) rfl) ?_
      obtain ⟨r60, h61, hx⟩ := bind_some' hx
      refine w_call rfl rfl (hM.callV fun X S oL hS hR hO => ct_laws_eqIntS _ X S a.signs s_a_2 b.signs s_b_2 hS (hR _ (.tail _ (.head _))) (hR _ (.head _)) oL h61) ?_
      rintro _ w62 ⟨rfl, hR63⟩
      have hM := hM.call hR63
      refine wv rfl (r_not rfl) ?_
      refine wl_nil ?_
      refine sq_n ?_
      refine wc_cond rfl (fun hc65 => ?_) (fun hc65 => ?_)
      · replace hx := xif_t hc65 hx
        refine wc_seq ?_
        refine wc_region ?_
        refine wv rfl (r_assign rfl) ?_
        refine wl_nil ?_
        refine sq_n ?_
        refine wc_ret ?_
        refine sq_ret ?_
        obtain rfl := Option.some.inj hx
        refine fin_ret [(.bool false)] ⟨rfl, trivial⟩ ?_
        replace hM : St ⟨w, X, S⟩ [] [rV s_b_2.v (cSl 1 fI b.signs), rV s_a_2.v (cSl 1 fI a.signs)] _ := hM.tk 0
        have hM := hM.fewer rsN
        exact ⟨(), rfl, hM.gives⟩
      · replace hx := xif_f hc65 hx
        refine wc_skip ?_
        refine sq_n ?_
        refine wc_seq ?_
        refine wc_region ?_
        refine wv rfl (r_assign rfl) ?_
        refine wl_nil ?_
        refine sq_n ?_
        refine wc_ret ?_
        obtain rfl := Option.some.inj hx
        refine fin_ret [(.bool true)] ⟨rfl, trivial⟩ ?_
        replace hM : St ⟨w, X, S⟩ [] [rV s_b_2.v (cSl 1 fI b.signs), rV s_a_2.v (cSl 1 fI a.signs)] _ := hM.tk 0
        have hM := hM.fewer rsN
        exact ⟨(), rfl, hM.gives⟩

noncomputable def x_laws_eqPartS_b0 (a : List DPart) (b : List DPart) (i9 : Int) : Option (Lr Int (Sum Unit Unit)) :=
  bif decide (i9 < (a.length : Int)) then (xg (0 ≤ i9 ∧ i9 < (a.length : Int)) <| xg (0 ≤ i9 ∧ i9 < (b.length : Int)) <| Option.bind (x_laws_eqPart (el a i9.toNat) (el b i9.toNat)) fun r61 => bif !r61 then (some (Lr.out (Sum.inr (())))) else (xg (inI (i9 + 1)) <| some (Lr.go (i9 + 1)))) else (some (Lr.out (Sum.inl ())))
noncomputable def x_laws_eqPartS_f0 (a : List DPart) (b : List DPart) (s72 : Int) : Option (Lr Int (Sum Unit Unit)) := x_laws_eqPartS_b0 a b s72
noncomputable def x_laws_eqPartS (a : List DPart) (b : List DPart) : Option Bool :=
  bif !decide ((a.length : Int) = (b.length : Int)) then (some false) else (Option.bind (iter (x_laws_eqPartS_f0 a b) 0) fun (y73 : Sum Unit Unit) => Sum.elim (fun _y74 => some true) (fun _y75 => some false) y73)
theorem ct_laws_eqPartS (w : World) (X S : Bs) (a : List DPart) (s_a : Sv) (b : List DPart) (s_b : Sv) (hS : ∀ b, S b → b < w.heap.size ∧ ¬ X b) (a_a_0 : (cSl 3 fDPart a).rd S w s_a.v) (a_b_0 : (cSl 3 fDPart b).rd S w s_b.v) (oL : Sep [] X w) {r : Bool} (hx : x_laws_eqPartS a b = some r) :
    Ret Try.prog 33 [s_a.v, s_b.v] w (fun u w' => ∃ _ : Unit, u = (.bool r) ∧ Gives X S w [] [] w') := by
  unfold x_laws_eqPartS at hx
  refine enter Try.func33 rfl Try.ntmps33 (by kernel_rfl) rfl ?_
  have hM := St.enter oL hS
  have hM := hM.addE (r := rV s_a.v (cSl 3 fDPart a)) a_a_0
  have hM := hM.addE (r := rV s_b.v (cSl 3 fDPart b)) a_b_0
  refine wc_seq ?_
  refine wc_region ?_
  refine wv rfl (r_assign rfl) ?_
  refine wl_nil ?_
  refine sq_n ?_
  refine wc_seq ?_
  refine wc_seq ?_
  refine wc_region ?_
  refine wv rfl (r_move rfl) ?_
  refine wv rfl (r_lenC Try.underlying41 rfl (hM.seeR (.tail _ (.head _)))) ?_
  refine wv rfl (r_move rfl) ?_
  refine wv rfl (r_lenC Try.underlying41 rfl (hM.seeR (.head _))) ?_
  refine wv rfl (r_neq rfl rfl) ?_
  refine wl_nil ?_
  refine sq_n ?_
  refine wc_cond rfl (fun hc83 => ?_) (fun hc83 => ?_)
  · replace hx := xif_t hc83 hx
    refine wc_seq ?_
    refine wc_region ?_
    refine wv rfl (r_assign rfl) ?_
    refine wl_nil ?_
    refine sq_n ?_
    refine wc_ret ?_
    refine sq_ret ?_
    obtain rfl := Option.some.inj hx
    refine fin_ret [(.bool false)] ⟨rfl, trivial⟩ ?_
    replace hM : St ⟨w, X, S⟩ [] [rV s_b.v (cSl 3 fDPart b), rV s_a.v (cSl 3 fDPart a)] _ := hM.tk 0
    have hM := hM.fewer rsN
    exact ⟨(), rfl, hM.gives⟩
  · replace hx := xif_f hc83 hx
    refine wc_skip ?_
    refine sq_n ?_
    refine wc_seq ?_
    refine wc_seq ?_
    refine wc_region ?_
    refine wv rfl (r_assign rfl) ?_
    refine wl_nil ?_
    refine sq_n ?_
    refine wc_block ?_
    obtain ⟨y86, hx, hx87⟩ := bind_some' hx
    have hM := hM.fewer (rsC (.tail _ (.head _)) (rsC (.head _) rsN))
    replace hM : St ⟨w, X, S⟩ [] [rV s_a.v (cSl 3 fDPart a), rV s_b.v (cSl 3 fDPart b)] _ := hM
    obtain ⟨m91, hx⟩ := iter_run hx
    refine wc_loop (un fun (m89 : Nat) => fun (i88 : Int) => [(0, s_a.v), (1, s_b.v), (5, (.int .i64 i88))]) (un fun (m89 : Nat) => fun (i88 : Int) w' => St ⟨w, X, S⟩ [] [rV s_a.v (cSl 3 fDPart a), rV s_b.v (cSl 3 fDPart b)] w' ∧ iterN _ m89 i88 = some y86) (fun p => p.1) (m91, 0) ⟨rfl, rfl, rfl, trivial⟩ ⟨hM, hx⟩ ?_
    rintro ⟨m89, i88⟩ w92 ⟨hM, hx⟩
    obtain ⟨m93, z94, rfl, hx, hx95⟩ := iterN_step hx
    unfold x_laws_eqPartS_f0 x_laws_eqPartS_b0 at hx
    try dsimp only at hx
    refine wc_seq ?_
    refine wc_seq ?_
    refine wc_region ?_
    refine wv rfl (r_move rfl) ?_
    refine wv rfl (r_move rfl) ?_
    refine wv rfl (r_lenC Try.underlying41 rfl (hM.seeR (.head _))) ?_
    refine wv rfl (r_lss rfl rfl) ?_
    refine wl_nil ?_
    refine sq_n ?_
    refine wc_cond rfl (fun hc100 => ?_) (fun hc100 => ?_)
    · replace hx := xif_t hc100 hx
      refine wc_skip ?_
      refine sq_n ?_
      refine wc_seq ?_
      refine wc_block ?_
      refine wc_seq ?_
      refine wc_draw [(0, 0), (1, 0), (2, 0), (3, 0), (4, 0), (5, 0), (6, 0), (7, 0), (8, 0), (9, 0)] Try_mixed (by kernel_rfl) rfl (by kernel_rfl) rfl ?_
      refine ov rfl (fun w' h' => r_move rfl) ?_
      refine ov rfl (fun w' h' => r_move rfl) ?_
      obtain ⟨hg105, hx⟩ := xg_some hx
      have hi104 : i88.toNat < a.length := by omega
      refine ov rfl (fun w' h' => r_ixC Try.underlying41 sz83 rfl rfl ((hM.call h').seeR (.head _)) hg105) ?_
      obtain ⟨s107, hM, hc108⟩ := hM.leaf (i := i88.toNat) (j := 2) (.head _) (fun _ => rfl) hi104 rfl
      refine ov rfl (fun w' h' => r_ldC (o := i88.toNat * 3) Try.underlying83 sz83 rfl (us := [(.int .i64 ((el a i88.toNat).kind)), (.int .i64 ((el a i88.toNat).n)), s107.v]) rfl ((hM.call h').seeR (.tail _ (.head _))) hi104 ⟨(Cs.get (i := i88.toNat) (j := 0) ((hM.call h').seeR (.tail _ (.head _))) (fun _ => rfl) hi104 rfl), (Cs.get (i := i88.toNat) (j := 1) ((hM.call h').seeR (.tail _ (.head _))) (fun _ => rfl) hi104 rfl), (hc108 w' h'), trivial⟩) ?_
      refine ov rfl (fun w' h' => r_move rfl) ?_
      refine ov rfl (fun w' h' => r_move rfl) ?_
      obtain ⟨hg113, hx⟩ := xg_some hx
      have hi112 : i88.toNat < b.length := by omega
      refine ov rfl (fun w' h' => r_ixC Try.underlying41 sz83 rfl rfl ((hM.call h').seeR (.tail _ (.tail _ (.head _)))) hg113) ?_
      obtain ⟨s115, hM, hc116⟩ := hM.leaf (i := i88.toNat) (j := 2) (.tail _ (.tail _ (.head _))) (fun _ => rfl) hi112 rfl
      refine ov rfl (fun w' h' => r_ldC (o := i88.toNat * 3) Try.underlying83 sz83 rfl (us := [(.int .i64 ((el b i88.toNat).kind)), (.int .i64 ((el b i88.toNat).n)), s115.v]) rfl ((hM.call h').seeR (.tail _ (.tail _ (.tail _ (.head _))))) hi112 ⟨(Cs.get (i := i88.toNat) (j := 0) ((hM.call h').seeR (.tail _ (.tail _ (.tail _ (.head _))))) (fun _ => rfl) hi112 rfl), (Cs.get (i := i88.toNat) (j := 1) ((hM.call h').seeR (.tail _ (.tail _ (.tail _ (.head _))))) (fun _ => rfl) hi112 rfl), (hc116 w' h'), trivial⟩) ?_
      obtain ⟨r117, h118, hx⟩ := bind_some' hx
      refine oc rfl rfl (fun w' h' => (hM.call h').callV fun X S oL hS hR hO => ct_laws_eqPart _ X S (el a i88.toNat) s107 (el b i88.toNat) s115 hS (hR _ (.tail _ (.head _))) (hR _ (.head _)) oL h118) ?_
      refine ov rfl (fun w' h' => r_not rfl) ?_
      refine o_nil fun w121 hw122 => ?_
      have hM := hM.call hw122
      refine sq_n ?_
      refine wc_cond rfl (fun hc123 => ?_) (fun hc123 => ?_)
      · replace hx := xif_t hc123 hx
        refine wc_seq ?_
        refine wc_region ?_
        refine wv rfl (r_assign rfl) ?_
        refine wl_nil ?_
        refine sq_n ?_
        refine wc_ret ?_
        refine bk_ret ?_
        refine sq_ret ?_
        refine lp1_ret ?_
        obtain rfl := Option.some.inj hx
        obtain rfl := Option.some.inj hx95
        replace hx := hx87
        try dsimp only [Sum.elim_inl, Sum.elim_inr] at hx
        refine bk_ret ?_
        refine sq_ret ?_
        obtain rfl := Option.some.inj hx
        refine fin_ret [(.bool false)] ⟨rfl, trivial⟩ ?_
        replace hM : St ⟨w, X, S⟩ [] [rV s115.v (cSl 1 fI ((el b i88.toNat).signs)), rV s107.v (cSl 1 fI ((el a i88.toNat).signs)), rV s_a.v (cSl 3 fDPart a), rV s_b.v (cSl 3 fDPart b)] _ := hM.tk 0
        have hM := hM.fewer rsN
        exact ⟨(), rfl, hM.gives⟩
      · replace hx := xif_f hc123 hx
        refine wc_skip ?_
        refine bk_n ?_
        refine sq_n ?_
        refine wc_region ?_
        refine wv rfl (r_move rfl) ?_
        obtain ⟨hg127, hx⟩ := xg_some hx
        refine wv rfl (r_add rfl rfl hg127) ?_
        refine wv rfl (r_assign rfl) ?_
        refine wl_nil ?_
        obtain rfl := Option.some.inj hx
        have hM := hM.fewer (rsC (.tail _ (.tail _ (.head _))) (rsC (.tail _ (.tail _ (.tail _ (.head _)))) rsN))
        replace hM : St ⟨w, X, S⟩ [] [rV s_a.v (cSl 3 fDPart a), rV s_b.v (cSl 3 fDPart b)] _ := hM
        exact lp_end (m93, i88 + 1) (Nat.lt_succ_self _) ⟨rfl, rfl, rfl, trivial⟩ ⟨hM, hx95⟩
    · replace hx := xif_f hc100 hx
      refine wc_exit ?_
      refine sq_exit ?_
      refine lp1_exit ?_
      obtain rfl := Option.some.inj hx
      obtain rfl := Option.some.inj hx95
      replace hx := hx87
      try dsimp only [Sum.elim_inl, Sum.elim_inr] at hx
      refine bk_here ?_
      refine sq_n ?_
      refine wc_seq ?_
      refine wc_region ?_
      refine wv rfl (r_assign rfl) ?_
      refine wl_nil ?_
      refine sq_n ?_
      refine wc_ret ?_
      obtain rfl := Option.some.inj hx
      refine fin_ret [(.bool true)] ⟨rfl, trivial⟩ ?_
      replace hM : St ⟨w, X, S⟩ [] [rV s_a.v (cSl 3 fDPart a), rV s_b.v (cSl 3 fDPart b)] _ := hM.tk 0
      have hM := hM.fewer rsN
      exact ⟨(), rfl, hM.gives⟩

noncomputable def x_laws_markIntS_b0 (k26 : Int) (i27 : Int) (l28 : List Int) : Option (Lr (Int × Int × List Int) (Int × List Int)) :=
  bif decide (i27 < (l28.length : Int)) then (xg (0 ≤ i27 ∧ i27 < (l28.length : Int)) <| xg (inI (k26 + 1)) <| xg (inI (i27 + 1)) <| some (Lr.go (k26 + 1, i27 + 1, l28.set i27.toNat k26))) else (some (Lr.out (k26, l28)))
noncomputable def x_laws_markIntS_f0 (s70 : Int × Int × List Int) : Option (Lr (Int × Int × List Int) (Int × List Int)) := x_laws_markIntS_b0 s70.1 s70.2.1 s70.2.2
noncomputable def x_laws_markIntS (a : List Int) (k : Int) : Option (Int × List Int) :=
  Option.bind (iter (x_laws_markIntS_f0) (k, 0, a)) fun (y71 : Int × List Int) => some (y71.1, y71.2)
theorem ct_laws_markIntS (w : World) (X S : Bs) (a : List Int) (s_a : Sv) (k : Int) (hS : ∀ b, S b → b < w.heap.size ∧ ¬ X b)  (oL : Sep [oC (cSl 1 fI a) s_a.v] X w) {r : Int × List Int} (hx : x_laws_markIntS a k = some r) :
    Ret Try.prog 20 [s_a.v, (.int .i64 k)] w (fun u w' => ∃ _ : Unit, u = (.int .i64 r.1) ∧ Gives X S w [oC (cSl 1 fI r.2) s_a.v] [] w') := by
  unfold x_laws_markIntS at hx
  refine enter Try.func20 rfl Try.ntmps20 (by kernel_rfl) rfl ?_
  have hM := St.enter oL hS
  refine wc_seq ?_
  refine wc_region ?_
  refine wv rfl (r_assign rfl) ?_
  refine wl_nil ?_
  refine sq_n ?_
  refine wc_seq ?_
  refine wc_seq ?_
  refine wc_region ?_
  refine wv rfl (r_assign rfl) ?_
  refine wl_nil ?_
  refine sq_n ?_
  refine wc_block ?_
  obtain ⟨y77, hx, hx78⟩ := bind_some' hx
  obtain ⟨m84, hx⟩ := iter_run hx
  refine wc_loop (un fun (m82 : Nat) => un fun (k79 : Int) => un fun (i80 : Int) => fun (l81 : List Int) => [(0, s_a.v), (1, (.int .i64 k79)), (5, (.int .i64 i80))]) (un fun (m82 : Nat) => un fun (k79 : Int) => un fun (i80 : Int) => fun (l81 : List Int) w' => St ⟨w, X, S⟩ [oC (cSl 1 fI l81) s_a.v] [] w' ∧ iterN _ m82 (k79, i80, l81) = some y77) (fun p => p.1) (m84, k, 0, a) ⟨rfl, rfl, rfl, trivial⟩ ⟨hM, hx⟩ ?_
  rintro ⟨m82, k79, i80, l81⟩ w85 ⟨hM, hx⟩
  obtain ⟨m86, z87, rfl, hx, hx88⟩ := iterN_step hx
  unfold x_laws_markIntS_f0 x_laws_markIntS_b0 at hx
  try dsimp only at hx
  refine wc_seq ?_
  refine wc_seq ?_
  refine wc_region ?_
  refine wv rfl (r_move rfl) ?_
  refine wv rfl (r_move rfl) ?_
  refine wv rfl (r_lenC Try.underlying22 rfl (hM.seeO (.head _))) ?_
  refine wv rfl (r_lss rfl rfl) ?_
  refine wl_nil ?_
  refine sq_n ?_
  refine wc_cond rfl (fun hc93 => ?_) (fun hc93 => ?_)
  · replace hx := xif_t hc93 hx
    refine wc_skip ?_
    refine sq_n ?_
    refine wc_seq ?_
    refine wc_block ?_
    refine wc_seq ?_
    refine wc_region ?_
    refine wv rfl (r_move rfl) ?_
    refine wv rfl (r_move rfl) ?_
    refine wv rfl (r_move rfl) ?_
    obtain ⟨hg99, hx⟩ := xg_some hx
    have hi98 : i80.toNat < l81.length := by omega
    refine wv rfl (r_ixC Try.underlying22 sz3 rfl rfl (hM.seeO (.head _)) hg99) ?_
    refine w_exu (x_stE (f := fI) (k := 1) (L := l81) (i := i80.toNat) (j := 0) k79 [cI k79] sz3 (fun _ => rfl) rfl rfl hi98 rfl rfl rfl rfl rfl (fun _ => zP (pV _ rfl) zN) hM ?_); intro w100 hM
    refine wl_nil ?_
    refine sq_n ?_
    refine wc_region ?_
    refine wv rfl (r_move rfl) ?_
    obtain ⟨hg104, hx⟩ := xg_some hx
    refine wv rfl (r_add rfl rfl hg104) ?_
    refine wv rfl (r_assign rfl) ?_
    refine wl_nil ?_
    refine bk_n ?_
    refine sq_n ?_
    refine wc_region ?_
    refine wv rfl (r_move rfl) ?_
    obtain ⟨hg108, hx⟩ := xg_some hx
    refine wv rfl (r_add rfl rfl hg108) ?_
    refine wv rfl (r_assign rfl) ?_
    refine wl_nil ?_
    obtain rfl := Option.some.inj hx
    exact lp_end (m86, k79 + 1, i80 + 1, l81.set i80.toNat k79) (Nat.lt_succ_self _) ⟨rfl, rfl, rfl, trivial⟩ ⟨hM, hx88⟩
  · replace hx := xif_f hc93 hx
    refine wc_exit ?_
    refine sq_exit ?_
    refine lp1_exit ?_
    obtain rfl := Option.some.inj hx
    obtain rfl := Option.some.inj hx88
    replace hx := hx78
    try dsimp only [Sum.elim_inl, Sum.elim_inr] at hx
    refine bk_here ?_
    refine sq_n ?_
    refine wc_seq ?_
    refine wc_region ?_
    refine wv rfl (r_move rfl) ?_
    refine wv rfl (r_assign rfl) ?_
    refine wl_nil ?_
    refine sq_n ?_
    refine wc_ret ?_
    obtain rfl := Option.some.inj hx
    refine fin_ret [(.int .i64 k79)] ⟨rfl, trivial⟩ ?_
    replace hM : St ⟨w, X, S⟩ [oC (cSl 1 fI l81) s_a.v] [] _ := hM.tk 1
    have hM := hM.fewer rsN
    exact ⟨(), rfl, hM.gives⟩

noncomputable def x_laws_markPartS_b0 (k56 : Int) (i57 : Int) (l58 : List DPart) : Option (Lr (Int × Int × List DPart) (Int × List DPart)) :=
  bif decide (i57 < (l58.length : Int)) then (xg (0 ≤ i57 ∧ i57 < (l58.length : Int)) <| xg (inI (k56 + 1)) <| xg (0 ≤ i57 ∧ i57 < ((l58.set i57.toNat (⟨k56, (el l58 i57.toNat).n, (el l58 i57.toNat).signs⟩ : DPart)).length : Int)) <| xg (inI ((k56 + 1) + 1)) <| xg (0 ≤ i57 ∧ i57 < (((l58.set i57.toNat (⟨k56, (el l58 i57.toNat).n, (el l58 i57.toNat).signs⟩ : DPart)).set i57.toNat (⟨(el (l58.set i57.toNat (⟨k56, (el l58 i57.toNat).n, (el l58 i57.toNat).signs⟩ : DPart)) i57.toNat).kind, k56 + 1, (el (l58.set i57.toNat (⟨k56, (el l58 i57.toNat).n, (el l58 i57.toNat).signs⟩ : DPart)) i57.toNat).signs⟩ : DPart)).length : Int)) <| Option.bind (x_laws_markIntS ((el ((l58.set i57.toNat (⟨k56, (el l58 i57.toNat).n, (el l58 i57.toNat).signs⟩ : DPart)).set i57.toNat (⟨(el (l58.set i57.toNat (⟨k56, (el l58 i57.toNat).n, (el l58 i57.toNat).signs⟩ : DPart)) i57.toNat).kind, k56 + 1, (el (l58.set i57.toNat (⟨k56, (el l58 i57.toNat).n, (el l58 i57.toNat).signs⟩ : DPart)) i57.toNat).signs⟩ : DPart)) i57.toNat).signs) ((k56 + 1) + 1)) fun r152 => xg (inI (i57 + 1)) <| some (Lr.go (r152.1, i57 + 1, ((l58.set i57.toNat (⟨k56, (el l58 i57.toNat).n, (el l58 i57.toNat).signs⟩ : DPart)).set i57.toNat (⟨(el (l58.set i57.toNat (⟨k56, (el l58 i57.toNat).n, (el l58 i57.toNat).signs⟩ : DPart)) i57.toNat).kind, k56 + 1, (el (l58.set i57.toNat (⟨k56, (el l58 i57.toNat).n, (el l58 i57.toNat).signs⟩ : DPart)) i57.toNat).signs⟩ : DPart)).set i57.toNat (⟨(el ((l58.set i57.toNat (⟨k56, (el l58 i57.toNat).n, (el l58 i57.toNat).signs⟩ : DPart)).set i57.toNat (⟨(el (l58.set i57.toNat (⟨k56, (el l58 i57.toNat).n, (el l58 i57.toNat).signs⟩ : DPart)) i57.toNat).kind, k56 + 1, (el (l58.set i57.toNat (⟨k56, (el l58 i57.toNat).n, (el l58 i57.toNat).signs⟩ : DPart)) i57.toNat).signs⟩ : DPart)) i57.toNat).kind, (el ((l58.set i57.toNat (⟨k56, (el l58 i57.toNat).n, (el l58 i57.toNat).signs⟩ : DPart)).set i57.toNat (⟨(el (l58.set i57.toNat (⟨k56, (el l58 i57.toNat).n, (el l58 i57.toNat).signs⟩ : DPart)) i57.toNat).kind, k56 + 1, (el (l58.set i57.toNat (⟨k56, (el l58 i57.toNat).n, (el l58 i57.toNat).signs⟩ : DPart)) i57.toNat).signs⟩ : DPart)) i57.toNat).n, r152.2⟩ : DPart)))) else (some (Lr.out (k56, l58)))
noncomputable def x_laws_markPartS_f0 (s160 : Int × Int × List DPart) : Option (Lr (Int × Int × List DPart) (Int × List DPart)) := x_laws_markPartS_b0 s160.1 s160.2.1 s160.2.2
noncomputable def x_laws_markPartS (a : List DPart) (k : Int) : Option (Int × List DPart) :=
  Option.bind (iter (x_laws_markPartS_f0) (k, 0, a)) fun (y161 : Int × List DPart) => some (y161.1, y161.2)
theorem ct_laws_markPartS (w : World) (X S : Bs) (a : List DPart) (s_a : Sv) (k : Int) (hS : ∀ b, S b → b < w.heap.size ∧ ¬ X b)  (oL : Sep [oC (cSl 3 fDPart a) s_a.v] X w) {r : Int × List DPart} (hx : x_laws_markPartS a k = some r) :
    Ret Try.prog 68 [s_a.v, (.int .i64 k)] w (fun u w' => ∃ _ : Unit, u = (.int .i64 r.1) ∧ Gives X S w [oC (cSl 3 fDPart r.2) s_a.v] [] w') := by
  unfold x_laws_markPartS at hx
  refine enter Try.func68 rfl Try.ntmps68 (by kernel_rfl) rfl ?_
  have hM := St.enter oL hS
  refine wc_seq ?_
  refine wc_region ?_
  refine wv rfl (r_assign rfl) ?_
  refine wl_nil ?_
  refine sq_n ?_
  refine wc_seq ?_
  refine wc_seq ?_
  refine wc_region ?_
  refine wv rfl (r_assign rfl) ?_
  refine wl_nil ?_
  refine sq_n ?_
  refine wc_block ?_
  obtain ⟨y167, hx, hx168⟩ := bind_some' hx
  obtain ⟨m174, hx⟩ := iter_run hx
  refine wc_loop (un fun (m172 : Nat) => un fun (k169 : Int) => un fun (i170 : Int) => fun (l171 : List DPart) => [(0, s_a.v), (1, (.int .i64 k169)), (5, (.int .i64 i170))]) (un fun (m172 : Nat) => un fun (k169 : Int) => un fun (i170 : Int) => fun (l171 : List DPart) w' => St ⟨w, X, S⟩ [oC (cSl 3 fDPart l171) s_a.v] [] w' ∧ iterN _ m172 (k169, i170, l171) = some y167) (fun p => p.1) (m174, k, 0, a) ⟨rfl, rfl, rfl, trivial⟩ ⟨hM, hx⟩ ?_
  rintro ⟨m172, k169, i170, l171⟩ w175 ⟨hM, hx⟩
  obtain ⟨m176, z177, rfl, hx, hx178⟩ := iterN_step hx
  unfold x_laws_markPartS_f0 x_laws_markPartS_b0 at hx
  try dsimp only at hx
  refine wc_seq ?_
  refine wc_seq ?_
  refine wc_region ?_
  refine wv rfl (r_move rfl) ?_
  refine wv rfl (r_move rfl) ?_
  refine wv rfl (r_lenC Try.underlying41 rfl (hM.seeO (.head _))) ?_
  refine wv rfl (r_lss rfl rfl) ?_
  refine wl_nil ?_
  refine sq_n ?_
  refine wc_cond rfl (fun hc183 => ?_) (fun hc183 => ?_)
  · replace hx := xif_t hc183 hx
    refine wc_skip ?_
    refine sq_n ?_
    refine wc_seq ?_
    refine wc_block ?_
    refine wc_seq ?_
    refine wc_region ?_
    refine wv rfl (r_move rfl) ?_
    refine wv rfl (r_move rfl) ?_
    refine wv rfl (r_move rfl) ?_
    obtain ⟨hg189, hx⟩ := xg_some hx
    have hi188 : i170.toNat < l171.length := by omega
    refine wv rfl (r_ixC Try.underlying41 sz83 rfl rfl (hM.seeO (.head _)) hg189) ?_
    refine wv rfl (r_fldC (i := i170.toNat) Try.underlying83 rfl rfl sz3 rfl (hM.seeO (.head _)) hi188) ?_
    refine w_exu (x_stE (f := fDPart) (k := 3) (L := l171) (i := i170.toNat) (j := 0) (⟨k169, (el l171 i170.toNat).n, (el l171 i170.toNat).signs⟩ : DPart) [cI k169] sz3 (fun _ => rfl) rfl rfl hi188 rfl rfl rfl rfl rfl (fun _ => zP (pV _ rfl) zN) hM ?_); intro w191 hM
    refine wl_nil ?_
    refine sq_n ?_
    refine wc_seq ?_
    refine wc_region ?_
    refine wv rfl (r_move rfl) ?_
    obtain ⟨hg195, hx⟩ := xg_some hx
    refine wv rfl (r_add rfl rfl hg195) ?_
    refine wv rfl (r_assign rfl) ?_
    refine wl_nil ?_
    refine sq_n ?_
    refine wc_seq ?_
    refine wc_region ?_
    refine wv rfl (r_move rfl) ?_
    refine wv rfl (r_move rfl) ?_
    refine wv rfl (r_move rfl) ?_
    obtain ⟨hg202, hx⟩ := xg_some hx
    have hi201 : i170.toNat < (l171.set i170.toNat (⟨k169, (el l171 i170.toNat).n, (el l171 i170.toNat).signs⟩ : DPart)).length := by omega
    refine wv rfl (r_ixC Try.underlying41 sz83 rfl rfl (hM.seeO (.head _)) hg202) ?_
    refine wv rfl (r_fldC (i := i170.toNat) Try.underlying83 rfl rfl sz3 rfl (hM.seeO (.head _)) hi201) ?_
    refine w_exu (x_stE (f := fDPart) (k := 3) (L := (l171.set i170.toNat (⟨k169, (el l171 i170.toNat).n, (el l171 i170.toNat).signs⟩ : DPart))) (i := i170.toNat) (j := 1) (⟨(el (l171.set i170.toNat (⟨k169, (el l171 i170.toNat).n, (el l171 i170.toNat).signs⟩ : DPart)) i170.toNat).kind, k169 + 1, (el (l171.set i170.toNat (⟨k169, (el l171 i170.toNat).n, (el l171 i170.toNat).signs⟩ : DPart)) i170.toNat).signs⟩ : DPart) [cI (k169 + 1)] sz3 (fun _ => rfl) rfl rfl hi201 rfl rfl rfl rfl rfl (fun _ => zP (pV _ rfl) zN) hM ?_); intro w204 hM
    refine wl_nil ?_
    refine sq_n ?_
    refine wc_seq ?_
    refine wc_region ?_
    refine wv rfl (r_move rfl) ?_
    obtain ⟨hg208, hx⟩ := xg_some hx
    refine wv rfl (r_add rfl rfl hg208) ?_
    refine wv rfl (r_assign rfl) ?_
    refine wl_nil ?_
    refine sq_n ?_
    refine wc_region ?_
    refine wv rfl (r_move rfl) ?_
    refine wv rfl (r_move rfl) ?_
    obtain ⟨hg214, hx⟩ := xg_some hx
    have hi213 : i170.toNat < ((l171.set i170.toNat (⟨k169, (el l171 i170.toNat).n, (el l171 i170.toNat).signs⟩ : DPart)).set i170.toNat (⟨(el (l171.set i170.toNat (⟨k169, (el l171 i170.toNat).n, (el l171 i170.toNat).signs⟩ : DPart)) i170.toNat).kind, k169 + 1, (el (l171.set i170.toNat (⟨k169, (el l171 i170.toNat).n, (el l171 i170.toNat).signs⟩ : DPart)) i170.toNat).signs⟩ : DPart)).length := by omega
    refine wv rfl (r_ixC Try.underlying41 sz83 rfl rfl (hM.seeO (.head _)) hg214) ?_
    refine wv rfl (r_fldC (i := i170.toNat) Try.underlying83 rfl rfl sz22 rfl (hM.seeO (.head _)) hi213) ?_
    obtain ⟨s217, hM, hc218⟩ := hM.leafO (i := i170.toNat) (j := 2) (fun _ => rfl) hi213 rfl
    refine wv rfl (r_ld Try.underlying22 rfl rfl (hc218 _ (Rel.refl _))) ?_
    refine wv rfl (r_move rfl) ?_
    have hM := hM.open (i := i170.toNat) (j := 2) (.tail _ (.head _)) (fun _ => rfl) hi213 rfl
    obtain ⟨r222, h223, hx⟩ := bind_some' hx
    refine w_call rfl rfl (hM.callO (l := [oC (cSl 1 fI ((el ((l171.set i170.toNat (⟨k169, (el l171 i170.toNat).n, (el l171 i170.toNat).signs⟩ : DPart)).set i170.toNat (⟨(el (l171.set i170.toNat (⟨k169, (el l171 i170.toNat).n, (el l171 i170.toNat).signs⟩ : DPart)) i170.toNat).kind, k169 + 1, (el (l171.set i170.toNat (⟨k169, (el l171 i170.toNat).n, (el l171 i170.toNat).signs⟩ : DPart)) i170.toNat).signs⟩ : DPart)) i170.toNat).signs)) s217.v]) fun X S oL hS hR hO => ct_laws_markIntS _ X S ((el ((l171.set i170.toNat (⟨k169, (el l171 i170.toNat).n, (el l171 i170.toNat).signs⟩ : DPart)).set i170.toNat (⟨(el (l171.set i170.toNat (⟨k169, (el l171 i170.toNat).n, (el l171 i170.toNat).signs⟩ : DPart)) i170.toNat).kind, k169 + 1, (el (l171.set i170.toNat (⟨k169, (el l171 i170.toNat).n, (el l171 i170.toNat).signs⟩ : DPart)) i170.toNat).signs⟩ : DPart)) i170.toNat).signs) s217 ((k169 + 1) + 1) hS  oL h223) ?_
    rintro _ w224 ⟨_, rfl, hM⟩
    replace hM : St ⟨w, X, S⟩ [oC (cSl 1 fI r222.2) s217.v, oHo 3 fDPart ((l171.set i170.toNat (⟨k169, (el l171 i170.toNat).n, (el l171 i170.toNat).signs⟩ : DPart)).set i170.toNat (⟨(el (l171.set i170.toNat (⟨k169, (el l171 i170.toNat).n, (el l171 i170.toNat).signs⟩ : DPart)) i170.toNat).kind, k169 + 1, (el (l171.set i170.toNat (⟨k169, (el l171 i170.toNat).n, (el l171 i170.toNat).signs⟩ : DPart)) i170.toNat).signs⟩ : DPart)) s_a.v (i170.toNat * 3 + 2) s217.v] [] _ := hM
    have hM := hM.close (i := i170.toNat) (j := 2) (⟨(el ((l171.set i170.toNat (⟨k169, (el l171 i170.toNat).n, (el l171 i170.toNat).signs⟩ : DPart)).set i170.toNat (⟨(el (l171.set i170.toNat (⟨k169, (el l171 i170.toNat).n, (el l171 i170.toNat).signs⟩ : DPart)) i170.toNat).kind, k169 + 1, (el (l171.set i170.toNat (⟨k169, (el l171 i170.toNat).n, (el l171 i170.toNat).signs⟩ : DPart)) i170.toNat).signs⟩ : DPart)) i170.toNat).kind, (el ((l171.set i170.toNat (⟨k169, (el l171 i170.toNat).n, (el l171 i170.toNat).signs⟩ : DPart)).set i170.toNat (⟨(el (l171.set i170.toNat (⟨k169, (el l171 i170.toNat).n, (el l171 i170.toNat).signs⟩ : DPart)) i170.toNat).kind, k169 + 1, (el (l171.set i170.toNat (⟨k169, (el l171 i170.toNat).n, (el l171 i170.toNat).signs⟩ : DPart)) i170.toNat).signs⟩ : DPart)) i170.toNat).n, r222.2⟩ : DPart) (fun _ => rfl) hi213 rfl rfl
    refine wv rfl (r_assign rfl) ?_
    refine wl_nil ?_
    refine bk_n ?_
    refine sq_n ?_
    refine wc_region ?_
    refine wv rfl (r_move rfl) ?_
    obtain ⟨hg228, hx⟩ := xg_some hx
    refine wv rfl (r_add rfl rfl hg228) ?_
    refine wv rfl (r_assign rfl) ?_
    refine wl_nil ?_
    obtain rfl := Option.some.inj hx
    exact lp_end (m176, r222.1, i170 + 1, ((l171.set i170.toNat (⟨k169, (el l171 i170.toNat).n, (el l171 i170.toNat).signs⟩ : DPart)).set i170.toNat (⟨(el (l171.set i170.toNat (⟨k169, (el l171 i170.toNat).n, (el l171 i170.toNat).signs⟩ : DPart)) i170.toNat).kind, k169 + 1, (el (l171.set i170.toNat (⟨k169, (el l171 i170.toNat).n, (el l171 i170.toNat).signs⟩ : DPart)) i170.toNat).signs⟩ : DPart)).set i170.toNat (⟨(el ((l171.set i170.toNat (⟨k169, (el l171 i170.toNat).n, (el l171 i170.toNat).signs⟩ : DPart)).set i170.toNat (⟨(el (l171.set i170.toNat (⟨k169, (el l171 i170.toNat).n, (el l171 i170.toNat).signs⟩ : DPart)) i170.toNat).kind, k169 + 1, (el (l171.set i170.toNat (⟨k169, (el l171 i170.toNat).n, (el l171 i170.toNat).signs⟩ : DPart)) i170.toNat).signs⟩ : DPart)) i170.toNat).kind, (el ((l171.set i170.toNat (⟨k169, (el l171 i170.toNat).n, (el l171 i170.toNat).signs⟩ : DPart)).set i170.toNat (⟨(el (l171.set i170.toNat (⟨k169, (el l171 i170.toNat).n, (el l171 i170.toNat).signs⟩ : DPart)) i170.toNat).kind, k169 + 1, (el (l171.set i170.toNat (⟨k169, (el l171 i170.toNat).n, (el l171 i170.toNat).signs⟩ : DPart)) i170.toNat).signs⟩ : DPart)) i170.toNat).n, r222.2⟩ : DPart)) (Nat.lt_succ_self _) ⟨rfl, rfl, rfl, trivial⟩ ⟨hM, hx178⟩
  · replace hx := xif_f hc183 hx
    refine wc_exit ?_
    refine sq_exit ?_
    refine lp1_exit ?_
    obtain rfl := Option.some.inj hx
    obtain rfl := Option.some.inj hx178
    replace hx := hx168
    try dsimp only [Sum.elim_inl, Sum.elim_inr] at hx
    refine bk_here ?_
    refine sq_n ?_
    refine wc_seq ?_
    refine wc_region ?_
    refine wv rfl (r_move rfl) ?_
    refine wv rfl (r_assign rfl) ?_
    refine wl_nil ?_
    refine sq_n ?_
    refine wc_ret ?_
    obtain rfl := Option.some.inj hx
    refine fin_ret [(.int .i64 k169)] ⟨rfl, trivial⟩ ?_
    replace hM : St ⟨w, X, S⟩ [oC (cSl 3 fDPart l171) s_a.v] [] _ := hM.tk 1
    have hM := hM.fewer rsN
    exact ⟨(), rfl, hM.gives⟩

noncomputable def x_laws_heldIntS_b0 (a : List Int) (k3 : Int) (i4 : Int) : Option (Lr (Int × Int) (Sum Int Int)) :=
  bif decide (i4 < (a.length : Int)) then (xg (0 ≤ i4 ∧ i4 < (a.length : Int)) <| bif !decide ((el a i4.toNat) = k3) then (some (Lr.out (Sum.inr (-1)))) else (xg (inI (k3 + 1)) <| xg (inI (i4 + 1)) <| some (Lr.go (k3 + 1, i4 + 1)))) else (some (Lr.out (Sum.inl k3)))
noncomputable def x_laws_heldIntS_f0 (a : List Int) (s47 : Int × Int) : Option (Lr (Int × Int) (Sum Int Int)) := x_laws_heldIntS_b0 a s47.1 s47.2
noncomputable def x_laws_heldIntS (a : List Int) (k : Int) : Option Int :=
  Option.bind (iter (x_laws_heldIntS_f0 a) (k, 0)) fun (y48 : Sum Int Int) => Sum.elim (fun y49 => some y49) (fun y50 => some y50) y48
theorem ct_laws_heldIntS (w : World) (X S : Bs) (a : List Int) (s_a : Sv) (k : Int) (hS : ∀ b, S b → b < w.heap.size ∧ ¬ X b) (a_a_0 : (cSl 1 fI a).rd S w s_a.v) (oL : Sep [] X w) {r : Int} (hx : x_laws_heldIntS a k = some r) :
    Ret Try.prog 21 [s_a.v, (.int .i64 k)] w (fun u w' => ∃ _ : Unit, u = (.int .i64 r) ∧ Gives X S w [] [] w') := by
  unfold x_laws_heldIntS at hx
  refine enter Try.func21 rfl Try.ntmps21 (by kernel_rfl) rfl ?_
  have hM := St.enter oL hS
  have hM := hM.addE (r := rV s_a.v (cSl 1 fI a)) a_a_0
  refine wc_seq ?_
  refine wc_region ?_
  refine wv rfl (r_assign rfl) ?_
  refine wl_nil ?_
  refine sq_n ?_
  refine wc_seq ?_
  refine wc_seq ?_
  refine wc_region ?_
  refine wv rfl (r_assign rfl) ?_
  refine wl_nil ?_
  refine sq_n ?_
  refine wc_block ?_
  obtain ⟨y55, hx, hx56⟩ := bind_some' hx
  obtain ⟨m61, hx⟩ := iter_run hx
  refine wc_loop (un fun (m59 : Nat) => un fun (k57 : Int) => fun (i58 : Int) => [(0, s_a.v), (1, (.int .i64 k57)), (5, (.int .i64 i58))]) (un fun (m59 : Nat) => un fun (k57 : Int) => fun (i58 : Int) w' => St ⟨w, X, S⟩ [] [rV s_a.v (cSl 1 fI a)] w' ∧ iterN _ m59 (k57, i58) = some y55) (fun p => p.1) (m61, k, 0) ⟨rfl, rfl, rfl, trivial⟩ ⟨hM, hx⟩ ?_
  rintro ⟨m59, k57, i58⟩ w62 ⟨hM, hx⟩
  obtain ⟨m63, z64, rfl, hx, hx65⟩ := iterN_step hx
  unfold x_laws_heldIntS_f0 x_laws_heldIntS_b0 at hx
  try dsimp only at hx
  refine wc_seq ?_
  refine wc_seq ?_
  refine wc_region ?_
  refine wv rfl (r_move rfl) ?_
  refine wv rfl (r_move rfl) ?_
  refine wv rfl (r_lenC Try.underlying22 rfl (hM.seeR (.head _))) ?_
  refine wv rfl (r_lss rfl rfl) ?_
  refine wl_nil ?_
  refine sq_n ?_
  refine wc_cond rfl (fun hc70 => ?_) (fun hc70 => ?_)
  · replace hx := xif_t hc70 hx
    refine wc_skip ?_
    refine sq_n ?_
    refine wc_seq ?_
    refine wc_block ?_
    refine wc_seq ?_
    refine wc_seq ?_
    refine wc_region ?_
    refine wv rfl (r_move rfl) ?_
    refine wv rfl (r_move rfl) ?_
    obtain ⟨hg75, hx⟩ := xg_some hx
    have hi74 : i58.toNat < a.length := by omega
    refine wv rfl (r_ixC Try.underlying22 sz3 rfl rfl (hM.seeR (.head _)) hg75) ?_
    refine wv rfl (r_ld Try.underlying3 rfl rfl (Cs.get (i := i58.toNat) (j := 0) (hM.seeR (.head _)) (fun _ => rfl) hi74 rfl)) ?_
    refine wv rfl (r_move rfl) ?_
    refine wv rfl (r_neq rfl rfl) ?_
    refine wl_nil ?_
    refine sq_n ?_
    refine wc_cond rfl (fun hc79 => ?_) (fun hc79 => ?_)
    · replace hx := xif_t hc79 hx
      refine wc_seq ?_
      refine wc_region ?_
      refine wv rfl (r_assign rfl) ?_
      refine wl_nil ?_
      refine sq_n ?_
      refine wc_ret ?_
      refine sq_ret ?_
      refine bk_ret ?_
      refine sq_ret ?_
      refine lp1_ret ?_
      obtain rfl := Option.some.inj hx
      obtain rfl := Option.some.inj hx65
      replace hx := hx56
      try dsimp only [Sum.elim_inl, Sum.elim_inr] at hx
      refine bk_ret ?_
      refine sq_ret ?_
      obtain rfl := Option.some.inj hx
      refine fin_ret [(.int .i64 (-1))] ⟨rfl, trivial⟩ ?_
      replace hM : St ⟨w, X, S⟩ [] [rV s_a.v (cSl 1 fI a)] _ := hM.tk 0
      have hM := hM.fewer rsN
      exact ⟨(), rfl, hM.gives⟩
    · replace hx := xif_f hc79 hx
      refine wc_skip ?_
      refine sq_n ?_
      refine wc_region ?_
      refine wv rfl (r_move rfl) ?_
      obtain ⟨hg83, hx⟩ := xg_some hx
      refine wv rfl (r_add rfl rfl hg83) ?_
      refine wv rfl (r_assign rfl) ?_
      refine wl_nil ?_
      refine bk_n ?_
      refine sq_n ?_
      refine wc_region ?_
      refine wv rfl (r_move rfl) ?_
      obtain ⟨hg87, hx⟩ := xg_some hx
      refine wv rfl (r_add rfl rfl hg87) ?_
      refine wv rfl (r_assign rfl) ?_
      refine wl_nil ?_
      obtain rfl := Option.some.inj hx
      exact lp_end (m63, k57 + 1, i58 + 1) (Nat.lt_succ_self _) ⟨rfl, rfl, rfl, trivial⟩ ⟨hM, hx65⟩
  · replace hx := xif_f hc70 hx
    refine wc_exit ?_
    refine sq_exit ?_
    refine lp1_exit ?_
    obtain rfl := Option.some.inj hx
    obtain rfl := Option.some.inj hx65
    replace hx := hx56
    try dsimp only [Sum.elim_inl, Sum.elim_inr] at hx
    refine bk_here ?_
    refine sq_n ?_
    refine wc_seq ?_
    refine wc_region ?_
    refine wv rfl (r_move rfl) ?_
    refine wv rfl (r_assign rfl) ?_
    refine wl_nil ?_
    refine sq_n ?_
    refine wc_ret ?_
    obtain rfl := Option.some.inj hx
    refine fin_ret [(.int .i64 k57)] ⟨rfl, trivial⟩ ?_
    replace hM : St ⟨w, X, S⟩ [] [rV s_a.v (cSl 1 fI a)] _ := hM.tk 0
    have hM := hM.fewer rsN
    exact ⟨(), rfl, hM.gives⟩

noncomputable def x_laws_heldPartS_b0 (a : List DPart) (k3 : Int) (i4 : Int) : Option (Lr (Int × Int) (Sum Int Int)) :=
  bif decide (i4 < (a.length : Int)) then (xg (0 ≤ i4 ∧ i4 < (a.length : Int)) <| bif !decide (((el a i4.toNat).kind) = k3) then (some (Lr.out (Sum.inr (-1)))) else (xg (inI (k3 + 1)) <| xg (0 ≤ i4 ∧ i4 < (a.length : Int)) <| bif !decide (((el a i4.toNat).n) = (k3 + 1)) then (some (Lr.out (Sum.inr (-1)))) else (xg (inI ((k3 + 1) + 1)) <| xg (0 ≤ i4 ∧ i4 < (a.length : Int)) <| Option.bind (x_laws_heldIntS ((el a i4.toNat).signs) ((k3 + 1) + 1)) fun r101 => bif decide (r101 < 0) then (some (Lr.out (Sum.inr (-1)))) else (xg (inI (i4 + 1)) <| some (Lr.go (r101, i4 + 1)))))) else (some (Lr.out (Sum.inl k3)))
noncomputable def x_laws_heldPartS_f0 (a : List DPart) (s113 : Int × Int) : Option (Lr (Int × Int) (Sum Int Int)) := x_laws_heldPartS_b0 a s113.1 s113.2
noncomputable def x_laws_heldPartS (a : List DPart) (k : Int) : Option Int :=
  Option.bind (iter (x_laws_heldPartS_f0 a) (k, 0)) fun (y114 : Sum Int Int) => Sum.elim (fun y115 => some y115) (fun y116 => some y116) y114
theorem ct_laws_heldPartS (w : World) (X S : Bs) (a : List DPart) (s_a : Sv) (k : Int) (hS : ∀ b, S b → b < w.heap.size ∧ ¬ X b) (a_a_0 : (cSl 3 fDPart a).rd S w s_a.v) (oL : Sep [] X w) {r : Int} (hx : x_laws_heldPartS a k = some r) :
    Ret Try.prog 69 [s_a.v, (.int .i64 k)] w (fun u w' => ∃ _ : Unit, u = (.int .i64 r) ∧ Gives X S w [] [] w') := by
  unfold x_laws_heldPartS at hx
  refine enter Try.func69 rfl Try.ntmps69 (by kernel_rfl) rfl ?_
  have hM := St.enter oL hS
  have hM := hM.addE (r := rV s_a.v (cSl 3 fDPart a)) a_a_0
  refine wc_seq ?_
  refine wc_region ?_
  refine wv rfl (r_assign rfl) ?_
  refine wl_nil ?_
  refine sq_n ?_
  refine wc_seq ?_
  refine wc_seq ?_
  refine wc_region ?_
  refine wv rfl (r_assign rfl) ?_
  refine wl_nil ?_
  refine sq_n ?_
  refine wc_block ?_
  obtain ⟨y121, hx, hx122⟩ := bind_some' hx
  obtain ⟨m127, hx⟩ := iter_run hx
  refine wc_loop (un fun (m125 : Nat) => un fun (k123 : Int) => fun (i124 : Int) => [(0, s_a.v), (1, (.int .i64 k123)), (5, (.int .i64 i124))]) (un fun (m125 : Nat) => un fun (k123 : Int) => fun (i124 : Int) w' => St ⟨w, X, S⟩ [] [rV s_a.v (cSl 3 fDPart a)] w' ∧ iterN _ m125 (k123, i124) = some y121) (fun p => p.1) (m127, k, 0) ⟨rfl, rfl, rfl, trivial⟩ ⟨hM, hx⟩ ?_
  rintro ⟨m125, k123, i124⟩ w128 ⟨hM, hx⟩
  obtain ⟨m129, z130, rfl, hx, hx131⟩ := iterN_step hx
  unfold x_laws_heldPartS_f0 x_laws_heldPartS_b0 at hx
  try dsimp only at hx
  refine wc_seq ?_
  refine wc_seq ?_
  refine wc_region ?_
  refine wv rfl (r_move rfl) ?_
  refine wv rfl (r_move rfl) ?_
  refine wv rfl (r_lenC Try.underlying41 rfl (hM.seeR (.head _))) ?_
  refine wv rfl (r_lss rfl rfl) ?_
  refine wl_nil ?_
  refine sq_n ?_
  refine wc_cond rfl (fun hc136 => ?_) (fun hc136 => ?_)
  · replace hx := xif_t hc136 hx
    refine wc_skip ?_
    refine sq_n ?_
    refine wc_seq ?_
    refine wc_block ?_
    refine wc_seq ?_
    refine wc_seq ?_
    refine wc_region ?_
    refine wv rfl (r_move rfl) ?_
    refine wv rfl (r_move rfl) ?_
    obtain ⟨hg141, hx⟩ := xg_some hx
    have hi140 : i124.toNat < a.length := by omega
    refine wv rfl (r_ixC Try.underlying41 sz83 rfl rfl (hM.seeR (.head _)) hg141) ?_
    refine wv rfl (r_fldC (i := i124.toNat) Try.underlying83 rfl rfl sz3 rfl (hM.seeR (.head _)) hi140) ?_
    refine wv rfl (r_ld Try.underlying3 rfl rfl (Cs.get (i := i124.toNat) (j := 0) (hM.seeR (.head _)) (fun _ => rfl) hi140 rfl)) ?_
    refine wv rfl (r_move rfl) ?_
    refine wv rfl (r_neq rfl rfl) ?_
    refine wl_nil ?_
    refine sq_n ?_
    refine wc_cond rfl (fun hc146 => ?_) (fun hc146 => ?_)
    · replace hx := xif_t hc146 hx
      refine wc_seq ?_
      refine wc_region ?_
      refine wv rfl (r_assign rfl) ?_
      refine wl_nil ?_
      refine sq_n ?_
      refine wc_ret ?_
      refine sq_ret ?_
      refine bk_ret ?_
      refine sq_ret ?_
      refine lp1_ret ?_
      obtain rfl := Option.some.inj hx
      obtain rfl := Option.some.inj hx131
      replace hx := hx122
      try dsimp only [Sum.elim_inl, Sum.elim_inr] at hx
      refine bk_ret ?_
      refine sq_ret ?_
      obtain rfl := Option.some.inj hx
      refine fin_ret [(.int .i64 (-1))] ⟨rfl, trivial⟩ ?_
      replace hM : St ⟨w, X, S⟩ [] [rV s_a.v (cSl 3 fDPart a)] _ := hM.tk 0
      have hM := hM.fewer rsN
      exact ⟨(), rfl, hM.gives⟩
    · replace hx := xif_f hc146 hx
      refine wc_skip ?_
      refine sq_n ?_
      refine wc_seq ?_
      refine wc_region ?_
      refine wv rfl (r_move rfl) ?_
      obtain ⟨hg150, hx⟩ := xg_some hx
      refine wv rfl (r_add rfl rfl hg150) ?_
      refine wv rfl (r_assign rfl) ?_
      refine wl_nil ?_
      refine sq_n ?_
      refine wc_seq ?_
      refine wc_seq ?_
      refine wc_region ?_
      refine wv rfl (r_move rfl) ?_
      refine wv rfl (r_move rfl) ?_
      obtain ⟨hg156, hx⟩ := xg_some hx
      have hi155 : i124.toNat < a.length := by omega
      refine wv rfl (r_ixC Try.underlying41 sz83 rfl rfl (hM.seeR (.head _)) hg156) ?_
      refine wv rfl (r_fldC (i := i124.toNat) Try.underlying83 rfl rfl sz3 rfl (hM.seeR (.head _)) hi155) ?_
      refine wv rfl (r_ld Try.underlying3 rfl rfl (Cs.get (i := i124.toNat) (j := 1) (hM.seeR (.head _)) (fun _ => rfl) hi155 rfl)) ?_
      refine wv rfl (r_move rfl) ?_
      refine wv rfl (r_neq rfl rfl) ?_
      refine wl_nil ?_
      refine sq_n ?_
      refine wc_cond rfl (fun hc161 => ?_) (fun hc161 => ?_)
      · replace hx := xif_t hc161 hx
        refine wc_seq ?_
        refine wc_region ?_
        refine wv rfl (r_assign rfl) ?_
        refine wl_nil ?_
        refine sq_n ?_
        refine wc_ret ?_
        refine sq_ret ?_
        refine bk_ret ?_
        refine sq_ret ?_
        refine lp1_ret ?_
        obtain rfl := Option.some.inj hx
        obtain rfl := Option.some.inj hx131
        replace hx := hx122
        try dsimp only [Sum.elim_inl, Sum.elim_inr] at hx
        refine bk_ret ?_
        refine sq_ret ?_
        obtain rfl := Option.some.inj hx
        refine fin_ret [(.int .i64 (-1))] ⟨rfl, trivial⟩ ?_
        replace hM : St ⟨w, X, S⟩ [] [rV s_a.v (cSl 3 fDPart a)] _ := hM.tk 0
        have hM := hM.fewer rsN
        exact ⟨(), rfl, hM.gives⟩
      · replace hx := xif_f hc161 hx
        refine wc_skip ?_
        refine sq_n ?_
        refine wc_seq ?_
        refine wc_region ?_
        refine wv rfl (r_move rfl) ?_
        obtain ⟨hg165, hx⟩ := xg_some hx
        refine wv rfl (r_add rfl rfl hg165) ?_
        refine wv rfl (r_assign rfl) ?_
        refine wl_nil ?_
        refine sq_n ?_
        refine wc_seq ?_
        refine wc_region ?_
        refine wv rfl (r_move rfl) ?_
        refine wv rfl (r_move rfl) ?_
        obtain ⟨hg171, hx⟩ := xg_some hx
        have hi170 : i124.toNat < a.length := by omega
        refine wv rfl (r_ixC Try.underlying41 sz83 rfl rfl (hM.seeR (.head _)) hg171) ?_
        refine wv rfl (r_fldC (i := i124.toNat) Try.underlying83 rfl rfl sz22 rfl (hM.seeR (.head _)) hi170) ?_
        obtain ⟨s174, hM, hc175⟩ := hM.leaf (i := i124.toNat) (j := 2) (.head _) (fun _ => rfl) hi170 rfl
        refine wv rfl (r_ld Try.underlying22 rfl rfl (hc175 _ (Rel.refl _))) ?_
        refine wv rfl (r_move rfl) ?_
        obtain ⟨r177, h178, hx⟩ := bind_some' hx
        refine w_call rfl rfl (hM.callV fun X S oL hS hR hO => ct_laws_heldIntS _ X S ((el a i124.toNat).signs) s174 ((k123 + 1) + 1) hS (hR _ (.head _)) oL h178) ?_
        rintro _ w179 ⟨rfl, hR180⟩
        have hM := hM.call hR180
        refine wv rfl (r_assign rfl) ?_
        refine wl_nil ?_
        refine sq_n ?_
        refine wc_seq ?_
        refine wc_region ?_
        refine wv rfl (r_move rfl) ?_
        refine wv rfl (r_lss rfl rfl) ?_
        refine wl_nil ?_
        refine sq_n ?_
        refine wc_cond rfl (fun hc184 => ?_) (fun hc184 => ?_)
        · replace hx := xif_t hc184 hx
          refine wc_seq ?_
          refine wc_region ?_
          refine wv rfl (r_assign rfl) ?_
          refine wl_nil ?_
          refine sq_n ?_
          refine wc_ret ?_
          refine bk_ret ?_
          refine sq_ret ?_
          refine lp1_ret ?_
          obtain rfl := Option.some.inj hx
          obtain rfl := Option.some.inj hx131
          replace hx := hx122
          try dsimp only [Sum.elim_inl, Sum.elim_inr] at hx
          refine bk_ret ?_
          refine sq_ret ?_
          obtain rfl := Option.some.inj hx
          refine fin_ret [(.int .i64 (-1))] ⟨rfl, trivial⟩ ?_
          replace hM : St ⟨w, X, S⟩ [] [rV s174.v (cSl 1 fI ((el a i124.toNat).signs)), rV s_a.v (cSl 3 fDPart a)] _ := hM.tk 0
          have hM := hM.fewer rsN
          exact ⟨(), rfl, hM.gives⟩
        · replace hx := xif_f hc184 hx
          refine wc_skip ?_
          refine bk_n ?_
          refine sq_n ?_
          refine wc_region ?_
          refine wv rfl (r_move rfl) ?_
          obtain ⟨hg188, hx⟩ := xg_some hx
          refine wv rfl (r_add rfl rfl hg188) ?_
          refine wv rfl (r_assign rfl) ?_
          refine wl_nil ?_
          obtain rfl := Option.some.inj hx
          have hM := hM.fewer (rsC (.tail _ (.head _)) rsN)
          replace hM : St ⟨w, X, S⟩ [] [rV s_a.v (cSl 3 fDPart a)] _ := hM
          exact lp_end (m129, r177, i124 + 1) (Nat.lt_succ_self _) ⟨rfl, rfl, rfl, trivial⟩ ⟨hM, hx131⟩
  · replace hx := xif_f hc136 hx
    refine wc_exit ?_
    refine sq_exit ?_
    refine lp1_exit ?_
    obtain rfl := Option.some.inj hx
    obtain rfl := Option.some.inj hx131
    replace hx := hx122
    try dsimp only [Sum.elim_inl, Sum.elim_inr] at hx
    refine bk_here ?_
    refine sq_n ?_
    refine wc_seq ?_
    refine wc_region ?_
    refine wv rfl (r_move rfl) ?_
    refine wv rfl (r_assign rfl) ?_
    refine wl_nil ?_
    refine sq_n ?_
    refine wc_ret ?_
    obtain rfl := Option.some.inj hx
    refine fin_ret [(.int .i64 k123)] ⟨rfl, trivial⟩ ?_
    replace hM : St ⟨w, X, S⟩ [] [rV s_a.v (cSl 3 fDPart a)] _ := hM.tk 0
    have hM := hM.fewer rsN
    exact ⟨(), rfl, hM.gives⟩

noncomputable def x_laws_FnExactDiff (aA : List Int) (aB : List Int) : Option Bool :=
  bif decide ((1048576 : Int) < (aA.length : Int)) then (some true) else (bif decide ((1048576 : Int) < (aB.length : Int)) then (some true) else (Option.bind (x_laws_toIntS aA) fun r11 => Option.bind (x_laws_toIntS aB) fun r17 => Option.bind (x_spec_Diff r11 r17) fun r22 => Option.bind (x_laws_toIntS aA) fun r33 => Option.bind (x_laws_toIntS aB) fun r40 => Option.bind (x_impl_Diff r33 r40) fun r48 => Option.bind (x_laws_eqPartS r48.1 r22.1) fun r60 => Option.bind (bif !r60 then (some true) else (some (!(r48.2 == r22.2)))) fun c66 => bif c66 then (some false) else (Option.bind (x_laws_toIntS aA) fun r77 => Option.bind (x_laws_eqIntS r33 r77) fun r82 => bif !r82 then (some false) else (Option.bind (x_laws_toIntS aB) fun r90 => Option.bind (x_laws_eqIntS r40 r90) fun r95 => bif !r95 then (some false) else (Option.bind (x_laws_markIntS r33 1) fun r104 => Option.bind (x_laws_markIntS r40 r104.1) fun r110 => Option.bind (bif decide (r110.1 < 0) then (some true) else (Option.bind (x_laws_eqPartS r48.1 r22.1) fun r128 => some (!r128))) fun c117 => Option.bind (bif c117 then (some true) else (some (!(r48.2 == r22.2)))) fun c134 => bif c134 then (some false) else (Option.bind (x_laws_markPartS r48.1 1) fun r146 => Option.bind (x_laws_heldPartS r146.2 1) fun r153 => bif decide (r153 < 0) then (some false) else (bif !decide (r153 = r146.1) then (some false) else (Option.bind (x_laws_toIntS aA) fun r166 => Option.bind (x_laws_toIntS aB) fun r172 => Option.bind (x_impl_Diff r166 r172) fun r177 => Option.bind (x_laws_eqPartS r177.1 r22.1) fun r189 => Option.bind (bif !r189 then (some true) else (some (!(r177.2 == r22.2)))) fun c195 => bif c195 then (some false) else (Option.bind (x_laws_heldPartS r146.2 1) fun r207 => bif decide (r207 < 0) then (some false) else (bif !decide (r207 = r146.1) then (some false) else (some true)))))))))))
theorem ct_laws_FnExactDiff (w : World) (X S : Bs) (aA : List Int) (s_aA : Sv) (aB : List Int) (s_aB : Sv) (hS : ∀ b, S b → b < w.heap.size ∧ ¬ X b) (a_aA_0 : (cSl 1 fI aA).rd S w s_aA.v) (a_aB_0 : (cSl 1 fI aB).rd S w s_aB.v) (oL : Sep [] X w) {r : Bool} (hx : x_laws_FnExactDiff aA aB = some r) :
    Ret Try.prog 13 [s_aA.v, s_aB.v] w (fun u w' => ∃ _ : Unit, u = (.bool r) ∧ Gives X S w [] [] w') := by
  unfold x_laws_FnExactDiff at hx
  refine enter Try.func13 rfl Try.ntmps13 (by kernel_rfl) rfl ?_
  have hM := St.enter oL hS
  have hM := hM.addE (r := rV s_aA.v (cSl 1 fI aA)) a_aA_0
  have hM := hM.addE (r := rV s_aB.v (cSl 1 fI aB)) a_aB_0
  refine wc_seq ?_
  refine wc_region ?_
  refine wv rfl (r_assign rfl) ?_
  refine wl_nil ?_
  refine sq_n ?_
  refine wc_seq ?_
  refine wc_seq ?_
  refine wc_region ?_
  refine wv rfl (r_move rfl) ?_
  refine wv rfl (r_lenC Try.underlying22 rfl (hM.seeR (.tail _ (.head _)))) ?_
  refine wv rfl (r_gtr rfl rfl) ?_
  refine wl_nil ?_
  refine sq_n ?_
  refine wc_cond rfl (fun hc224 => ?_) (fun hc224 => ?_)
  · replace hx := xif_t hc224 hx
    refine wc_seq ?_
    refine wc_region ?_
    refine wv rfl (r_assign rfl) ?_
    refine wl_nil ?_
    refine sq_n ?_
    refine wc_ret ?_
    refine sq_ret ?_
    obtain rfl := Option.some.inj hx
    refine fin_ret [(.bool true)] ⟨rfl, trivial⟩ ?_
    replace hM : St ⟨w, X, S⟩ [] [rV s_aB.v (cSl 1 fI aB), rV s_aA.v (cSl 1 fI aA)] _ := hM.tk 0
    have hM := hM.fewer rsN
    exact ⟨(), rfl, hM.gives⟩
  · replace hx := xif_f hc224 hx
    refine wc_skip ?_
    refine sq_n ?_
    refine wc_seq ?_
    refine wc_seq ?_
    refine wc_region ?_
    refine wv rfl (r_move rfl) ?_
    refine wv rfl (r_lenC Try.underlying22 rfl (hM.seeR (.head _))) ?_
    refine wv rfl (r_gtr rfl rfl) ?_
    refine wl_nil ?_
    refine sq_n ?_
    refine wc_cond rfl (fun hc229 => ?_) (fun hc229 => ?_)
    · replace hx := xif_t hc229 hx
      refine wc_seq ?_
      refine wc_region ?_
      refine wv rfl (r_assign rfl) ?_
      refine wl_nil ?_
      refine sq_n ?_
      refine wc_ret ?_
      refine sq_ret ?_
      obtain rfl := Option.some.inj hx
      refine fin_ret [(.bool true)] ⟨rfl, trivial⟩ ?_
      replace hM : St ⟨w, X, S⟩ [] [rV s_aB.v (cSl 1 fI aB), rV s_aA.v (cSl 1 fI aA)] _ := hM.tk 0
      have hM := hM.fewer rsN
      exact ⟨(), rfl, hM.gives⟩
    · replace hx := xif_f hc229 hx
      refine wc_skip ?_
      refine sq_n ?_
      refine wc_seq ?_
      refine wc_region ?_
      refine wv rfl (r_move rfl) ?_
      obtain ⟨r232, h233, hx⟩ := bind_some' hx
      refine w_call rfl rfl (hM.callO (l := []) fun X S oL hS hR hO => ct_laws_toIntS _ X S aA s_aA hS (hR _ (.tail _ (.head _))) oL h233) ?_
      rintro _ w234 ⟨s235, rfl, hM⟩
      replace hM : St ⟨w, X, S⟩ [oC (cSl 1 fI r232) s235.v] [rV s_aB.v (cSl 1 fI aB), rV s_aA.v (cSl 1 fI aA)] _ := hM
      refine wv rfl (r_move rfl) ?_
      obtain ⟨r238, h239, hx⟩ := bind_some' hx
      refine w_call rfl rfl (hM.callO (l := []) fun X S oL hS hR hO => ct_laws_toIntS _ X S aB s_aB hS (hR _ (.head _)) oL h239) ?_
      rintro _ w240 ⟨s241, rfl, hM⟩
      replace hM : St ⟨w, X, S⟩ [oC (cSl 1 fI r238) s241.v, oC (cSl 1 fI r232) s235.v] [rV s_aB.v (cSl 1 fI aB), rV s_aA.v (cSl 1 fI aA)] _ := hM
      obtain ⟨r243, h244, hx⟩ := bind_some' hx
      refine w_call rfl rfl (hM.callO (l := []) fun X S oL hS hR hO => ct_spec_Diff _ X S r232 s235 r238 s241 hS (seeA hO (.tail _ (.head _))) (seeA hO (.head _)) oL h244) ?_
      rintro _ w245 ⟨s246, rfl, hM⟩
      replace hM : St ⟨w, X, S⟩ [oC (cSl 3 fDPart r243.1) s246.v, oC (cSl 1 fI r238) s241.v, oC (cSl 1 fI r232) s235.v] [rV s_aB.v (cSl 1 fI aB), rV s_aA.v (cSl 1 fI aA)] _ := hM
      refine wv rfl (r_move rfl) ?_
      refine wv rfl (r_extract rfl rfl) ?_
      refine wv rfl (r_extract rfl rfl) ?_
      refine wv rfl (r_assign rfl) ?_
      refine wv rfl (r_assign rfl) ?_
      refine wl_nil ?_
      refine sq_n ?_
      refine wc_seq ?_
      refine wc_region ?_
      refine wv rfl (r_move rfl) ?_
      obtain ⟨r254, h255, hx⟩ := bind_some' hx
      refine w_call rfl rfl (hM.callO (l := []) fun X S oL hS hR hO => ct_laws_toIntS _ X S aA s_aA hS (hR _ (.tail _ (.head _))) oL h255) ?_
      rintro _ w256 ⟨s257, rfl, hM⟩
      replace hM : St ⟨w, X, S⟩ [oC (cSl 1 fI r254) s257.v, oC (cSl 3 fDPart r243.1) s246.v, oC (cSl 1 fI r238) s241.v, oC (cSl 1 fI r232) s235.v] [rV s_aB.v (cSl 1 fI aB), rV s_aA.v (cSl 1 fI aA)] _ := hM
      refine wv rfl (r_assign rfl) ?_
      refine wl_nil ?_
      refine sq_n ?_
      refine wc_seq ?_
      refine wc_region ?_
      refine wv rfl (r_move rfl) ?_
      obtain ⟨r261, h262, hx⟩ := bind_some' hx
      refine w_call rfl rfl (hM.callO (l := []) fun X S oL hS hR hO => ct_laws_toIntS _ X S aB s_aB hS (hR _ (.head _)) oL h262) ?_
      rintro _ w263 ⟨s264, rfl, hM⟩
      replace hM : St ⟨w, X, S⟩ [oC (cSl 1 fI r261) s264.v, oC (cSl 1 fI r254) s257.v, oC (cSl 3 fDPart r243.1) s246.v, oC (cSl 1 fI r238) s241.v, oC (cSl 1 fI r232) s235.v] [rV s_aB.v (cSl 1 fI aB), rV s_aA.v (cSl 1 fI aA)] _ := hM
      refine wv rfl (r_assign rfl) ?_
      refine wl_nil ?_
      refine sq_n ?_
      refine wc_seq ?_
      refine wc_region ?_
      refine wv rfl (r_move rfl) ?_
      refine wv rfl (r_move rfl) ?_
      obtain ⟨r269, h270, hx⟩ := bind_some' hx
      refine w_call rfl rfl (hM.callO (l := []) fun X S oL hS hR hO => ct_impl_Diff _ X S r254 s257 r261 s264 hS (seeA hO (.tail _ (.head _))) (seeA hO (.head _)) oL h270) ?_
      rintro _ w271 ⟨s272, rfl, hM⟩
      replace hM : St ⟨w, X, S⟩ [oC (cSl 3 fDPart r269.1) s272.v, oC (cSl 1 fI r261) s264.v, oC (cSl 1 fI r254) s257.v, oC (cSl 3 fDPart r243.1) s246.v, oC (cSl 1 fI r238) s241.v, oC (cSl 1 fI r232) s235.v] [rV s_aB.v (cSl 1 fI aB), rV s_aA.v (cSl 1 fI aA)] _ := hM
      refine wv rfl (r_move rfl) ?_
      refine wv rfl (r_extract rfl rfl) ?_
      refine wv rfl (r_extract rfl rfl) ?_
      refine wv rfl (r_assign rfl) ?_
      refine wv rfl (r_assign rfl) ?_
      refine wl_nil ?_
      refine sq_n ?_
      refine wc_seq ?_
      refine wc_seq ?_
      refine wc_region ?_
      refine wv rfl (r_move rfl) ?_
      refine wv rfl (r_move rfl) ?_
      obtain ⟨r281, h282, hx⟩ := bind_some' hx
      refine w_call rfl rfl (hM.callV fun X S oL hS hR hO => ct_laws_eqPartS _ X S r269.1 s272 r243.1 s246 hS (seeA hO (.head _)) (seeA hO (.tail _ (.tail _ (.tail _ (.head _))))) oL h282) ?_
      rintro _ w283 ⟨rfl, hR284⟩
      have hM := hM.call hR284
      refine wv rfl (r_not rfl) ?_
      refine wv rfl (r_move rfl) ?_
      obtain ⟨c287, hx, hx292⟩ := bind_some' hx
      refine wl_mid 4 (fun _ : Unit => [(48, (.bool c287)), (0, s_aA.v), (1, s_aB.v), (5, s246.v), (6, (.bool r243.2)), (7, s257.v), (8, s264.v), (9, s272.v), (10, (.bool r269.2))]) (fun _ w' => St ⟨w, X, S⟩ [oC (cSl 3 fDPart r269.1) s272.v, oC (cSl 1 fI r261) s264.v, oC (cSl 1 fI r254) s257.v, oC (cSl 3 fDPart r243.1) s246.v, oC (cSl 1 fI r238) s241.v, oC (cSl 1 fI r232) s235.v] [rV s_aB.v (cSl 1 fI aB), rV s_aA.v (cSl 1 fI aA)] w') ?_ ?_
      · rcases Bool.eq_false_or_eq_true (!r281) with hg288 | hg288
        · replace hx := xif_t hg288 hx
          refine gs rfl (isB_no hg288) rfl ?_
          refine gs rfl (isB_no hg288) rfl ?_
          refine gs rfl (isB_no hg288) rfl ?_
          refine wv rfl (p_t rfl hg288 rfl) ?_
          obtain rfl := Option.some.inj hx
          exact mid_nil () ⟨rfl, rfl, rfl, rfl, rfl, rfl, rfl, rfl, rfl, trivial⟩ hM
        · replace hx := xif_f hg288 hx
          refine gv rfl hg288 rfl (r_move rfl) ?_
          refine gv rfl hg288 rfl (r_move rfl) ?_
          refine gv rfl hg288 rfl (r_neqb Try.underlying4 rfl rfl) ?_
          refine wv rfl (p_f rfl hg288 rfl) ?_
          obtain rfl := Option.some.inj hx
          exact mid_nil () ⟨rfl, rfl, rfl, rfl, rfl, rfl, rfl, rfl, rfl, trivial⟩ hM
      rintro _ w296 hM
      replace hx := hx292
      refine wl_nil ?_
      refine sq_n ?_
      refine wc_cond rfl (fun hc297 => ?_) (fun hc297 => ?_)
      · replace hx := xif_t hc297 hx
        refine wc_seq ?_
        refine wc_region ?_
        refine wv rfl (r_assign rfl) ?_
        refine wl_nil ?_
        refine sq_n ?_
        refine wc_ret ?_
        refine sq_ret ?_
        obtain rfl := Option.some.inj hx
        refine fin_ret [(.bool false)] ⟨rfl, trivial⟩ ?_
        replace hM : St ⟨w, X, S⟩ [] [rV s_aB.v (cSl 1 fI aB), rV s_aA.v (cSl 1 fI aA)] _ := hM.tk 0
        have hM := hM.fewer rsN
        exact ⟨(), rfl, hM.gives⟩
      · replace hx := xif_f hc297 hx
        refine wc_skip ?_
        refine sq_n ?_
        refine wc_seq ?_
        refine wc_seq ?_
        refine wc_region ?_
        refine wv rfl (r_move rfl) ?_
        refine wv rfl (r_move rfl) ?_
        obtain ⟨r301, h302, hx⟩ := bind_some' hx
        refine w_call rfl rfl (hM.callO (l := []) fun X S oL hS hR hO => ct_laws_toIntS _ X S aA s_aA hS (hR _ (.tail _ (.head _))) oL h302) ?_
        rintro _ w303 ⟨s304, rfl, hM⟩
        replace hM : St ⟨w, X, S⟩ [oC (cSl 1 fI r301) s304.v, oC (cSl 3 fDPart r269.1) s272.v, oC (cSl 1 fI r261) s264.v, oC (cSl 1 fI r254) s257.v, oC (cSl 3 fDPart r243.1) s246.v, oC (cSl 1 fI r238) s241.v, oC (cSl 1 fI r232) s235.v] [rV s_aB.v (cSl 1 fI aB), rV s_aA.v (cSl 1 fI aA)] _ := hM
        obtain ⟨r306, h307, hx⟩ := bind_some' hx
        refine w_call rfl rfl (hM.callV fun X S oL hS hR hO => ct_laws_eqIntS _ X S r254 s257 r301 s304 hS (seeA hO (.tail _ (.tail _ (.tail _ (.head _))))) (seeA hO (.head _)) oL h307) ?_
        rintro _ w308 ⟨rfl, hR309⟩
        have hM := hM.call hR309
        refine wv rfl (r_not rfl) ?_
        refine wl_nil ?_
        refine sq_n ?_
        refine wc_cond rfl (fun hc311 => ?_) (fun hc311 => ?_)
        · replace hx := xif_t hc311 hx
          refine wc_seq ?_
          refine wc_region ?_
          refine wv rfl (r_assign rfl) ?_
          refine wl_nil ?_
          refine sq_n ?_
          refine wc_ret ?_
          refine sq_ret ?_
          obtain rfl := Option.some.inj hx
          refine fin_ret [(.bool false)] ⟨rfl, trivial⟩ ?_
          replace hM : St ⟨w, X, S⟩ [] [rV s_aB.v (cSl 1 fI aB), rV s_aA.v (cSl 1 fI aA)] _ := hM.tk 0
          have hM := hM.fewer rsN
          exact ⟨(), rfl, hM.gives⟩
        · replace hx := xif_f hc311 hx
          refine wc_skip ?_
          refine sq_n ?_
          refine wc_seq ?_
          refine wc_seq ?_
          refine wc_region ?_
          refine wv rfl (r_move rfl) ?_
          refine wv rfl (r_move rfl) ?_
          obtain ⟨r315, h316, hx⟩ := bind_some' hx
          refine w_call rfl rfl (hM.callO (l := []) fun X S oL hS hR hO => ct_laws_toIntS _ X S aB s_aB hS (hR _ (.head _)) oL h316) ?_
          rintro _ w317 ⟨s318, rfl, hM⟩
          replace hM : St ⟨w, X, S⟩ [oC (cSl 1 fI r315) s318.v, oC (cSl 1 fI r301) s304.v, oC (cSl 3 fDPart r269.1) s272.v, oC (cSl 1 fI r261) s264.v, oC (cSl 1 fI r254) s257.v, oC (cSl 3 fDPart r243.1) s246.v, oC (cSl 1 fI r238) s241.v, oC (cSl 1 fI r232) s235.v] [rV s_aB.v (cSl 1 fI aB), rV s_aA.v (cSl 1 fI aA)] _ := hM
          obtain ⟨r320, h321, hx⟩ := bind_some' hx
          refine w_call rfl rfl (hM.callV fun X S oL hS hR hO => ct_laws_eqIntS _ X S r261 s264 r315 s318 hS (seeA hO (.tail _ (.tail _ (.tail _ (.head _))))) (seeA hO (.head _)) oL h321) ?_
          rintro _ w322 ⟨rfl, hR323⟩
          have hM := hM.call hR323
          refine wv rfl (r_not rfl) ?_
          refine wl_nil ?_
          refine sq_n ?_
          refine wc_cond rfl (fun hc325 => ?_) (fun hc325 => ?_)
          · replace hx := xif_t hc325 hx
            refine wc_seq ?_
            refine wc_region ?_
            refine wv rfl (r_assign rfl) ?_
            refine wl_nil ?_
            refine sq_n ?_
            refine wc_ret ?_
            refine sq_ret ?_
            obtain rfl := Option.some.inj hx
            refine fin_ret [(.bool false)] ⟨rfl, trivial⟩ ?_
            replace hM : St ⟨w, X, S⟩ [] [rV s_aB.v (cSl 1 fI aB), rV s_aA.v (cSl 1 fI aA)] _ := hM.tk 0
            have hM := hM.fewer rsN
            exact ⟨(), rfl, hM.gives⟩
          · replace hx := xif_f hc325 hx
            refine wc_skip ?_
            refine sq_n ?_
            refine wc_seq ?_
            refine wc_region ?_
            refine wv rfl (r_assign rfl) ?_
            refine wl_nil ?_
            refine sq_n ?_
            refine wc_seq ?_
            refine wc_region ?_
            refine wv rfl (r_move rfl) ?_
            refine wv rfl (r_move rfl) ?_
            replace hM : St ⟨w, X, S⟩ [oC (cSl 1 fI r254) s257.v, oC (cSl 1 fI r315) s318.v, oC (cSl 1 fI r301) s304.v, oC (cSl 3 fDPart r269.1) s272.v, oC (cSl 1 fI r261) s264.v, oC (cSl 3 fDPart r243.1) s246.v, oC (cSl 1 fI r238) s241.v, oC (cSl 1 fI r232) s235.v] [rV s_aB.v (cSl 1 fI aB), rV s_aA.v (cSl 1 fI aA)] _ := hM.pl [4]
            obtain ⟨r330, h331, hx⟩ := bind_some' hx
            refine w_call rfl rfl (hM.callO (l := [oC (cSl 1 fI r254) s257.v]) fun X S oL hS hR hO => ct_laws_markIntS _ X S r254 s257 (1 : Int) hS  oL h331) ?_
            rintro _ w332 ⟨_, rfl, hM⟩
            replace hM : St ⟨w, X, S⟩ [oC (cSl 1 fI r330.2) s257.v, oC (cSl 1 fI r315) s318.v, oC (cSl 1 fI r301) s304.v, oC (cSl 3 fDPart r269.1) s272.v, oC (cSl 1 fI r261) s264.v, oC (cSl 3 fDPart r243.1) s246.v, oC (cSl 1 fI r238) s241.v, oC (cSl 1 fI r232) s235.v] [rV s_aB.v (cSl 1 fI aB), rV s_aA.v (cSl 1 fI aA)] _ := hM
            refine wv rfl (r_assign rfl) ?_
            refine wl_nil ?_
            refine sq_n ?_
            refine wc_seq ?_
            refine wc_region ?_
            refine wv rfl (r_move rfl) ?_
            refine wv rfl (r_move rfl) ?_
            replace hM : St ⟨w, X, S⟩ [oC (cSl 1 fI r261) s264.v, oC (cSl 1 fI r330.2) s257.v, oC (cSl 1 fI r315) s318.v, oC (cSl 1 fI r301) s304.v, oC (cSl 3 fDPart r269.1) s272.v, oC (cSl 3 fDPart r243.1) s246.v, oC (cSl 1 fI r238) s241.v, oC (cSl 1 fI r232) s235.v] [rV s_aB.v (cSl 1 fI aB), rV s_aA.v (cSl 1 fI aA)] _ := hM.pl [4]
            obtain ⟨r336, h337, hx⟩ := bind_some' hx
            refine w_call rfl rfl (hM.callO (l := [oC (cSl 1 fI r261) s264.v]) fun X S oL hS hR hO => ct_laws_markIntS _ X S r261 s264 r330.1 hS  oL h337) ?_
            rintro _ w338 ⟨_, rfl, hM⟩
            replace hM : St ⟨w, X, S⟩ [oC (cSl 1 fI r336.2) s264.v, oC (cSl 1 fI r330.2) s257.v, oC (cSl 1 fI r315) s318.v, oC (cSl 1 fI r301) s304.v, oC (cSl 3 fDPart r269.1) s272.v, oC (cSl 3 fDPart r243.1) s246.v, oC (cSl 1 fI r238) s241.v, oC (cSl 1 fI r232) s235.v] [rV s_aB.v (cSl 1 fI aB), rV s_aA.v (cSl 1 fI aA)] _ := hM
            refine wv rfl (r_assign rfl) ?_
            refine wl_nil ?_
            refine sq_n ?_
            refine wc_seq ?_
            refine wc_seq ?_
            refine wc_region ?_
            refine wv rfl (r_move rfl) ?_
            refine wv rfl (r_lss rfl rfl) ?_
            refine wv rfl (r_move rfl) ?_
            obtain ⟨c343, hx, hx352⟩ := bind_some' hx
            refine wl_mid 5 (fun _ : Unit => [(72, (.bool c343)), (0, s_aA.v), (1, s_aB.v), (5, s246.v), (6, (.bool r243.2)), (9, s272.v), (10, (.bool r269.2))]) (fun _ w' => St ⟨w, X, S⟩ [oC (cSl 1 fI r336.2) s264.v, oC (cSl 1 fI r330.2) s257.v, oC (cSl 1 fI r315) s318.v, oC (cSl 1 fI r301) s304.v, oC (cSl 3 fDPart r269.1) s272.v, oC (cSl 3 fDPart r243.1) s246.v, oC (cSl 1 fI r238) s241.v, oC (cSl 1 fI r232) s235.v] [rV s_aB.v (cSl 1 fI aB), rV s_aA.v (cSl 1 fI aA)] w') ?_ ?_
            · rcases Bool.eq_false_or_eq_true (decide (r336.1 < 0)) with hg344 | hg344
              · replace hx := xif_t hg344 hx
                refine gs rfl (isB_no hg344) rfl ?_
                refine gs rfl (isB_no hg344) rfl ?_
                refine gs rfl (isB_no hg344) rfl ?_
                refine gs rfl (isB_no hg344) rfl ?_
                refine wv rfl (p_t rfl hg344 rfl) ?_
                obtain rfl := Option.some.inj hx
                exact mid_nil () ⟨rfl, rfl, rfl, rfl, rfl, rfl, rfl, trivial⟩ hM
              · replace hx := xif_f hg344 hx
                refine gv rfl hg344 rfl (r_move rfl) ?_
                refine gv rfl hg344 rfl (r_move rfl) ?_
                obtain ⟨r355, h356, hx⟩ := bind_some' hx
                refine gc rfl hg344 rfl rfl (hM.callV fun X S oL hS hR hO => ct_laws_eqPartS _ X S r269.1 s272 r243.1 s246 hS (seeA hO (.tail _ (.tail _ (.tail _ (.tail _ (.head _)))))) (seeA hO (.tail _ (.tail _ (.tail _ (.tail _ (.tail _ (.head _))))))) oL h356) ?_
                rintro _ w357 ⟨rfl, hR358⟩
                have hM := hM.call hR358
                refine gv rfl hg344 rfl (r_not rfl) ?_
                refine wv rfl (p_f rfl hg344 rfl) ?_
                obtain rfl := Option.some.inj hx
                exact mid_nil () ⟨rfl, rfl, rfl, rfl, rfl, rfl, rfl, trivial⟩ hM
            rintro _ w360 hM
            replace hx := hx352
            refine wv rfl (r_move rfl) ?_
            obtain ⟨c362, hx, hx367⟩ := bind_some' hx
            refine wl_mid 4 (fun _ : Unit => [(77, (.bool c362)), (0, s_aA.v), (1, s_aB.v), (5, s246.v), (6, (.bool r243.2)), (9, s272.v)]) (fun _ w' => St ⟨w, X, S⟩ [oC (cSl 1 fI r336.2) s264.v, oC (cSl 1 fI r330.2) s257.v, oC (cSl 1 fI r315) s318.v, oC (cSl 1 fI r301) s304.v, oC (cSl 3 fDPart r269.1) s272.v, oC (cSl 3 fDPart r243.1) s246.v, oC (cSl 1 fI r238) s241.v, oC (cSl 1 fI r232) s235.v] [rV s_aB.v (cSl 1 fI aB), rV s_aA.v (cSl 1 fI aA)] w') ?_ ?_
            · rcases Bool.eq_false_or_eq_true c343 with hg363 | hg363
              · replace hx := xif_t hg363 hx
                refine gs rfl (isB_no hg363) rfl ?_
                refine gs rfl (isB_no hg363) rfl ?_
                refine gs rfl (isB_no hg363) rfl ?_
                refine wv rfl (p_t rfl hg363 rfl) ?_
                obtain rfl := Option.some.inj hx
                exact mid_nil () ⟨rfl, rfl, rfl, rfl, rfl, rfl, trivial⟩ hM
              · replace hx := xif_f hg363 hx
                refine gv rfl hg363 rfl (r_move rfl) ?_
                refine gv rfl hg363 rfl (r_move rfl) ?_
                refine gv rfl hg363 rfl (r_neqb Try.underlying4 rfl rfl) ?_
                refine wv rfl (p_f rfl hg363 rfl) ?_
                obtain rfl := Option.some.inj hx
                exact mid_nil () ⟨rfl, rfl, rfl, rfl, rfl, rfl, trivial⟩ hM
            rintro _ w371 hM
            replace hx := hx367
            refine wl_nil ?_
            refine sq_n ?_
            refine wc_cond rfl (fun hc372 => ?_) (fun hc372 => ?_)
            · replace hx := xif_t hc372 hx
              refine wc_seq ?_
              refine wc_region ?_
              refine wv rfl (r_assign rfl) ?_
              refine wl_nil ?_
              refine sq_n ?_
              refine wc_ret ?_
              refine sq_ret ?_
              obtain rfl := Option.some.inj hx
              refine fin_ret [(.bool false)] ⟨rfl, trivial⟩ ?_
              replace hM : St ⟨w, X, S⟩ [] [rV s_aB.v (cSl 1 fI aB), rV s_aA.v (cSl 1 fI aA)] _ := hM.tk 0
              have hM := hM.fewer rsN
              exact ⟨(), rfl, hM.gives⟩
            · replace hx := xif_f hc372 hx
              refine wc_skip ?_
              refine sq_n ?_
              refine wc_seq ?_
              refine wc_region ?_
              refine wv rfl (r_assign rfl) ?_
              refine wl_nil ?_
              refine sq_n ?_
              refine wc_seq ?_
              refine wc_region ?_
              refine wv rfl (r_move rfl) ?_
              refine wv rfl (r_move rfl) ?_
              replace hM : St ⟨w, X, S⟩ [oC (cSl 3 fDPart r269.1) s272.v, oC (cSl 1 fI r336.2) s264.v, oC (cSl 1 fI r330.2) s257.v, oC (cSl 1 fI r315) s318.v, oC (cSl 1 fI r301) s304.v, oC (cSl 3 fDPart r243.1) s246.v, oC (cSl 1 fI r238) s241.v, oC (cSl 1 fI r232) s235.v] [rV s_aB.v (cSl 1 fI aB), rV s_aA.v (cSl 1 fI aA)] _ := hM.pl [4]
              obtain ⟨r377, h378, hx⟩ := bind_some' hx
              refine w_call rfl rfl (hM.callO (l := [oC (cSl 3 fDPart r269.1) s272.v]) fun X S oL hS hR hO => ct_laws_markPartS _ X S r269.1 s272 (1 : Int) hS  oL h378) ?_
              rintro _ w379 ⟨_, rfl, hM⟩
              replace hM : St ⟨w, X, S⟩ [oC (cSl 3 fDPart r377.2) s272.v, oC (cSl 1 fI r336.2) s264.v, oC (cSl 1 fI r330.2) s257.v, oC (cSl 1 fI r315) s318.v, oC (cSl 1 fI r301) s304.v, oC (cSl 3 fDPart r243.1) s246.v, oC (cSl 1 fI r238) s241.v, oC (cSl 1 fI r232) s235.v] [rV s_aB.v (cSl 1 fI aB), rV s_aA.v (cSl 1 fI aA)] _ := hM
              refine wv rfl (r_assign rfl) ?_
              refine wl_nil ?_
              refine sq_n ?_
              refine wc_seq ?_
              refine wc_region ?_
              refine wv rfl (r_assign rfl) ?_
              refine wl_nil ?_
              refine sq_n ?_
              refine wc_seq ?_
              refine wc_region ?_
              refine wv rfl (r_move rfl) ?_
              refine wv rfl (r_move rfl) ?_
              obtain ⟨r384, h385, hx⟩ := bind_some' hx
              refine w_call rfl rfl (hM.callV fun X S oL hS hR hO => ct_laws_heldPartS _ X S r377.2 s272 (1 : Int) hS (seeA hO (.head _)) oL h385) ?_
              rintro _ w386 ⟨rfl, hR387⟩
              have hM := hM.call hR387
              refine wv rfl (r_assign rfl) ?_
              refine wl_nil ?_
              refine sq_n ?_
              refine wc_seq ?_
              refine wc_seq ?_
              refine wc_region ?_
              refine wv rfl (r_move rfl) ?_
              refine wv rfl (r_lss rfl rfl) ?_
              refine wl_nil ?_
              refine sq_n ?_
              refine wc_cond rfl (fun hc391 => ?_) (fun hc391 => ?_)
              · replace hx := xif_t hc391 hx
                refine wc_seq ?_
                refine wc_region ?_
                refine wv rfl (r_assign rfl) ?_
                refine wl_nil ?_
                refine sq_n ?_
                refine wc_ret ?_
                refine sq_ret ?_
                obtain rfl := Option.some.inj hx
                refine fin_ret [(.bool false)] ⟨rfl, trivial⟩ ?_
                replace hM : St ⟨w, X, S⟩ [] [rV s_aB.v (cSl 1 fI aB), rV s_aA.v (cSl 1 fI aA)] _ := hM.tk 0
                have hM := hM.fewer rsN
                exact ⟨(), rfl, hM.gives⟩
              · replace hx := xif_f hc391 hx
                refine wc_skip ?_
                refine sq_n ?_
                refine wc_seq ?_
                refine wc_seq ?_
                refine wc_region ?_
                refine wv rfl (r_move rfl) ?_
                refine wv rfl (r_move rfl) ?_
                refine wv rfl (r_neq rfl rfl) ?_
                refine wl_nil ?_
                refine sq_n ?_
                refine wc_cond rfl (fun hc396 => ?_) (fun hc396 => ?_)
                · replace hx := xif_t hc396 hx
                  refine wc_seq ?_
                  refine wc_region ?_
                  refine wv rfl (r_assign rfl) ?_
                  refine wl_nil ?_
                  refine sq_n ?_
                  refine wc_ret ?_
                  refine sq_ret ?_
                  obtain rfl := Option.some.inj hx
                  refine fin_ret [(.bool false)] ⟨rfl, trivial⟩ ?_
                  replace hM : St ⟨w, X, S⟩ [] [rV s_aB.v (cSl 1 fI aB), rV s_aA.v (cSl 1 fI aA)] _ := hM.tk 0
                  have hM := hM.fewer rsN
                  exact ⟨(), rfl, hM.gives⟩
                · replace hx := xif_f hc396 hx
                  refine wc_skip ?_
                  refine sq_n ?_
                  refine wc_seq ?_
                  refine wc_region ?_
                  refine wv rfl (r_move rfl) ?_
                  obtain ⟨r399, h400, hx⟩ := bind_some' hx
                  refine w_call rfl rfl (hM.callO (l := []) fun X S oL hS hR hO => ct_laws_toIntS _ X S aA s_aA hS (hR _ (.tail _ (.head _))) oL h400) ?_
                  rintro _ w401 ⟨s402, rfl, hM⟩
                  replace hM : St ⟨w, X, S⟩ [oC (cSl 1 fI r399) s402.v, oC (cSl 3 fDPart r377.2) s272.v, oC (cSl 1 fI r336.2) s264.v, oC (cSl 1 fI r330.2) s257.v, oC (cSl 1 fI r315) s318.v, oC (cSl 1 fI r301) s304.v, oC (cSl 3 fDPart r243.1) s246.v, oC (cSl 1 fI r238) s241.v, oC (cSl 1 fI r232) s235.v] [rV s_aB.v (cSl 1 fI aB), rV s_aA.v (cSl 1 fI aA)] _ := hM
                  refine wv rfl (r_move rfl) ?_
                  obtain ⟨r405, h406, hx⟩ := bind_some' hx
                  refine w_call rfl rfl (hM.callO (l := []) fun X S oL hS hR hO => ct_laws_toIntS _ X S aB s_aB hS (hR _ (.head _)) oL h406) ?_
                  rintro _ w407 ⟨s408, rfl, hM⟩
                  replace hM : St ⟨w, X, S⟩ [oC (cSl 1 fI r405) s408.v, oC (cSl 1 fI r399) s402.v, oC (cSl 3 fDPart r377.2) s272.v, oC (cSl 1 fI r336.2) s264.v, oC (cSl 1 fI r330.2) s257.v, oC (cSl 1 fI r315) s318.v, oC (cSl 1 fI r301) s304.v, oC (cSl 3 fDPart r243.1) s246.v, oC (cSl 1 fI r238) s241.v, oC (cSl 1 fI r232) s235.v] [rV s_aB.v (cSl 1 fI aB), rV s_aA.v (cSl 1 fI aA)] _ := hM
                  obtain ⟨r410, h411, hx⟩ := bind_some' hx
                  refine w_call rfl rfl (hM.callO (l := []) fun X S oL hS hR hO => ct_impl_Diff _ X S r399 s402 r405 s408 hS (seeA hO (.tail _ (.head _))) (seeA hO (.head _)) oL h411) ?_
                  rintro _ w412 ⟨s413, rfl, hM⟩
                  replace hM : St ⟨w, X, S⟩ [oC (cSl 3 fDPart r410.1) s413.v, oC (cSl 1 fI r405) s408.v, oC (cSl 1 fI r399) s402.v, oC (cSl 3 fDPart r377.2) s272.v, oC (cSl 1 fI r336.2) s264.v, oC (cSl 1 fI r330.2) s257.v, oC (cSl 1 fI r315) s318.v, oC (cSl 1 fI r301) s304.v, oC (cSl 3 fDPart r243.1) s246.v, oC (cSl 1 fI r238) s241.v, oC (cSl 1 fI r232) s235.v] [rV s_aB.v (cSl 1 fI aB), rV s_aA.v (cSl 1 fI aA)] _ := hM
                  refine wv rfl (r_move rfl) ?_
                  refine wv rfl (r_extract rfl rfl) ?_
                  refine wv rfl (r_extract rfl rfl) ?_
                  refine wv rfl (r_assign rfl) ?_
                  refine wv rfl (r_assign rfl) ?_
                  refine wl_nil ?_
                  refine sq_n ?_
                  refine wc_seq ?_
                  refine wc_seq ?_
                  refine wc_region ?_
                  refine wv rfl (r_move rfl) ?_
                  refine wv rfl (r_move rfl) ?_
                  obtain ⟨r422, h423, hx⟩ := bind_some' hx
                  refine w_call rfl rfl (hM.callV fun X S oL hS hR hO => ct_laws_eqPartS _ X S r410.1 s413 r243.1 s246 hS (seeA hO (.head _)) (seeA hO (.tail _ (.tail _ (.tail _ (.tail _ (.tail _ (.tail _ (.tail _ (.tail _ (.head _)))))))))) oL h423) ?_
                  rintro _ w424 ⟨rfl, hR425⟩
                  have hM := hM.call hR425
                  refine wv rfl (r_not rfl) ?_
                  refine wv rfl (r_move rfl) ?_
                  obtain ⟨c428, hx, hx433⟩ := bind_some' hx
                  refine wl_mid 4 (fun _ : Unit => [(105, (.bool c428)), (9, s272.v), (12, (.int .i64 r377.1))]) (fun _ w' => St ⟨w, X, S⟩ [oC (cSl 3 fDPart r410.1) s413.v, oC (cSl 1 fI r405) s408.v, oC (cSl 1 fI r399) s402.v, oC (cSl 3 fDPart r377.2) s272.v, oC (cSl 1 fI r336.2) s264.v, oC (cSl 1 fI r330.2) s257.v, oC (cSl 1 fI r315) s318.v, oC (cSl 1 fI r301) s304.v, oC (cSl 3 fDPart r243.1) s246.v, oC (cSl 1 fI r238) s241.v, oC (cSl 1 fI r232) s235.v] [rV s_aB.v (cSl 1 fI aB), rV s_aA.v (cSl 1 fI aA)] w') ?_ ?_
                  · rcases Bool.eq_false_or_eq_true (!r422) with hg429 | hg429
                    · replace hx := xif_t hg429 hx
                      refine gs rfl (isB_no hg429) rfl ?_
                      refine gs rfl (isB_no hg429) rfl ?_
                      refine gs rfl (isB_no hg429) rfl ?_
                      refine wv rfl (p_t rfl hg429 rfl) ?_
                      obtain rfl := Option.some.inj hx
                      exact mid_nil () ⟨rfl, rfl, rfl, trivial⟩ hM
                    · replace hx := xif_f hg429 hx
                      refine gv rfl hg429 rfl (r_move rfl) ?_
                      refine gv rfl hg429 rfl (r_move rfl) ?_
                      refine gv rfl hg429 rfl (r_neqb Try.underlying4 rfl rfl) ?_
                      refine wv rfl (p_f rfl hg429 rfl) ?_
                      obtain rfl := Option.some.inj hx
                      exact mid_nil () ⟨rfl, rfl, rfl, trivial⟩ hM
                  rintro _ w437 hM
                  replace hx := hx433
                  refine wl_nil ?_
                  refine sq_n ?_
                  refine wc_cond rfl (fun hc438 => ?_) (fun hc438 => ?_)
                  · replace hx := xif_t hc438 hx
                    refine wc_seq ?_
                    refine wc_region ?_
                    refine wv rfl (r_assign rfl) ?_
                    refine wl_nil ?_
                    refine sq_n ?_
                    refine wc_ret ?_
                    refine sq_ret ?_
                    obtain rfl := Option.some.inj hx
                    refine fin_ret [(.bool false)] ⟨rfl, trivial⟩ ?_
                    replace hM : St ⟨w, X, S⟩ [] [rV s_aB.v (cSl 1 fI aB), rV s_aA.v (cSl 1 fI aA)] _ := hM.tk 0
                    have hM := hM.fewer rsN
                    exact ⟨(), rfl, hM.gives⟩
                  · replace hx := xif_f hc438 hx
                    refine wc_skip ?_
                    refine sq_n ?_
                    refine wc_seq ?_
                    refine wc_region ?_
                    refine wv rfl (r_assign rfl) ?_
                    refine wl_nil ?_
                    refine sq_n ?_
                    refine wc_seq ?_
                    refine wc_region ?_
                    refine wv rfl (r_move rfl) ?_
                    refine wv rfl (r_move rfl) ?_
                    obtain ⟨r443, h444, hx⟩ := bind_some' hx
                    refine w_call rfl rfl (hM.callV fun X S oL hS hR hO => ct_laws_heldPartS _ X S r377.2 s272 (1 : Int) hS (seeA hO (.tail _ (.tail _ (.tail _ (.head _))))) oL h444) ?_
                    rintro _ w445 ⟨rfl, hR446⟩
                    have hM := hM.call hR446
                    refine wv rfl (r_assign rfl) ?_
                    refine wl_nil ?_
                    refine sq_n ?_
                    refine wc_seq ?_
                    refine wc_seq ?_
                    refine wc_region ?_
                    refine wv rfl (r_move rfl) ?_
                    refine wv rfl (r_lss rfl rfl) ?_
                    refine wl_nil ?_
                    refine sq_n ?_
                    refine wc_cond rfl (fun hc450 => ?_) (fun hc450 => ?_)
                    · replace hx := xif_t hc450 hx
                      refine wc_seq ?_
                      refine wc_region ?_
                      refine wv rfl (r_assign rfl) ?_
                      refine wl_nil ?_
                      refine sq_n ?_
                      refine wc_ret ?_
                      refine sq_ret ?_
                      obtain rfl := Option.some.inj hx
                      refine fin_ret [(.bool false)] ⟨rfl, trivial⟩ ?_
                      replace hM : St ⟨w, X, S⟩ [] [rV s_aB.v (cSl 1 fI aB), rV s_aA.v (cSl 1 fI aA)] _ := hM.tk 0
                      have hM := hM.fewer rsN
                      exact ⟨(), rfl, hM.gives⟩
                    · replace hx := xif_f hc450 hx
                      refine wc_skip ?_
                      refine sq_n ?_
                      refine wc_seq ?_
                      refine wc_seq ?_
                      refine wc_region ?_
                      refine wv rfl (r_move rfl) ?_
                      refine wv rfl (r_move rfl) ?_
                      refine wv rfl (r_neq rfl rfl) ?_
                      refine wl_nil ?_
                      refine sq_n ?_
                      refine wc_cond rfl (fun hc455 => ?_) (fun hc455 => ?_)
                      · replace hx := xif_t hc455 hx
                        refine wc_seq ?_
                        refine wc_region ?_
                        refine wv rfl (r_assign rfl) ?_
                        refine wl_nil ?_
                        refine sq_n ?_
                        refine wc_ret ?_
                        refine sq_ret ?_
                        obtain rfl := Option.some.inj hx
                        refine fin_ret [(.bool false)] ⟨rfl, trivial⟩ ?_
                        replace hM : St ⟨w, X, S⟩ [] [rV s_aB.v (cSl 1 fI aB), rV s_aA.v (cSl 1 fI aA)] _ := hM.tk 0
                        have hM := hM.fewer rsN
                        exact ⟨(), rfl, hM.gives⟩
                      · replace hx := xif_f hc455 hx
                        refine wc_skip ?_
                        refine sq_n ?_
                        refine wc_seq ?_
                        refine wc_region ?_
                        refine wv rfl (r_assign rfl) ?_
                        refine wl_nil ?_
                        refine sq_n ?_
                        refine wc_ret ?_
                        obtain rfl := Option.some.inj hx
                        refine fin_ret [(.bool true)] ⟨rfl, trivial⟩ ?_
                        replace hM : St ⟨w, X, S⟩ [] [rV s_aB.v (cSl 1 fI aB), rV s_aA.v (cSl 1 fI aA)] _ := hM.tk 0
                        have hM := hM.fewer rsN
                        exact ⟨(), rfl, hM.gives⟩

noncomputable def x_laws_FnExactCommon (aA : List Int) (aB : List Int) : Option Bool :=
  bif decide ((1048576 : Int) < (aA.length : Int)) then (some true) else (bif decide ((1048576 : Int) < (aB.length : Int)) then (some true) else (Option.bind (x_laws_toIntS aA) fun r11 => Option.bind (x_laws_toIntS aB) fun r17 => Option.bind (x_spec_Common r11 r17) fun r22 => Option.bind (x_laws_toIntS aA) fun r29 => Option.bind (x_laws_toIntS aB) fun r36 => Option.bind (x_impl_Common r29 r36) fun r44 => Option.bind (x_laws_eqIntS r44 r22) fun r52 => bif !r52 then (some false) else (Option.bind (x_laws_toIntS aA) fun r60 => Option.bind (x_laws_eqIntS r29 r60) fun r65 => bif !r65 then (some false) else (Option.bind (x_laws_toIntS aB) fun r73 => Option.bind (x_laws_eqIntS r36 r73) fun r78 => bif !r78 then (some false) else (Option.bind (x_laws_markIntS r29 1) fun r87 => Option.bind (x_laws_markIntS r36 r87.1) fun r93 => Option.bind (bif decide (r93.1 < 0) then (some true) else (Option.bind (x_laws_eqIntS r44 r22) fun r111 => some (!r111))) fun c100 => bif c100 then (some false) else (Option.bind (x_laws_markIntS r44 1) fun r120 => Option.bind (x_laws_heldIntS r120.2 1) fun r127 => bif decide (r127 < 0) then (some false) else (bif !decide (r127 = r120.1) then (some false) else (Option.bind (x_laws_toIntS aA) fun r140 => Option.bind (x_laws_toIntS aB) fun r146 => Option.bind (x_impl_Common r140 r146) fun r151 => Option.bind (x_laws_eqIntS r151 r22) fun r159 => bif !r159 then (some false) else (Option.bind (x_laws_heldIntS r120.2 1) fun r168 => bif decide (r168 < 0) then (some false) else (bif !decide (r168 = r120.1) then (some false) else (some true)))))))))))
theorem ct_laws_FnExactCommon (w : World) (X S : Bs) (aA : List Int) (s_aA : Sv) (aB : List Int) (s_aB : Sv) (hS : ∀ b, S b → b < w.heap.size ∧ ¬ X b) (a_aA_0 : (cSl 1 fI aA).rd S w s_aA.v) (a_aB_0 : (cSl 1 fI aB).rd S w s_aB.v) (oL : Sep [] X w) {r : Bool} (hx : x_laws_FnExactCommon aA aB = some r) :
    Ret Try.prog 4 [s_aA.v, s_aB.v] w (fun u w' => ∃ _ : Unit, u = (.bool r) ∧ Gives X S w [] [] w') := by
  unfold x_laws_FnExactCommon at hx
  refine enter Try.func4 rfl Try.ntmps4 (by kernel_rfl) rfl ?_
  have hM := St.enter oL hS
  have hM := hM.addE (r := rV s_aA.v (cSl 1 fI aA)) a_aA_0
  have hM := hM.addE (r := rV s_aB.v (cSl 1 fI aB)) a_aB_0
  refine wc_seq ?_
  refine wc_region ?_
  refine wv rfl (r_assign rfl) ?_
  refine wl_nil ?_
  refine sq_n ?_
  refine wc_seq ?_
  refine wc_seq ?_
  refine wc_region ?_
  refine wv rfl (r_move rfl) ?_
  refine wv rfl (r_lenC Try.underlying22 rfl (hM.seeR (.tail _ (.head _)))) ?_
  refine wv rfl (r_gtr rfl rfl) ?_
  refine wl_nil ?_
  refine sq_n ?_
  refine wc_cond rfl (fun hc185 => ?_) (fun hc185 => ?_)
  · replace hx := xif_t hc185 hx
    refine wc_seq ?_
    refine wc_region ?_
    refine wv rfl (r_assign rfl) ?_
    refine wl_nil ?_
    refine sq_n ?_
    refine wc_ret ?_
    refine sq_ret ?_
    obtain rfl := Option.some.inj hx
    refine fin_ret [(.bool true)] ⟨rfl, trivial⟩ ?_
    replace hM : St ⟨w, X, S⟩ [] [rV s_aB.v (cSl 1 fI aB), rV s_aA.v (cSl 1 fI aA)] _ := hM.tk 0
    have hM := hM.fewer rsN
    exact ⟨(), rfl, hM.gives⟩
  · replace hx := xif_f hc185 hx
    refine wc_skip ?_
    refine sq_n ?_
    refine wc_seq ?_
    refine wc_seq ?_
    refine wc_region ?_
    refine wv rfl (r_move rfl) ?_
    refine wv rfl (r_lenC Try.underlying22 rfl (hM.seeR (.head _))) ?_
    refine wv rfl (r_gtr rfl rfl) ?_
    refine wl_nil ?_
    refine sq_n ?_
    refine wc_cond rfl (fun hc190 => ?_) (fun hc190 => ?_)
    · replace hx := xif_t hc190 hx
      refine wc_seq ?_
      refine wc_region ?_
      refine wv rfl (r_assign rfl) ?_
      refine wl_nil ?_
      refine sq_n ?_
      refine wc_ret ?_
      refine sq_ret ?_
      obtain rfl := Option.some.inj hx
      refine fin_ret [(.bool true)] ⟨rfl, trivial⟩ ?_
      replace hM : St ⟨w, X, S⟩ [] [rV s_aB.v (cSl 1 fI aB), rV s_aA.v (cSl 1 fI aA)] _ := hM.tk 0
      have hM := hM.fewer rsN
      exact ⟨(), rfl, hM.gives⟩
    · replace hx := xif_f hc190 hx
      refine wc_skip ?_
      refine sq_n ?_
      refine wc_seq ?_
      refine wc_region ?_
      refine wv rfl (r_move rfl) ?_
      obtain ⟨r193, h194, hx⟩ := bind_some' hx
      refine w_call rfl rfl (hM.callO (l := []) fun X S oL hS hR hO => ct_laws_toIntS _ X S aA s_aA hS (hR _ (.tail _ (.head _))) oL h194) ?_
      rintro _ w195 ⟨s196, rfl, hM⟩
      replace hM : St ⟨w, X, S⟩ [oC (cSl 1 fI r193) s196.v] [rV s_aB.v (cSl 1 fI aB), rV s_aA.v (cSl 1 fI aA)] _ := hM
      refine wv rfl (r_move rfl) ?_
      obtain ⟨r199, h200, hx⟩ := bind_some' hx
      refine w_call rfl rfl (hM.callO (l := []) fun X S oL hS hR hO => ct_laws_toIntS _ X S aB s_aB hS (hR _ (.head _)) oL h200) ?_
      rintro _ w201 ⟨s202, rfl, hM⟩
      replace hM : St ⟨w, X, S⟩ [oC (cSl 1 fI r199) s202.v, oC (cSl 1 fI r193) s196.v] [rV s_aB.v (cSl 1 fI aB), rV s_aA.v (cSl 1 fI aA)] _ := hM
      obtain ⟨r204, h205, hx⟩ := bind_some' hx
      refine w_call rfl rfl (hM.callO (l := []) fun X S oL hS hR hO => ct_spec_Common _ X S r193 s196 r199 s202 hS (seeA hO (.tail _ (.head _))) (seeA hO (.head _)) oL h205) ?_
      rintro _ w206 ⟨s207, rfl, hM⟩
      replace hM : St ⟨w, X, S⟩ [oC (cSl 1 fI r204) s207.v, oC (cSl 1 fI r199) s202.v, oC (cSl 1 fI r193) s196.v] [rV s_aB.v (cSl 1 fI aB), rV s_aA.v (cSl 1 fI aA)] _ := hM
      refine wv rfl (r_assign rfl) ?_
      refine wl_nil ?_
      refine sq_n ?_
      refine wc_seq ?_
      refine wc_region ?_
      refine wv rfl (r_move rfl) ?_
      obtain ⟨r211, h212, hx⟩ := bind_some' hx
      refine w_call rfl rfl (hM.callO (l := []) fun X S oL hS hR hO => ct_laws_toIntS _ X S aA s_aA hS (hR _ (.tail _ (.head _))) oL h212) ?_
      rintro _ w213 ⟨s214, rfl, hM⟩
      replace hM : St ⟨w, X, S⟩ [oC (cSl 1 fI r211) s214.v, oC (cSl 1 fI r204) s207.v, oC (cSl 1 fI r199) s202.v, oC (cSl 1 fI r193) s196.v] [rV s_aB.v (cSl 1 fI aB), rV s_aA.v (cSl 1 fI aA)] _ := hM
      refine wv rfl (r_assign rfl) ?_
      refine wl_nil ?_
      refine sq_n ?_
      refine wc_seq ?_
      refine wc_region ?_
      refine wv rfl (r_move rfl) ?_
      obtain ⟨r218, h219, hx⟩ := bind_some' hx
      refine w_call rfl rfl (hM.callO (l := []) fun X S oL hS hR hO => ct_laws_toIntS _ X S aB s_aB hS (hR _ (.head _)) oL h219) ?_
      rintro _ w220 ⟨s221, rfl, hM⟩
      replace hM : St ⟨w, X, S⟩ [oC (cSl 1 fI r218) s221.v, oC (cSl 1 fI r211) s214.v, oC (cSl 1 fI r204) s207.v, oC (cSl 1 fI r199) s202.v, oC (cSl 1 fI r193) s196.v] [rV s_aB.v (cSl 1 fI aB), rV s_aA.v (cSl 1 fI aA)] _ := hM
      refine wv rfl (r_assign rfl) ?_
      refine wl_nil ?_
      refine sq_n ?_
      refine wc_seq ?_
      refine wc_region ?_
      refine wv rfl (r_move rfl) ?_
      refine wv rfl (r_move rfl) ?_
      obtain ⟨r226, h227, hx⟩ := bind_some' hx
      refine w_call rfl rfl (hM.callO (l := []) fun X S oL hS hR hO => ct_impl_Common _ X S r211 s214 r218 s221 hS (seeA hO (.tail _ (.head _))) (seeA hO (.head _)) oL h227) ?_
      rintro _ w228 ⟨s229, rfl, hM⟩
      replace hM : St ⟨w, X, S⟩ [oC (cSl 1 fI r226) s229.v, oC (cSl 1 fI r218) s221.v, oC (cSl 1 fI r211) s214.v, oC (cSl 1 fI r204) s207.v, oC (cSl 1 fI r199) s202.v, oC (cSl 1 fI r193) s196.v] [rV s_aB.v (cSl 1 fI aB), rV s_aA.v (cSl 1 fI aA)] _ := hM
      refine wv rfl (r_assign rfl) ?_
      refine wl_nil ?_
      refine sq_n ?_
      refine wc_seq ?_
      refine wc_seq ?_
      refine wc_region ?_
      refine wv rfl (r_move rfl) ?_
      refine wv rfl (r_move rfl) ?_
      obtain ⟨r234, h235, hx⟩ := bind_some' hx
      refine w_call rfl rfl (hM.callV fun X S oL hS hR hO => ct_laws_eqIntS _ X S r226 s229 r204 s207 hS (seeA hO (.head _)) (seeA hO (.tail _ (.tail _ (.tail _ (.head _))))) oL h235) ?_
      rintro _ w236 ⟨rfl, hR237⟩
      have hM := hM.call hR237
      refine wv rfl (r_not rfl) ?_
      refine wl_nil ?_
      refine sq_n ?_
      refine wc_cond rfl (fun hc239 => ?_) (fun hc239 => ?_)
      · replace hx := xif_t hc239 hx
        refine wc_seq ?_
        refine wc_region ?_
        refine wv rfl (r_assign rfl) ?_
        refine wl_nil ?_
        refine sq_n ?_
        refine wc_ret ?_
        refine sq_ret ?_
        obtain rfl := Option.some.inj hx
        refine fin_ret [(.bool false)] ⟨rfl, trivial⟩ ?_
        replace hM : St ⟨w, X, S⟩ [] [rV s_aB.v (cSl 1 fI aB), rV s_aA.v (cSl 1 fI aA)] _ := hM.tk 0
        have hM := hM.fewer rsN
        exact ⟨(), rfl, hM.gives⟩
      · replace hx := xif_f hc239 hx
        refine wc_skip ?_
        refine sq_n ?_
        refine wc_seq ?_
        refine wc_seq ?_
        refine wc_region ?_
        refine wv rfl (r_move rfl) ?_
        refine wv rfl (r_move rfl) ?_
        obtain ⟨r243, h244, hx⟩ := bind_some' hx
        refine w_call rfl rfl (hM.callO (l := []) fun X S oL hS hR hO => ct_laws_toIntS _ X S aA s_aA hS (hR _ (.tail _ (.head _))) oL h244) ?_
        rintro _ w245 ⟨s246, rfl, hM⟩
        replace hM : St ⟨w, X, S⟩ [oC (cSl 1 fI r243) s246.v, oC (cSl 1 fI r226) s229.v, oC (cSl 1 fI r218) s221.v, oC (cSl 1 fI r211) s214.v, oC (cSl 1 fI r204) s207.v, oC (cSl 1 fI r199) s202.v, oC (cSl 1 fI r193) s196.v] [rV s_aB.v (cSl 1 fI aB), rV s_aA.v (cSl 1 fI aA)] _ := hM
        obtain ⟨r248, h249, hx⟩ := bind_some' hx
        refine w_call rfl rfl (hM.callV fun X S oL hS hR hO => ct_laws_eqIntS _ X S r211 s214 r243 s246 hS (seeA hO (.tail _ (.tail _ (.tail _ (.head _))))) (seeA hO (.head _)) oL h249) ?_
        rintro _ w250 ⟨rfl, hR251⟩
        have hM := hM.call hR251
        refine wv rfl (r_not rfl) ?_
        refine wl_nil ?_
        refine sq_n ?_
        refine wc_cond rfl (fun hc253 => ?_) (fun hc253 => ?_)
        · replace hx := xif_t hc253 hx
          refine wc_seq ?_
          refine wc_region ?_
          refine wv rfl (r_assign rfl) ?_
          refine wl_nil ?_
          refine sq_n ?_
          refine wc_ret ?_
          refine sq_ret ?_
          obtain rfl := Option.some.inj hx
          refine fin_ret [(.bool false)] ⟨rfl, trivial⟩ ?_
          replace hM : St ⟨w, X, S⟩ [] [rV s_aB.v (cSl 1 fI aB), rV s_aA.v (cSl 1 fI aA)] _ := hM.tk 0
          have hM := hM.fewer rsN
          exact ⟨(), rfl, hM.gives⟩
        · replace hx := xif_f hc253 hx
          refine wc_skip ?_
          refine sq_n ?_
          refine wc_seq ?_
          refine wc_seq ?_
          refine wc_region ?_
          refine wv rfl (r_move rfl) ?_
          refine wv rfl (r_move rfl) ?_
          obtain ⟨r257, h258, hx⟩ := bind_some' hx
          refine w_call rfl rfl (hM.callO (l := []) fun X S oL hS hR hO => ct_laws_toIntS _ X S aB s_aB hS (hR _ (.head _)) oL h258) ?_
          rintro _ w259 ⟨s260, rfl, hM⟩
          replace hM : St ⟨w, X, S⟩ [oC (cSl 1 fI r257) s260.v, oC (cSl 1 fI r243) s246.v, oC (cSl 1 fI r226) s229.v, oC (cSl 1 fI r218) s221.v, oC (cSl 1 fI r211) s214.v, oC (cSl 1 fI r204) s207.v, oC (cSl 1 fI r199) s202.v, oC (cSl 1 fI r193) s196.v] [rV s_aB.v (cSl 1 fI aB), rV s_aA.v (cSl 1 fI aA)] _ := hM
          obtain ⟨r262, h263, hx⟩ := bind_some' hx
          refine w_call rfl rfl (hM.callV fun X S oL hS hR hO => ct_laws_eqIntS _ X S r218 s221 r257 s260 hS (seeA hO (.tail _ (.tail _ (.tail _ (.head _))))) (seeA hO (.head _)) oL h263) ?_
          rintro _ w264 ⟨rfl, hR265⟩
          have hM := hM.call hR265
          refine wv rfl (r_not rfl) ?_
          refine wl_nil ?_
          refine sq_n ?_
          refine wc_cond rfl (fun hc267 => ?_) (fun hc267 => ?_)
          · replace hx := xif_t hc267 hx
            refine wc_seq ?_
            refine wc_region ?_
            refine wv rfl (r_assign rfl) ?_
            refine wl_nil ?_
            refine sq_n ?_
            refine wc_ret ?_
            refine sq_ret ?_
            obtain rfl := Option.some.inj hx
            refine fin_ret [(.bool false)] ⟨rfl, trivial⟩ ?_
            replace hM : St ⟨w, X, S⟩ [] [rV s_aB.v (cSl 1 fI aB), rV s_aA.v (cSl 1 fI aA)] _ := hM.tk 0
            have hM := hM.fewer rsN
            exact ⟨(), rfl, hM.gives⟩
          · replace hx := xif_f hc267 hx
            refine wc_skip ?_
            refine sq_n ?_
            refine wc_seq ?_
            refine wc_region ?_
            refine wv rfl (r_assign rfl) ?_
            refine wl_nil ?_
            refine sq_n ?_
            refine wc_seq ?_
            refine wc_region ?_
            refine wv rfl (r_move rfl) ?_
            refine wv rfl (r_move rfl) ?_
            replace hM : St ⟨w, X, S⟩ [oC (cSl 1 fI r211) s214.v, oC (cSl 1 fI r257) s260.v, oC (cSl 1 fI r243) s246.v, oC (cSl 1 fI r226) s229.v, oC (cSl 1 fI r218) s221.v, oC (cSl 1 fI r204) s207.v, oC (cSl 1 fI r199) s202.v, oC (cSl 1 fI r193) s196.v] [rV s_aB.v (cSl 1 fI aB), rV s_aA.v (cSl 1 fI aA)] _ := hM.pl [4]
            obtain ⟨r272, h273, hx⟩ := bind_some' hx
            refine w_call rfl rfl (hM.callO (l := [oC (cSl 1 fI r211) s214.v]) fun X S oL hS hR hO => ct_laws_markIntS _ X S r211 s214 (1 : Int) hS  oL h273) ?_
            rintro _ w274 ⟨_, rfl, hM⟩
            replace hM : St ⟨w, X, S⟩ [oC (cSl 1 fI r272.2) s214.v, oC (cSl 1 fI r257) s260.v, oC (cSl 1 fI r243) s246.v, oC (cSl 1 fI r226) s229.v, oC (cSl 1 fI r218) s221.v, oC (cSl 1 fI r204) s207.v, oC (cSl 1 fI r199) s202.v, oC (cSl 1 fI r193) s196.v] [rV s_aB.v (cSl 1 fI aB), rV s_aA.v (cSl 1 fI aA)] _ := hM
            refine wv rfl (r_assign rfl) ?_
            refine wl_nil ?_
            refine sq_n ?_
            refine wc_seq ?_
            refine wc_region ?_
            refine wv rfl (r_move rfl) ?_
            refine wv rfl (r_move rfl) ?_
            replace hM : St ⟨w, X, S⟩ [oC (cSl 1 fI r218) s221.v, oC (cSl 1 fI r272.2) s214.v, oC (cSl 1 fI r257) s260.v, oC (cSl 1 fI r243) s246.v, oC (cSl 1 fI r226) s229.v, oC (cSl 1 fI r204) s207.v, oC (cSl 1 fI r199) s202.v, oC (cSl 1 fI r193) s196.v] [rV s_aB.v (cSl 1 fI aB), rV s_aA.v (cSl 1 fI aA)] _ := hM.pl [4]
            obtain ⟨r278, h279, hx⟩ := bind_some' hx
            refine w_call rfl rfl (hM.callO (l := [oC (cSl 1 fI r218) s221.v]) fun X S oL hS hR hO => ct_laws_markIntS _ X S r218 s221 r272.1 hS  oL h279) ?_
            rintro _ w280 ⟨_, rfl, hM⟩
            replace hM : St ⟨w, X, S⟩ [oC (cSl 1 fI r278.2) s221.v, oC (cSl 1 fI r272.2) s214.v, oC (cSl 1 fI r257) s260.v, oC (cSl 1 fI r243) s246.v, oC (cSl 1 fI r226) s229.v, oC (cSl 1 fI r204) s207.v, oC (cSl 1 fI r199) s202.v, oC (cSl 1 fI r193) s196.v] [rV s_aB.v (cSl 1 fI aB), rV s_aA.v (cSl 1 fI aA)] _ := hM
            refine wv rfl (r_assign rfl) ?_
            refine wl_nil ?_
            refine sq_n ?_
            refine wc_seq ?_
            refine wc_seq ?_
            refine wc_region ?_
            refine wv rfl (r_move rfl) ?_
            refine wv rfl (r_lss rfl rfl) ?_
            refine wv rfl (r_move rfl) ?_
            obtain ⟨c285, hx, hx294⟩ := bind_some' hx
            refine wl_mid 5 (fun _ : Unit => [(58, (.bool c285)), (0, s_aA.v), (1, s_aB.v), (5, s207.v), (8, s229.v)]) (fun _ w' => St ⟨w, X, S⟩ [oC (cSl 1 fI r278.2) s221.v, oC (cSl 1 fI r272.2) s214.v, oC (cSl 1 fI r257) s260.v, oC (cSl 1 fI r243) s246.v, oC (cSl 1 fI r226) s229.v, oC (cSl 1 fI r204) s207.v, oC (cSl 1 fI r199) s202.v, oC (cSl 1 fI r193) s196.v] [rV s_aB.v (cSl 1 fI aB), rV s_aA.v (cSl 1 fI aA)] w') ?_ ?_
            · rcases Bool.eq_false_or_eq_true (decide (r278.1 < 0)) with hg286 | hg286
              · replace hx := xif_t hg286 hx
                refine gs rfl (isB_no hg286) rfl ?_
                refine gs rfl (isB_no hg286) rfl ?_
                refine gs rfl (isB_no hg286) rfl ?_
                refine gs rfl (isB_no hg286) rfl ?_
                refine wv rfl (p_t rfl hg286 rfl) ?_
                obtain rfl := Option.some.inj hx
                exact mid_nil () ⟨rfl, rfl, rfl, rfl, rfl, trivial⟩ hM
              · replace hx := xif_f hg286 hx
                refine gv rfl hg286 rfl (r_move rfl) ?_
                refine gv rfl hg286 rfl (r_move rfl) ?_
                obtain ⟨r297, h298, hx⟩ := bind_some' hx
                refine gc rfl hg286 rfl rfl (hM.callV fun X S oL hS hR hO => ct_laws_eqIntS _ X S r226 s229 r204 s207 hS (seeA hO (.tail _ (.tail _ (.tail _ (.tail _ (.head _)))))) (seeA hO (.tail _ (.tail _ (.tail _ (.tail _ (.tail _ (.head _))))))) oL h298) ?_
                rintro _ w299 ⟨rfl, hR300⟩
                have hM := hM.call hR300
                refine gv rfl hg286 rfl (r_not rfl) ?_
                refine wv rfl (p_f rfl hg286 rfl) ?_
                obtain rfl := Option.some.inj hx
                exact mid_nil () ⟨rfl, rfl, rfl, rfl, rfl, trivial⟩ hM
            rintro _ w302 hM
            replace hx := hx294
            refine wl_nil ?_
            refine sq_n ?_
            refine wc_cond rfl (fun hc303 => ?_) (fun hc303 => ?_)
            · replace hx := xif_t hc303 hx
              refine wc_seq ?_
              refine wc_region ?_
              refine wv rfl (r_assign rfl) ?_
              refine wl_nil ?_
              refine sq_n ?_
              refine wc_ret ?_
              refine sq_ret ?_
              obtain rfl := Option.some.inj hx
              refine fin_ret [(.bool false)] ⟨rfl, trivial⟩ ?_
              replace hM : St ⟨w, X, S⟩ [] [rV s_aB.v (cSl 1 fI aB), rV s_aA.v (cSl 1 fI aA)] _ := hM.tk 0
              have hM := hM.fewer rsN
              exact ⟨(), rfl, hM.gives⟩
            · replace hx := xif_f hc303 hx
              refine wc_skip ?_
              refine sq_n ?_
              refine wc_seq ?_
              refine wc_region ?_
              refine wv rfl (r_assign rfl) ?_
              refine wl_nil ?_
              refine sq_n ?_
              refine wc_seq ?_
              refine wc_region ?_
              refine wv rfl (r_move rfl) ?_
              refine wv rfl (r_move rfl) ?_
              replace hM : St ⟨w, X, S⟩ [oC (cSl 1 fI r226) s229.v, oC (cSl 1 fI r278.2) s221.v, oC (cSl 1 fI r272.2) s214.v, oC (cSl 1 fI r257) s260.v, oC (cSl 1 fI r243) s246.v, oC (cSl 1 fI r204) s207.v, oC (cSl 1 fI r199) s202.v, oC (cSl 1 fI r193) s196.v] [rV s_aB.v (cSl 1 fI aB), rV s_aA.v (cSl 1 fI aA)] _ := hM.pl [4]
              obtain ⟨r308, h309, hx⟩ := bind_some' hx
              refine w_call rfl rfl (hM.callO (l := [oC (cSl 1 fI r226) s229.v]) fun X S oL hS hR hO => ct_laws_markIntS _ X S r226 s229 (1 : Int) hS  oL h309) ?_
              rintro _ w310 ⟨_, rfl, hM⟩
              replace hM : St ⟨w, X, S⟩ [oC (cSl 1 fI r308.2) s229.v, oC (cSl 1 fI r278.2) s221.v, oC (cSl 1 fI r272.2) s214.v, oC (cSl 1 fI r257) s260.v, oC (cSl 1 fI r243) s246.v, oC (cSl 1 fI r204) s207.v, oC (cSl 1 fI r199) s202.v, oC (cSl 1 fI r193) s196.v] [rV s_aB.v (cSl 1 fI aB), rV s_aA.v (cSl 1 fI aA)] _ := hM
              refine wv rfl (r_assign rfl) ?_
              refine wl_nil ?_
              refine sq_n ?_
              refine wc_seq ?_
              refine wc_region ?_
              refine wv rfl (r_assign rfl) ?_
              refine wl_nil ?_
              refine sq_n ?_
              refine wc_seq ?_
              refine wc_region ?_
              refine wv rfl (r_move rfl) ?_
              refine wv rfl (r_move rfl) ?_
              obtain ⟨r315, h316, hx⟩ := bind_some' hx
              refine w_call rfl rfl (hM.callV fun X S oL hS hR hO => ct_laws_heldIntS _ X S r308.2 s229 (1 : Int) hS (seeA hO (.head _)) oL h316) ?_
              rintro _ w317 ⟨rfl, hR318⟩
              have hM := hM.call hR318
              refine wv rfl (r_assign rfl) ?_
              refine wl_nil ?_
              refine sq_n ?_
              refine wc_seq ?_
              refine wc_seq ?_
              refine wc_region ?_
              refine wv rfl (r_move rfl) ?_
              refine wv rfl (r_lss rfl rfl) ?_
              refine wl_nil ?_
              refine sq_n ?_
              refine wc_cond rfl (fun hc322 => ?_) (fun hc322 => ?_)
              · replace hx := xif_t hc322 hx
                refine wc_seq ?_
                refine wc_region ?_
                refine wv rfl (r_assign rfl) ?_
                refine wl_nil ?_
                refine sq_n ?_
                refine wc_ret ?_
                refine sq_ret ?_
                obtain rfl := Option.some.inj hx
                refine fin_ret [(.bool false)] ⟨rfl, trivial⟩ ?_
                replace hM : St ⟨w, X, S⟩ [] [rV s_aB.v (cSl 1 fI aB), rV s_aA.v (cSl 1 fI aA)] _ := hM.tk 0
                have hM := hM.fewer rsN
                exact ⟨(), rfl, hM.gives⟩
              · replace hx := xif_f hc322 hx
                refine wc_skip ?_
                refine sq_n ?_
                refine wc_seq ?_
                refine wc_seq ?_
                refine wc_region ?_
                refine wv rfl (r_move rfl) ?_
                refine wv rfl (r_move rfl) ?_
                refine wv rfl (r_neq rfl rfl) ?_
                refine wl_nil ?_
                refine sq_n ?_
                refine wc_cond rfl (fun hc327 => ?_) (fun hc327 => ?_)
                · replace hx := xif_t hc327 hx
                  refine wc_seq ?_
                  refine wc_region ?_
                  refine wv rfl (r_assign rfl) ?_
                  refine wl_nil ?_
                  refine sq_n ?_
                  refine wc_ret ?_
                  refine sq_ret ?_
                  obtain rfl := Option.some.inj hx
                  refine fin_ret [(.bool false)] ⟨rfl, trivial⟩ ?_
                  replace hM : St ⟨w, X, S⟩ [] [rV s_aB.v (cSl 1 fI aB), rV s_aA.v (cSl 1 fI aA)] _ := hM.tk 0
                  have hM := hM.fewer rsN
                  exact ⟨(), rfl, hM.gives⟩
                · replace hx := xif_f hc327 hx
                  refine wc_skip ?_
                  refine sq_n ?_
                  refine wc_seq ?_
                  refine wc_region ?_
                  refine wv rfl (r_move rfl) ?_
                  obtain ⟨r330, h331, hx⟩ := bind_some' hx
                  refine w_call rfl rfl (hM.callO (l := []) fun X S oL hS hR hO => ct_laws_toIntS _ X S aA s_aA hS (hR _ (.tail _ (.head _))) oL h331) ?_
                  rintro _ w332 ⟨s333, rfl, hM⟩
                  replace hM : St ⟨w, X, S⟩ [oC (cSl 1 fI r330) s333.v, oC (cSl 1 fI r308.2) s229.v, oC (cSl 1 fI r278.2) s221.v, oC (cSl 1 fI r272.2) s214.v, oC (cSl 1 fI r257) s260.v, oC (cSl 1 fI r243) s246.v, oC (cSl 1 fI r204) s207.v, oC (cSl 1 fI r199) s202.v, oC (cSl 1 fI r193) s196.v] [rV s_aB.v (cSl 1 fI aB), rV s_aA.v (cSl 1 fI aA)] _ := hM
                  refine wv rfl (r_move rfl) ?_
                  obtain ⟨r336, h337, hx⟩ := bind_some' hx
                  refine w_call rfl rfl (hM.callO (l := []) fun X S oL hS hR hO => ct_laws_toIntS _ X S aB s_aB hS (hR _ (.head _)) oL h337) ?_
                  rintro _ w338 ⟨s339, rfl, hM⟩
                  replace hM : St ⟨w, X, S⟩ [oC (cSl 1 fI r336) s339.v, oC (cSl 1 fI r330) s333.v, oC (cSl 1 fI r308.2) s229.v, oC (cSl 1 fI r278.2) s221.v, oC (cSl 1 fI r272.2) s214.v, oC (cSl 1 fI r257) s260.v, oC (cSl 1 fI r243) s246.v, oC (cSl 1 fI r204) s207.v, oC (cSl 1 fI r199) s202.v, oC (cSl 1 fI r193) s196.v] [rV s_aB.v (cSl 1 fI aB), rV s_aA.v (cSl 1 fI aA)] _ := hM
                  obtain ⟨r341, h342, hx⟩ := bind_some' hx
                  refine w_call rfl rfl (hM.callO (l := []) fun X S oL hS hR hO => ct_impl_Common _ X S r330 s333 r336 s339 hS (seeA hO (.tail _ (.head _))) (seeA hO (.head _)) oL h342) ?_
                  rintro _ w343 ⟨s344, rfl, hM⟩
                  replace hM : St ⟨w, X, S⟩ [oC (cSl 1 fI r341) s344.v, oC (cSl 1 fI r336) s339.v, oC (cSl 1 fI r330) s333.v, oC (cSl 1 fI r308.2) s229.v, oC (cSl 1 fI r278.2) s221.v, oC (cSl 1 fI r272.2) s214.v, oC (cSl 1 fI r257) s260.v, oC (cSl 1 fI r243) s246.v, oC (cSl 1 fI r204) s207.v, oC (cSl 1 fI r199) s202.v, oC (cSl 1 fI r193) s196.v] [rV s_aB.v (cSl 1 fI aB), rV s_aA.v (cSl 1 fI aA)] _ := hM
                  refine wv rfl (r_assign rfl) ?_
                  refine wl_nil ?_
                  refine sq_n ?_
                  refine wc_seq ?_
                  refine wc_seq ?_
                  refine wc_region ?_
                  refine wv rfl (r_move rfl) ?_
                  refine wv rfl (r_move rfl) ?_
                  obtain ⟨r349, h350, hx⟩ := bind_some' hx
                  refine w_call rfl rfl (hM.callV fun X S oL hS hR hO => ct_laws_eqIntS _ X S r341 s344 r204 s207 hS (seeA hO (.head _)) (seeA hO (.tail _ (.tail _ (.tail _ (.tail _ (.tail _ (.tail _ (.tail _ (.tail _ (.head _)))))))))) oL h350) ?_
                  rintro _ w351 ⟨rfl, hR352⟩
                  have hM := hM.call hR352
                  refine wv rfl (r_not rfl) ?_
                  refine wl_nil ?_
                  refine sq_n ?_
                  refine wc_cond rfl (fun hc354 => ?_) (fun hc354 => ?_)
                  · replace hx := xif_t hc354 hx
                    refine wc_seq ?_
                    refine wc_region ?_
                    refine wv rfl (r_assign rfl) ?_
                    refine wl_nil ?_
                    refine sq_n ?_
                    refine wc_ret ?_
                    refine sq_ret ?_
                    obtain rfl := Option.some.inj hx
                    refine fin_ret [(.bool false)] ⟨rfl, trivial⟩ ?_
                    replace hM : St ⟨w, X, S⟩ [] [rV s_aB.v (cSl 1 fI aB), rV s_aA.v (cSl 1 fI aA)] _ := hM.tk 0
                    have hM := hM.fewer rsN
                    exact ⟨(), rfl, hM.gives⟩
                  · replace hx := xif_f hc354 hx
                    refine wc_skip ?_
                    refine sq_n ?_
                    refine wc_seq ?_
                    refine wc_region ?_
                    refine wv rfl (r_assign rfl) ?_
                    refine wl_nil ?_
                    refine sq_n ?_
                    refine wc_seq ?_
                    refine wc_region ?_
                    refine wv rfl (r_move rfl) ?_
                    refine wv rfl (r_move rfl) ?_
                    obtain ⟨r359, h360, hx⟩ := bind_some' hx
                    refine w_call rfl rfl (hM.callV fun X S oL hS hR hO => ct_laws_heldIntS _ X S r308.2 s229 (1 : Int) hS (seeA hO (.tail _ (.tail _ (.tail _ (.head _))))) oL h360) ?_
                    rintro _ w361 ⟨rfl, hR362⟩
                    have hM := hM.call hR362
                    refine wv rfl (r_assign rfl) ?_
                    refine wl_nil ?_
                    refine sq_n ?_
                    refine wc_seq ?_
                    refine wc_seq ?_
                    refine wc_region ?_
                    refine wv rfl (r_move rfl) ?_
                    refine wv rfl (r_lss rfl rfl) ?_
                    refine wl_nil ?_
                    refine sq_n ?_
                    refine wc_cond rfl (fun hc366 => ?_) (fun hc366 => ?_)
                    · replace hx := xif_t hc366 hx
                      refine wc_seq ?_
                      refine wc_region ?_
                      refine wv rfl (r_assign rfl) ?_
                      refine wl_nil ?_
                      refine sq_n ?_
                      refine wc_ret ?_
                      refine sq_ret ?_
                      obtain rfl := Option.some.inj hx
                      refine fin_ret [(.bool false)] ⟨rfl, trivial⟩ ?_
                      replace hM : St ⟨w, X, S⟩ [] [rV s_aB.v (cSl 1 fI aB), rV s_aA.v (cSl 1 fI aA)] _ := hM.tk 0
                      have hM := hM.fewer rsN
                      exact ⟨(), rfl, hM.gives⟩
                    · replace hx := xif_f hc366 hx
                      refine wc_skip ?_
                      refine sq_n ?_
                      refine wc_seq ?_
                      refine wc_seq ?_
                      refine wc_region ?_
                      refine wv rfl (r_move rfl) ?_
                      refine wv rfl (r_move rfl) ?_
                      refine wv rfl (r_neq rfl rfl) ?_
                      refine wl_nil ?_
                      refine sq_n ?_
                      refine wc_cond rfl (fun hc371 => ?_) (fun hc371 => ?_)
                      · replace hx := xif_t hc371 hx
                        refine wc_seq ?_
                        refine wc_region ?_
                        refine wv rfl (r_assign rfl) ?_
                        refine wl_nil ?_
                        refine sq_n ?_
                        refine wc_ret ?_
                        refine sq_ret ?_
                        obtain rfl := Option.some.inj hx
                        refine fin_ret [(.bool false)] ⟨rfl, trivial⟩ ?_
                        replace hM : St ⟨w, X, S⟩ [] [rV s_aB.v (cSl 1 fI aB), rV s_aA.v (cSl 1 fI aA)] _ := hM.tk 0
                        have hM := hM.fewer rsN
                        exact ⟨(), rfl, hM.gives⟩
                      · replace hx := xif_f hc371 hx
                        refine wc_skip ?_
                        refine sq_n ?_
                        refine wc_seq ?_
                        refine wc_region ?_
                        refine wv rfl (r_assign rfl) ?_
                        refine wl_nil ?_
                        refine sq_n ?_
                        refine wc_ret ?_
                        obtain rfl := Option.some.inj hx
                        refine fin_ret [(.bool true)] ⟨rfl, trivial⟩ ?_
                        replace hM : St ⟨w, X, S⟩ [] [rV s_aB.v (cSl 1 fI aB), rV s_aA.v (cSl 1 fI aA)] _ := hM.tk 0
                        have hM := hM.fewer rsN
                        exact ⟨(), rfl, hM.gives⟩

noncomputable def x_laws_FnExactCost (aA : List Int) (aB : List Int) : Option Bool :=
  bif decide ((1048576 : Int) < (aA.length : Int)) then (some true) else (bif decide ((1048576 : Int) < (aB.length : Int)) then (some true) else (Option.bind (x_laws_toIntS aA) fun r11 => Option.bind (x_laws_toIntS aB) fun r17 => Option.bind (x_spec_Cost r11 r17) fun r22 => Option.bind (x_laws_toIntS aA) fun r28 => Option.bind (x_laws_toIntS aB) fun r35 => Option.bind (x_impl_Cost r28 r35) fun r43 => bif !decide (r43 = r22) then (some false) else (Option.bind (x_laws_toIntS aA) fun r54 => Option.bind (x_laws_eqIntS r28 r54) fun r59 => bif !r59 then (some false) else (Option.bind (x_laws_toIntS aB) fun r67 => Option.bind (x_laws_eqIntS r35 r67) fun r72 => bif !r72 then (some false) else (some true)))))
theorem ct_laws_FnExactCost (w : World) (X S : Bs) (aA : List Int) (s_aA : Sv) (aB : List Int) (s_aB : Sv) (hS : ∀ b, S b → b < w.heap.size ∧ ¬ X b) (a_aA_0 : (cSl 1 fI aA).rd S w s_aA.v) (a_aB_0 : (cSl 1 fI aB).rd S w s_aB.v) (oL : Sep [] X w) {r : Bool} (hx : x_laws_FnExactCost aA aB = some r) :
    Ret Try.prog 3 [s_aA.v, s_aB.v] w (fun u w' => ∃ _ : Unit, u = (.bool r) ∧ Gives X S w [] [] w') := by
  unfold x_laws_FnExactCost at hx
  refine enter Try.func3 rfl Try.ntmps3 (by kernel_rfl) rfl ?_
  have hM := St.enter oL hS
  have hM := hM.addE (r := rV s_aA.v (cSl 1 fI aA)) a_aA_0
  have hM := hM.addE (r := rV s_aB.v (cSl 1 fI aB)) a_aB_0
  refine wc_seq ?_
  refine wc_region ?_
  refine wv rfl (r_assign rfl) ?_
  refine wl_nil ?_
  refine sq_n ?_
  refine wc_seq ?_
  refine wc_seq ?_
  refine wc_region ?_
  refine wv rfl (r_move rfl) ?_
  refine wv rfl (r_lenC Try.underlying22 rfl (hM.seeR (.tail _ (.head _)))) ?_
  refine wv rfl (r_gtr rfl rfl) ?_
  refine wl_nil ?_
  refine sq_n ?_
  refine wc_cond rfl (fun hc83 => ?_) (fun hc83 => ?_)
  · replace hx := xif_t hc83 hx
    refine wc_seq ?_
    refine wc_region ?_
    refine wv rfl (r_assign rfl) ?_
    refine wl_nil ?_
    refine sq_n ?_
    refine wc_ret ?_
    refine sq_ret ?_
    obtain rfl := Option.some.inj hx
    refine fin_ret [(.bool true)] ⟨rfl, trivial⟩ ?_
    replace hM : St ⟨w, X, S⟩ [] [rV s_aB.v (cSl 1 fI aB), rV s_aA.v (cSl 1 fI aA)] _ := hM.tk 0
    have hM := hM.fewer rsN
    exact ⟨(), rfl, hM.gives⟩
  · replace hx := xif_f hc83 hx
    refine wc_skip ?_
    refine sq_n ?_
    refine wc_seq ?_
    refine wc_seq ?_
    refine wc_region ?_
    refine wv rfl (r_move rfl) ?_
    refine wv rfl (r_lenC Try.underlying22 rfl (hM.seeR (.head _))) ?_
    refine wv rfl (r_gtr rfl rfl) ?_
    refine wl_nil ?_
    refine sq_n ?_
    refine wc_cond rfl (fun hc88 => ?_) (fun hc88 => ?_)
    · replace hx := xif_t hc88 hx
      refine wc_seq ?_
      refine wc_region ?_
      refine wv rfl (r_assign rfl) ?_
      refine wl_nil ?_
      refine sq_n ?_
      refine wc_ret ?_
      refine sq_ret ?_
      obtain rfl := Option.some.inj hx
      refine fin_ret [(.bool true)] ⟨rfl, trivial⟩ ?_
      replace hM : St ⟨w, X, S⟩ [] [rV s_aB.v (cSl 1 fI aB), rV s_aA.v (cSl 1 fI aA)] _ := hM.tk 0
      have hM := hM.fewer rsN
      exact ⟨(), rfl, hM.gives⟩
    · replace hx := xif_f hc88 hx
      refine wc_skip ?_
      refine sq_n ?_
      refine wc_seq ?_
      refine wc_region ?_
      refine wv rfl (r_move rfl) ?_
      obtain ⟨r91, h92, hx⟩ := bind_some' hx
      refine w_call rfl rfl (hM.callO (l := []) fun X S oL hS hR hO => ct_laws_toIntS _ X S aA s_aA hS (hR _ (.tail _ (.head _))) oL h92) ?_
      rintro _ w93 ⟨s94, rfl, hM⟩
      replace hM : St ⟨w, X, S⟩ [oC (cSl 1 fI r91) s94.v] [rV s_aB.v (cSl 1 fI aB), rV s_aA.v (cSl 1 fI aA)] _ := hM
      refine wv rfl (r_move rfl) ?_
      obtain ⟨r97, h98, hx⟩ := bind_some' hx
      refine w_call rfl rfl (hM.callO (l := []) fun X S oL hS hR hO => ct_laws_toIntS _ X S aB s_aB hS (hR _ (.head _)) oL h98) ?_
      rintro _ w99 ⟨s100, rfl, hM⟩
      replace hM : St ⟨w, X, S⟩ [oC (cSl 1 fI r97) s100.v, oC (cSl 1 fI r91) s94.v] [rV s_aB.v (cSl 1 fI aB), rV s_aA.v (cSl 1 fI aA)] _ := hM
      obtain ⟨r102, h103, hx⟩ := bind_some' hx
      refine w_call rfl rfl (hM.callV fun X S oL hS hR hO => ct_spec_Cost _ X S r91 s94 r97 s100 hS (seeA hO (.tail _ (.head _))) (seeA hO (.head _)) oL h103) ?_
      rintro _ w104 ⟨rfl, hR105⟩
      have hM := hM.call hR105
      refine wv rfl (r_assign rfl) ?_
      refine wl_nil ?_
      refine sq_n ?_
      refine wc_seq ?_
      refine wc_region ?_
      refine wv rfl (r_move rfl) ?_
      obtain ⟨r108, h109, hx⟩ := bind_some' hx
      refine w_call rfl rfl (hM.callO (l := []) fun X S oL hS hR hO => ct_laws_toIntS _ X S aA s_aA hS (hR _ (.tail _ (.head _))) oL h109) ?_
      rintro _ w110 ⟨s111, rfl, hM⟩
      replace hM : St ⟨w, X, S⟩ [oC (cSl 1 fI r108) s111.v, oC (cSl 1 fI r97) s100.v, oC (cSl 1 fI r91) s94.v] [rV s_aB.v (cSl 1 fI aB), rV s_aA.v (cSl 1 fI aA)] _ := hM
      refine wv rfl (r_assign rfl) ?_
      refine wl_nil ?_
      refine sq_n ?_
      refine wc_seq ?_
      refine wc_region ?_
      refine wv rfl (r_move rfl) ?_
      obtain ⟨r115, h116, hx⟩ := bind_some' hx
      refine w_call rfl rfl (hM.callO (l := []) fun X S oL hS hR hO => ct_laws_toIntS _ X S aB s_aB hS (hR _ (.head _)) oL h116) ?_
      rintro _ w117 ⟨s118, rfl, hM⟩
      replace hM : St ⟨w, X, S⟩ [oC (cSl 1 fI r115) s118.v, oC (cSl 1 fI r108) s111.v, oC (cSl 1 fI r97) s100.v, oC (cSl 1 fI r91) s94.v] [rV s_aB.v (cSl 1 fI aB), rV s_aA.v (cSl 1 fI aA)] _ := hM
      refine wv rfl (r_assign rfl) ?_
      refine wl_nil ?_
      refine sq_n ?_
      refine wc_seq ?_
      refine wc_region ?_
      refine wv rfl (r_move rfl) ?_
      refine wv rfl (r_move rfl) ?_
      obtain ⟨r123, h124, hx⟩ := bind_some' hx
      refine w_call rfl rfl (hM.callV fun X S oL hS hR hO => ct_impl_Cost _ X S r108 s111 r115 s118 hS (seeA hO (.tail _ (.head _))) (seeA hO (.head _)) oL h124) ?_
      rintro _ w125 ⟨rfl, hR126⟩
      have hM := hM.call hR126
      refine wv rfl (r_assign rfl) ?_
      refine wl_nil ?_
      refine sq_n ?_
      refine wc_seq ?_
      refine wc_seq ?_
      refine wc_region ?_
      refine wv rfl (r_move rfl) ?_
      refine wv rfl (r_move rfl) ?_
      refine wv rfl (r_neq rfl rfl) ?_
      refine wl_nil ?_
      refine sq_n ?_
      refine wc_cond rfl (fun hc131 => ?_) (fun hc131 => ?_)
      · replace hx := xif_t hc131 hx
        refine wc_seq ?_
        refine wc_region ?_
        refine wv rfl (r_assign rfl) ?_
        refine wl_nil ?_
        refine sq_n ?_
        refine wc_ret ?_
        refine sq_ret ?_
        obtain rfl := Option.some.inj hx
        refine fin_ret [(.bool false)] ⟨rfl, trivial⟩ ?_
        replace hM : St ⟨w, X, S⟩ [] [rV s_aB.v (cSl 1 fI aB), rV s_aA.v (cSl 1 fI aA)] _ := hM.tk 0
        have hM := hM.fewer rsN
        exact ⟨(), rfl, hM.gives⟩
      · replace hx := xif_f hc131 hx
        refine wc_skip ?_
        refine sq_n ?_
        refine wc_seq ?_
        refine wc_seq ?_
        refine wc_region ?_
        refine wv rfl (r_move rfl) ?_
        refine wv rfl (r_move rfl) ?_
        obtain ⟨r135, h136, hx⟩ := bind_some' hx
        refine w_call rfl rfl (hM.callO (l := []) fun X S oL hS hR hO => ct_laws_toIntS _ X S aA s_aA hS (hR _ (.tail _ (.head _))) oL h136) ?_
        rintro _ w137 ⟨s138, rfl, hM⟩
        replace hM : St ⟨w, X, S⟩ [oC (cSl 1 fI r135) s138.v, oC (cSl 1 fI r115) s118.v, oC (cSl 1 fI r108) s111.v, oC (cSl 1 fI r97) s100.v, oC (cSl 1 fI r91) s94.v] [rV s_aB.v (cSl 1 fI aB), rV s_aA.v (cSl 1 fI aA)] _ := hM
        obtain ⟨r140, h141, hx⟩ := bind_some' hx
        refine w_call rfl rfl (hM.callV fun X S oL hS hR hO => ct_laws_eqIntS _ X S r108 s111 r135 s138 hS (seeA hO (.tail _ (.tail _ (.head _)))) (seeA hO (.head _)) oL h141) ?_
        rintro _ w142 ⟨rfl, hR143⟩
        have hM := hM.call hR143
        refine wv rfl (r_not rfl) ?_
        refine wl_nil ?_
        refine sq_n ?_
        refine wc_cond rfl (fun hc145 => ?_) (fun hc145 => ?_)
        · replace hx := xif_t hc145 hx
          refine wc_seq ?_
          refine wc_region ?_
          refine wv rfl (r_assign rfl) ?_
          refine wl_nil ?_
          refine sq_n ?_
          refine wc_ret ?_
          refine sq_ret ?_
          obtain rfl := Option.some.inj hx
          refine fin_ret [(.bool false)] ⟨rfl, trivial⟩ ?_
          replace hM : St ⟨w, X, S⟩ [] [rV s_aB.v (cSl 1 fI aB), rV s_aA.v (cSl 1 fI aA)] _ := hM.tk 0
          have hM := hM.fewer rsN
          exact ⟨(), rfl, hM.gives⟩
        · replace hx := xif_f hc145 hx
          refine wc_skip ?_
          refine sq_n ?_
          refine wc_seq ?_
          refine wc_seq ?_
          refine wc_region ?_
          refine wv rfl (r_move rfl) ?_
          refine wv rfl (r_move rfl) ?_
          obtain ⟨r149, h150, hx⟩ := bind_some' hx
          refine w_call rfl rfl (hM.callO (l := []) fun X S oL hS hR hO => ct_laws_toIntS _ X S aB s_aB hS (hR _ (.head _)) oL h150) ?_
          rintro _ w151 ⟨s152, rfl, hM⟩
          replace hM : St ⟨w, X, S⟩ [oC (cSl 1 fI r149) s152.v, oC (cSl 1 fI r135) s138.v, oC (cSl 1 fI r115) s118.v, oC (cSl 1 fI r108) s111.v, oC (cSl 1 fI r97) s100.v, oC (cSl 1 fI r91) s94.v] [rV s_aB.v (cSl 1 fI aB), rV s_aA.v (cSl 1 fI aA)] _ := hM
          obtain ⟨r154, h155, hx⟩ := bind_some' hx
          refine w_call rfl rfl (hM.callV fun X S oL hS hR hO => ct_laws_eqIntS _ X S r115 s118 r149 s152 hS (seeA hO (.tail _ (.tail _ (.head _)))) (seeA hO (.head _)) oL h155) ?_
          rintro _ w156 ⟨rfl, hR157⟩
          have hM := hM.call hR157
          refine wv rfl (r_not rfl) ?_
          refine wl_nil ?_
          refine sq_n ?_
          refine wc_cond rfl (fun hc159 => ?_) (fun hc159 => ?_)
          · replace hx := xif_t hc159 hx
            refine wc_seq ?_
            refine wc_region ?_
            refine wv rfl (r_assign rfl) ?_
            refine wl_nil ?_
            refine sq_n ?_
            refine wc_ret ?_
            refine sq_ret ?_
            obtain rfl := Option.some.inj hx
            refine fin_ret [(.bool false)] ⟨rfl, trivial⟩ ?_
            replace hM : St ⟨w, X, S⟩ [] [rV s_aB.v (cSl 1 fI aB), rV s_aA.v (cSl 1 fI aA)] _ := hM.tk 0
            have hM := hM.fewer rsN
            exact ⟨(), rfl, hM.gives⟩
          · replace hx := xif_f hc159 hx
            refine wc_skip ?_
            refine sq_n ?_
            refine wc_seq ?_
            refine wc_region ?_
            refine wv rfl (r_assign rfl) ?_
            refine wl_nil ?_
            refine sq_n ?_
            refine wc_ret ?_
            obtain rfl := Option.some.inj hx
            refine fin_ret [(.bool true)] ⟨rfl, trivial⟩ ?_
            replace hM : St ⟨w, X, S⟩ [] [rV s_aB.v (cSl 1 fI aB), rV s_aA.v (cSl 1 fI aA)] _ := hM.tk 0
            have hM := hM.fewer rsN
            exact ⟨(), rfl, hM.gives⟩

noncomputable def x_laws_FnExactNear (aA : List Int) (aB : List Int) : Option Bool :=
  bif decide ((1048576 : Int) < (aA.length : Int)) then (some true) else (bif decide ((1048576 : Int) < (aB.length : Int)) then (some true) else (Option.bind (x_laws_toIntS aA) fun r11 => Option.bind (x_laws_toIntS aB) fun r17 => Option.bind (x_spec_Near r11 r17) fun r22 => Option.bind (x_laws_toIntS aA) fun r28 => Option.bind (x_laws_toIntS aB) fun r35 => Option.bind (x_impl_Near r28 r35) fun r43 => bif !decide (r43 = r22) then (some false) else (Option.bind (x_laws_toIntS aA) fun r54 => Option.bind (x_laws_eqIntS r28 r54) fun r59 => bif !r59 then (some false) else (Option.bind (x_laws_toIntS aB) fun r67 => Option.bind (x_laws_eqIntS r35 r67) fun r72 => bif !r72 then (some false) else (some true)))))
theorem ct_laws_FnExactNear (w : World) (X S : Bs) (aA : List Int) (s_aA : Sv) (aB : List Int) (s_aB : Sv) (hS : ∀ b, S b → b < w.heap.size ∧ ¬ X b) (a_aA_0 : (cSl 1 fI aA).rd S w s_aA.v) (a_aB_0 : (cSl 1 fI aB).rd S w s_aB.v) (oL : Sep [] X w) {r : Bool} (hx : x_laws_FnExactNear aA aB = some r) :
    Ret Try.prog 5 [s_aA.v, s_aB.v] w (fun u w' => ∃ _ : Unit, u = (.bool r) ∧ Gives X S w [] [] w') := by
  unfold x_laws_FnExactNear at hx
  refine enter Try.func5 rfl Try.ntmps5 (by kernel_rfl) rfl ?_
  have hM := St.enter oL hS
  have hM := hM.addE (r := rV s_aA.v (cSl 1 fI aA)) a_aA_0
  have hM := hM.addE (r := rV s_aB.v (cSl 1 fI aB)) a_aB_0
  refine wc_seq ?_
  refine wc_region ?_
  refine wv rfl (r_assign rfl) ?_
  refine wl_nil ?_
  refine sq_n ?_
  refine wc_seq ?_
  refine wc_seq ?_
  refine wc_region ?_
  refine wv rfl (r_move rfl) ?_
  refine wv rfl (r_lenC Try.underlying22 rfl (hM.seeR (.tail _ (.head _)))) ?_
  refine wv rfl (r_gtr rfl rfl) ?_
  refine wl_nil ?_
  refine sq_n ?_
  refine wc_cond rfl (fun hc83 => ?_) (fun hc83 => ?_)
  · replace hx := xif_t hc83 hx
    refine wc_seq ?_
    refine wc_region ?_
    refine wv rfl (r_assign rfl) ?_
    refine wl_nil ?_
    refine sq_n ?_
    refine wc_ret ?_
    refine sq_ret ?_
    obtain rfl := Option.some.inj hx
    refine fin_ret [(.bool true)] ⟨rfl, trivial⟩ ?_
    replace hM : St ⟨w, X, S⟩ [] [rV s_aB.v (cSl 1 fI aB), rV s_aA.v (cSl 1 fI aA)] _ := hM.tk 0
    have hM := hM.fewer rsN
    exact ⟨(), rfl, hM.gives⟩
  · replace hx := xif_f hc83 hx
    refine wc_skip ?_
    refine sq_n ?_
    refine wc_seq ?_
    refine wc_seq ?_
    refine wc_region ?_
    refine wv rfl (r_move rfl) ?_
    refine wv rfl (r_lenC Try.underlying22 rfl (hM.seeR (.head _))) ?_
    refine wv rfl (r_gtr rfl rfl) ?_
    refine wl_nil ?_
    refine sq_n ?_
    refine wc_cond rfl (fun hc88 => ?_) (fun hc88 => ?_)
    · replace hx := xif_t hc88 hx
      refine wc_seq ?_
      refine wc_region ?_
      refine wv rfl (r_assign rfl) ?_
      refine wl_nil ?_
      refine sq_n ?_
      refine wc_ret ?_
      refine sq_ret ?_
      obtain rfl := Option.some.inj hx
      refine fin_ret [(.bool true)] ⟨rfl, trivial⟩ ?_
      replace hM : St ⟨w, X, S⟩ [] [rV s_aB.v (cSl 1 fI aB), rV s_aA.v (cSl 1 fI aA)] _ := hM.tk 0
      have hM := hM.fewer rsN
      exact ⟨(), rfl, hM.gives⟩
    · replace hx := xif_f hc88 hx
      refine wc_skip ?_
      refine sq_n ?_
      refine wc_seq ?_
      refine wc_region ?_
      refine wv rfl (r_move rfl) ?_
      obtain ⟨r91, h92, hx⟩ := bind_some' hx
      refine w_call rfl rfl (hM.callO (l := []) fun X S oL hS hR hO => ct_laws_toIntS _ X S aA s_aA hS (hR _ (.tail _ (.head _))) oL h92) ?_
      rintro _ w93 ⟨s94, rfl, hM⟩
      replace hM : St ⟨w, X, S⟩ [oC (cSl 1 fI r91) s94.v] [rV s_aB.v (cSl 1 fI aB), rV s_aA.v (cSl 1 fI aA)] _ := hM
      refine wv rfl (r_move rfl) ?_
      obtain ⟨r97, h98, hx⟩ := bind_some' hx
      refine w_call rfl rfl (hM.callO (l := []) fun X S oL hS hR hO => ct_laws_toIntS _ X S aB s_aB hS (hR _ (.head _)) oL h98) ?_
      rintro _ w99 ⟨s100, rfl, hM⟩
      replace hM : St ⟨w, X, S⟩ [oC (cSl 1 fI r97) s100.v, oC (cSl 1 fI r91) s94.v] [rV s_aB.v (cSl 1 fI aB), rV s_aA.v (cSl 1 fI aA)] _ := hM
      obtain ⟨r102, h103, hx⟩ := bind_some' hx
      refine w_call rfl rfl (hM.callV fun X S oL hS hR hO => ct_spec_Near _ X S r91 s94 r97 s100 hS (seeA hO (.tail _ (.head _))) (seeA hO (.head _)) oL h103) ?_
      rintro _ w104 ⟨rfl, hR105⟩
      have hM := hM.call hR105
      refine wv rfl (r_assign rfl) ?_
      refine wl_nil ?_
      refine sq_n ?_
      refine wc_seq ?_
      refine wc_region ?_
      refine wv rfl (r_move rfl) ?_
      obtain ⟨r108, h109, hx⟩ := bind_some' hx
      refine w_call rfl rfl (hM.callO (l := []) fun X S oL hS hR hO => ct_laws_toIntS _ X S aA s_aA hS (hR _ (.tail _ (.head _))) oL h109) ?_
      rintro _ w110 ⟨s111, rfl, hM⟩
      replace hM : St ⟨w, X, S⟩ [oC (cSl 1 fI r108) s111.v, oC (cSl 1 fI r97) s100.v, oC (cSl 1 fI r91) s94.v] [rV s_aB.v (cSl 1 fI aB), rV s_aA.v (cSl 1 fI aA)] _ := hM
      refine wv rfl (r_assign rfl) ?_
      refine wl_nil ?_
      refine sq_n ?_
      refine wc_seq ?_
      refine wc_region ?_
      refine wv rfl (r_move rfl) ?_
      obtain ⟨r115, h116, hx⟩ := bind_some' hx
      refine w_call rfl rfl (hM.callO (l := []) fun X S oL hS hR hO => ct_laws_toIntS _ X S aB s_aB hS (hR _ (.head _)) oL h116) ?_
      rintro _ w117 ⟨s118, rfl, hM⟩
      replace hM : St ⟨w, X, S⟩ [oC (cSl 1 fI r115) s118.v, oC (cSl 1 fI r108) s111.v, oC (cSl 1 fI r97) s100.v, oC (cSl 1 fI r91) s94.v] [rV s_aB.v (cSl 1 fI aB), rV s_aA.v (cSl 1 fI aA)] _ := hM
      refine wv rfl (r_assign rfl) ?_
      refine wl_nil ?_
      refine sq_n ?_
      refine wc_seq ?_
      refine wc_region ?_
      refine wv rfl (r_move rfl) ?_
      refine wv rfl (r_move rfl) ?_
      obtain ⟨r123, h124, hx⟩ := bind_some' hx
      refine w_call rfl rfl (hM.callV fun X S oL hS hR hO => ct_impl_Near _ X S r108 s111 r115 s118 hS (seeA hO (.tail _ (.head _))) (seeA hO (.head _)) oL h124) ?_
      rintro _ w125 ⟨rfl, hR126⟩
      have hM := hM.call hR126
      refine wv rfl (r_assign rfl) ?_
      refine wl_nil ?_
      refine sq_n ?_
      refine wc_seq ?_
      refine wc_seq ?_
      refine wc_region ?_
      refine wv rfl (r_move rfl) ?_
      refine wv rfl (r_move rfl) ?_
      refine wv rfl (r_neq rfl rfl) ?_
      refine wl_nil ?_
      refine sq_n ?_
      refine wc_cond rfl (fun hc131 => ?_) (fun hc131 => ?_)
      · replace hx := xif_t hc131 hx
        refine wc_seq ?_
        refine wc_region ?_
        refine wv rfl (r_assign rfl) ?_
        refine wl_nil ?_
        refine sq_n ?_
        refine wc_ret ?_
        refine sq_ret ?_
        obtain rfl := Option.some.inj hx
        refine fin_ret [(.bool false)] ⟨rfl, trivial⟩ ?_
        replace hM : St ⟨w, X, S⟩ [] [rV s_aB.v (cSl 1 fI aB), rV s_aA.v (cSl 1 fI aA)] _ := hM.tk 0
        have hM := hM.fewer rsN
        exact ⟨(), rfl, hM.gives⟩
      · replace hx := xif_f hc131 hx
        refine wc_skip ?_
        refine sq_n ?_
        refine wc_seq ?_
        refine wc_seq ?_
        refine wc_region ?_
        refine wv rfl (r_move rfl) ?_
        refine wv rfl (r_move rfl) ?_
        obtain ⟨r135, h136, hx⟩ := bind_some' hx
        refine w_call rfl rfl (hM.callO (l := []) fun X S oL hS hR hO => ct_laws_toIntS _ X S aA s_aA hS (hR _ (.tail _ (.head _))) oL h136) ?_
        rintro _ w137 ⟨s138, rfl, hM⟩
        replace hM : St ⟨w, X, S⟩ [oC (cSl 1 fI r135) s138.v, oC (cSl 1 fI r115) s118.v, oC (cSl 1 fI r108) s111.v, oC (cSl 1 fI r97) s100.v, oC (cSl 1 fI r91) s94.v] [rV s_aB.v (cSl 1 fI aB), rV s_aA.v (cSl 1 fI aA)] _ := hM
        obtain ⟨r140, h141, hx⟩ := bind_some' hx
        refine w_call rfl rfl (hM.callV fun X S oL hS hR hO => ct_laws_eqIntS _ X S r108 s111 r135 s138 hS (seeA hO (.tail _ (.tail _ (.head _)))) (seeA hO (.head _)) oL h141) ?_
        rintro _ w142 ⟨rfl, hR143⟩
        have hM := hM.call hR143
        refine wv rfl (r_not rfl) ?_
        refine wl_nil ?_
        refine sq_n ?_
        refine wc_cond rfl (fun hc145 => ?_) (fun hc145 => ?_)
        · replace hx := xif_t hc145 hx
          refine wc_seq ?_
          refine wc_region ?_
          refine wv rfl (r_assign rfl) ?_
          refine wl_nil ?_
          refine sq_n ?_
          refine wc_ret ?_
          refine sq_ret ?_
          obtain rfl := Option.some.inj hx
          refine fin_ret [(.bool false)] ⟨rfl, trivial⟩ ?_
          replace hM : St ⟨w, X, S⟩ [] [rV s_aB.v (cSl 1 fI aB), rV s_aA.v (cSl 1 fI aA)] _ := hM.tk 0
          have hM := hM.fewer rsN
          exact ⟨(), rfl, hM.gives⟩
        · replace hx := xif_f hc145 hx
          refine wc_skip ?_
          refine sq_n ?_
          refine wc_seq ?_
          refine wc_seq ?_
          refine wc_region ?_
          refine wv rfl (r_move rfl) ?_
          refine wv rfl (r_move rfl) ?_
          obtain ⟨r149, h150, hx⟩ := bind_some' hx
          refine w_call rfl rfl (hM.callO (l := []) fun X S oL hS hR hO => ct_laws_toIntS _ X S aB s_aB hS (hR _ (.head _)) oL h150) ?_
          rintro _ w151 ⟨s152, rfl, hM⟩
          replace hM : St ⟨w, X, S⟩ [oC (cSl 1 fI r149) s152.v, oC (cSl 1 fI r135) s138.v, oC (cSl 1 fI r115) s118.v, oC (cSl 1 fI r108) s111.v, oC (cSl 1 fI r97) s100.v, oC (cSl 1 fI r91) s94.v] [rV s_aB.v (cSl 1 fI aB), rV s_aA.v (cSl 1 fI aA)] _ := hM
          obtain ⟨r154, h155, hx⟩ := bind_some' hx
          refine w_call rfl rfl (hM.callV fun X S oL hS hR hO => ct_laws_eqIntS _ X S r115 s118 r149 s152 hS (seeA hO (.tail _ (.tail _ (.head _)))) (seeA hO (.head _)) oL h155) ?_
          rintro _ w156 ⟨rfl, hR157⟩
          have hM := hM.call hR157
          refine wv rfl (r_not rfl) ?_
          refine wl_nil ?_
          refine sq_n ?_
          refine wc_cond rfl (fun hc159 => ?_) (fun hc159 => ?_)
          · replace hx := xif_t hc159 hx
            refine wc_seq ?_
            refine wc_region ?_
            refine wv rfl (r_assign rfl) ?_
            refine wl_nil ?_
            refine sq_n ?_
            refine wc_ret ?_
            refine sq_ret ?_
            obtain rfl := Option.some.inj hx
            refine fin_ret [(.bool false)] ⟨rfl, trivial⟩ ?_
            replace hM : St ⟨w, X, S⟩ [] [rV s_aB.v (cSl 1 fI aB), rV s_aA.v (cSl 1 fI aA)] _ := hM.tk 0
            have hM := hM.fewer rsN
            exact ⟨(), rfl, hM.gives⟩
          · replace hx := xif_f hc159 hx
            refine wc_skip ?_
            refine sq_n ?_
            refine wc_seq ?_
            refine wc_region ?_
            refine wv rfl (r_assign rfl) ?_
            refine wl_nil ?_
            refine sq_n ?_
            refine wc_ret ?_
            obtain rfl := Option.some.inj hx
            refine fin_ret [(.bool true)] ⟨rfl, trivial⟩ ?_
            replace hM : St ⟨w, X, S⟩ [] [rV s_aB.v (cSl 1 fI aB), rV s_aA.v (cSl 1 fI aA)] _ := hM.tk 0
            have hM := hM.fewer rsN
            exact ⟨(), rfl, hM.gives⟩

end Go.Proofs.Ythnnhoabdhhkaaa
