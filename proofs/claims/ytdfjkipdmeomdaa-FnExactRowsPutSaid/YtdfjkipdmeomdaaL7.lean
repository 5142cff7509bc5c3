/- Walks of functions of this program (printed by a program of ours, by the rules of the layer). No condition. -/
import Derived.Test.YtdfjkipdmeomdaaG6
import Derived.Test.YtdfjkipdmeomdaaNr
namespace Go.Proofs.Ytdfjkipdmeomdaa
open Go.RowKit

noncomputable def x_laws_toIntS_b0 (a : List Int) (i34 : Int) (l35 : List Int) : Option (Lr (Int × List Int) (List Int)) :=
  bif decide (i34 < (a.length : Int)) then (xg (0 ≤ i34 ∧ i34 < (a.length : Int)) <| xg (0 ≤ i34 ∧ i34 < (l35.length : Int)) <| xg (inI (i34 + 1)) <| some (Lr.go (i34 + 1, l35.set i34.toNat (el a i34.toNat)))) else (some (Lr.out l35))
noncomputable def x_laws_toIntS_f0 (a : List Int) (s79 : Int × List Int) : Option (Lr (Int × List Int) (List Int)) := x_laws_toIntS_b0 a s79.1 s79.2
noncomputable def x_laws_toIntS (a : List Int) : Option (List Int) :=
  xg (0 ≤ (a.length : Int) ∧ (a.length : Int) ≤ 1099511627776) <| Option.bind (iter (x_laws_toIntS_f0 a) (0, List.replicate ((a.length : Int).toNat) 0)) fun (y80 : List Int) => some y80
theorem ct_laws_toIntS (w : World) (X S : Bs) (a : List Int) (s_a : Sv) (hS : ∀ b, S b → b < w.heap.size ∧ ¬ X b) (a_a_0 : (cSl 1 fI a).rd S w s_a.v) (oL : Sep [] X w) {r : List Int} (hx : x_laws_toIntS a = some r) :
    Ret Try.prog 8 [s_a.v] w (fun u w' => ∃ y : Sv, u = y.v ∧ Gives X S w [oC (cSl 1 fI r) y.v] [] w') := by
  unfold x_laws_toIntS at hx
  refine enter Try.func8 rfl Try.ntmps8 (by kernel_rfl) rfl ?_
  have hM := St.enter oL hS
  have hM := hM.addE (r := rV s_a.v (cSl 1 fI a)) a_a_0
  refine wc_seq ?_
  refine wc_region ?_
  refine wv rfl (r_assign rfl) ?_
  refine wl_nil ?_
  refine sq_n ?_
  refine wc_seq ?_
  refine wc_region ?_
  refine wv rfl (r_move rfl) ?_
  refine wv rfl (r_lenC Try.underlying22 rfl (hM.seeR (.head _))) ?_
  obtain ⟨hg89, hx⟩ := xg_some hx
  have hk90 : (a.length : Int) = ((a.length : Int).toNat : Int) := by omega
  refine w_ex rfl (x_make (f := fI) (k := ((a.length : Int).toNat)) 0 Try.underlying22 sz3 (fun _ => rfl) (fun _ => zP (pV _ rfl) zN) (by rw [← hk90]; rfl) (by omega) rfl hM ?_); intro s88 w87 hR91 hM
  refine wv rfl (r_assign rfl) ?_
  refine wl_nil ?_
  refine sq_n ?_
  refine wc_seq ?_
  refine wc_seq ?_
  refine wc_region ?_
  refine wv rfl (r_assign rfl) ?_
  refine wl_nil ?_
  refine sq_n ?_
  refine wc_block ?_
  obtain ⟨y95, hx, hx96⟩ := bind_some' hx
  obtain ⟨m101, hx⟩ := iter_run hx
  refine wc_loop (un fun (m99 : Nat) => un fun (i97 : Int) => fun (l98 : List Int) => [(0, s_a.v), (3, s88.v), (4, (.int .i64 i97))]) (un fun (m99 : Nat) => un fun (i97 : Int) => fun (l98 : List Int) w' => St ⟨w, X, S⟩ [oC (cSl 1 fI l98) s88.v] [rV s_a.v (cSl 1 fI a)] w' ∧ iterN _ m99 (i97, l98) = some y95) (fun p => p.1) (m101, 0, List.replicate ((a.length : Int).toNat) 0) ⟨rfl, rfl, rfl, trivial⟩ ⟨hM, hx⟩ ?_
  rintro ⟨m99, i97, l98⟩ w102 ⟨hM, hx⟩
  obtain ⟨m103, z104, rfl, hx, hx105⟩ := iterN_step hx
  unfold x_laws_toIntS_f0 x_laws_toIntS_b0 at hx
  try dsimp only at hx
  refine wc_seq ?_
  refine wc_seq ?_
  refine wc_region ?_
  refine wv rfl (r_move rfl) ?_
  refine wv rfl (r_move rfl) ?_
  refine wv rfl (r_lenC Try.underlying22 rfl (hM.seeR (.head _))) ?_
  refine wv rfl (r_lss rfl rfl) ?_
  refine wl_nil ?_
  refine sq_n ?_
  refine wc_cond rfl (fun hc110 => ?_) (fun hc110 => ?_)
  · replace hx := xif_t hc110 hx
    refine wc_skip ?_
    refine sq_n ?_
    refine wc_seq ?_
    refine wc_block ?_
    refine wc_region ?_
    refine wv rfl (r_move rfl) ?_
    refine wv rfl (r_move rfl) ?_
    refine wv rfl (r_move rfl) ?_
    refine wv rfl (r_move rfl) ?_
    obtain ⟨hg117, hx⟩ := xg_some hx
    have hi116 : i97.toNat < a.length := by omega
    refine wv rfl (r_ixC Try.underlying22 sz3 rfl rfl (hM.seeR (.head _)) hg117) ?_
    refine wv rfl (r_ld Try.underlying3 rfl rfl (Cs.get (i := i97.toNat) (j := 0) (hM.seeR (.head _)) (fun _ => rfl) hi116 rfl)) ?_
    obtain ⟨hg121, hx⟩ := xg_some hx
    have hi120 : i97.toNat < l98.length := by omega
    refine wv rfl (r_ixC Try.underlying22 sz3 rfl rfl (hM.seeO (.head _)) hg121) ?_
    refine w_exu (x_stE (f := fI) (k := 1) (L := l98) (i := i97.toNat) (j := 0) (el a i97.toNat) [cI (el a i97.toNat)] sz3 (fun _ => rfl) rfl rfl hi120 rfl rfl rfl rfl rfl (fun _ => zP (pV _ rfl) zN) hM ?_); intro w122 hM
    refine wl_nil ?_
    refine bk_n ?_
    refine sq_n ?_
    refine wc_region ?_
    refine wv rfl (r_move rfl) ?_
    obtain ⟨hg126, hx⟩ := xg_some hx
    refine wv rfl (r_add rfl rfl hg126) ?_
    refine wv rfl (r_assign rfl) ?_
    refine wl_nil ?_
    obtain rfl := Option.some.inj hx
    exact lp_end (m103, i97 + 1, l98.set i97.toNat (el a i97.toNat)) (Nat.lt_succ_self _) ⟨rfl, rfl, rfl, trivial⟩ ⟨hM, hx105⟩
  · replace hx := xif_f hc110 hx
    refine wc_exit ?_
    refine sq_exit ?_
    refine lp1_exit ?_
    obtain rfl := Option.some.inj hx
    obtain rfl := Option.some.inj hx105
    replace hx := hx96
    try dsimp only [Sum.elim_inl, Sum.elim_inr] at hx
    refine bk_here ?_
    refine sq_n ?_
    refine wc_seq ?_
    refine wc_region ?_
    refine wv rfl (r_move rfl) ?_
    refine wv rfl (r_assign rfl) ?_
    refine wl_nil ?_
    refine sq_n ?_
    refine wc_ret ?_
    obtain rfl := Option.some.inj hx
    refine fin_ret [s88.v] ⟨rfl, trivial⟩ ?_
    replace hM := hM.t1
    have hM := hM.fewer rsN
    exact ⟨s88, rfl, hM.gives⟩

noncomputable def x_laws_eqIntS_b0 (a : List Int) (b : List Int) (i9 : Int) : Option (Lr Int (Sum Unit Unit)) :=
  bif decide (i9 < (a.length : Int)) then (xg (0 ≤ i9 ∧ i9 < (a.length : Int)) <| xg (0 ≤ i9 ∧ i9 < (b.length : Int)) <| bif !decide ((el a i9.toNat) = (el b i9.toNat)) then (some (Lr.out (Sum.inr (())))) else (xg (inI (i9 + 1)) <| some (Lr.go (i9 + 1)))) else (some (Lr.out (Sum.inl ())))
noncomputable def x_laws_eqIntS_f0 (a : List Int) (b : List Int) (s58 : Int) : Option (Lr Int (Sum Unit Unit)) := x_laws_eqIntS_b0 a b s58
noncomputable def x_laws_eqIntS (a : List Int) (b : List Int) : Option Bool :=
  bif !decide ((a.length : Int) = (b.length : Int)) then (some false) else (Option.bind (iter (x_laws_eqIntS_f0 a b) 0) fun (y59 : Sum Unit Unit) => Sum.elim (fun _y60 => some true) (fun _y61 => some false) y59)
theorem ct_laws_eqIntS (w : World) (X S : Bs) (a : List Int) (s_a : Sv) (b : List Int) (s_b : Sv) (hS : ∀ b, S b → b < w.heap.size ∧ ¬ X b) (a_a_0 : (cSl 1 fI a).rd S w s_a.v) (a_b_0 : (cSl 1 fI b).rd S w s_b.v) (oL : Sep [] X w) {r : Bool} (hx : x_laws_eqIntS a b = some r) :
    Ret Try.prog 11 [s_a.v, s_b.v] w (fun u w' => ∃ _ : Unit, u = (.bool r) ∧ Gives X S w [] [] w') := by
  unfold x_laws_eqIntS at hx
  refine enter Try.func11 rfl Try.ntmps11 (by kernel_rfl) rfl ?_
  have hM := St.enter oL hS
  have hM := hM.addE (r := rV s_a.v (cSl 1 fI a)) a_a_0
  have hM := hM.addE (r := rV s_b.v (cSl 1 fI b)) a_b_0
  refine wc_seq ?_
  refine wc_region ?_
  refine wv rfl (r_assign rfl) ?_
  refine wl_nil ?_
  refine sq_n ?_
  refine wc_seq ?_
  refine wc_seq ?_
  refine wc_region ?_
  refine wv rfl (r_move rfl) ?_
  refine wv rfl (r_lenC Try.underlying22 rfl (hM.seeR (.tail _ (.head _)))) ?_
  refine wv rfl (r_move rfl) ?_
  refine wv rfl (r_lenC Try.underlying22 rfl (hM.seeR (.head _))) ?_
  refine wv rfl (r_neq rfl rfl) ?_
  refine wl_nil ?_
  refine sq_n ?_
  refine wc_cond rfl (fun hc69 => ?_) (fun hc69 => ?_)
  · replace hx := xif_t hc69 hx
    refine wc_seq ?_
    refine wc_region ?_
    refine wv rfl (r_assign rfl) ?_
    refine wl_nil ?_
    refine sq_n ?_
    refine wc_ret ?_
    refine sq_ret ?_
    obtain rfl := Option.some.inj hx
    refine fin_ret [(.bool false)] ⟨rfl, trivial⟩ ?_
    replace hM := hM.t0
    have hM := hM.fewer rsN
    exact ⟨(), rfl, hM.gives⟩
  · replace hx := xif_f hc69 hx
    refine wc_skip ?_
    refine sq_n ?_
    refine wc_seq ?_
    refine wc_seq ?_
    refine wc_region ?_
    refine wv rfl (r_assign rfl) ?_
    refine wl_nil ?_
    refine sq_n ?_
    refine wc_block ?_
    obtain ⟨y72, hx, hx73⟩ := bind_some' hx
    have hM := hM.fewer (rsC (.tail _ (.head _)) (rsC (.head _) rsN))
    replace hM : St ⟨w, X, S⟩ [] [rV s_a.v (cSl 1 fI a), rV s_b.v (cSl 1 fI b)] _ := hM
    obtain ⟨m77, hx⟩ := iter_run hx
    refine wc_loop (un fun (m75 : Nat) => fun (i74 : Int) => [(0, s_a.v), (1, s_b.v), (5, (.int .i64 i74))]) (un fun (m75 : Nat) => fun (i74 : Int) w' => St ⟨w, X, S⟩ [] [rV s_a.v (cSl 1 fI a), rV s_b.v (cSl 1 fI b)] w' ∧ iterN _ m75 i74 = some y72) (fun p => p.1) (m77, 0) ⟨rfl, rfl, rfl, trivial⟩ ⟨hM, hx⟩ ?_
    rintro ⟨m75, i74⟩ w78 ⟨hM, hx⟩
    obtain ⟨m79, z80, rfl, hx, hx81⟩ := iterN_step hx
    unfold x_laws_eqIntS_f0 x_laws_eqIntS_b0 at hx
    try dsimp only at hx
    refine wc_seq ?_
    refine wc_seq ?_
    refine wc_region ?_
    refine wv rfl (r_move rfl) ?_
    refine wv rfl (r_move rfl) ?_
    refine wv rfl (r_lenC Try.underlying22 rfl (hM.seeR (.head _))) ?_
    refine wv rfl (r_lss rfl rfl) ?_
    refine wl_nil ?_
    refine sq_n ?_
    refine wc_cond rfl (fun hc86 => ?_) (fun hc86 => ?_)
    · replace hx := xif_t hc86 hx
      refine wc_skip ?_
      refine sq_n ?_
      refine wc_seq ?_
      refine wc_block ?_
      refine wc_seq ?_
      refine wc_draw [(0, 0), (1, 0), (2, 0), (3, 0), (4, 0), (5, 0), (6, 0), (7, 0), (8, 0)] Try_mixed (by kernel_rfl) rfl (by kernel_rfl) rfl ?_
      refine ov rfl (fun w' h' => r_move rfl) ?_
      refine ov rfl (fun w' h' => r_move rfl) ?_
      obtain ⟨hg91, hx⟩ := xg_some hx
      have hi90 : i74.toNat < a.length := by omega
      refine ov rfl (fun w' h' => r_ixC Try.underlying22 sz3 rfl rfl ((hM.call h').seeR (.head _)) hg91) ?_
      refine ov rfl (fun w' h' => r_ld Try.underlying3 rfl rfl (Cs.get (i := i74.toNat) (j := 0) ((hM.call h').seeR (.head _)) (fun _ => rfl) hi90 rfl)) ?_
      refine ov rfl (fun w' h' => r_move rfl) ?_
      refine ov rfl (fun w' h' => r_move rfl) ?_
      obtain ⟨hg97, hx⟩ := xg_some hx
      have hi96 : i74.toNat < b.length := by omega
      refine ov rfl (fun w' h' => r_ixC Try.underlying22 sz3 rfl rfl ((hM.call h').seeR (.tail _ (.head _))) hg97) ?_
      refine ov rfl (fun w' h' => r_ld Try.underlying3 rfl rfl (Cs.get (i := i74.toNat) (j := 0) ((hM.call h').seeR (.tail _ (.head _))) (fun _ => rfl) hi96 rfl)) ?_
      refine ov rfl (fun w' h' => r_neq rfl rfl) ?_
      refine o_nil fun w100 hw101 => ?_
      have hM := hM.call hw101
      refine sq_n ?_
      refine wc_cond rfl (fun hc102 => ?_) (fun hc102 => ?_)
      · replace hx := xif_t hc102 hx
        refine wc_seq ?_
        refine wc_region ?_
        refine wv rfl (r_assign rfl) ?_
        refine wl_nil ?_
        refine sq_n ?_
        refine wc_ret ?_
        refine bk_ret ?_
        refine sq_ret ?_
        refine lp1_ret ?_
        obtain rfl := Option.some.inj hx
        obtain rfl := Option.some.inj hx81
        replace hx := hx73
        try dsimp only [Sum.elim_inl, Sum.elim_inr] at hx
        refine bk_ret ?_
        refine sq_ret ?_
        obtain rfl := Option.some.inj hx
        refine fin_ret [(.bool false)] ⟨rfl, trivial⟩ ?_
        replace hM := hM.t0
        have hM := hM.fewer rsN
        exact ⟨(), rfl, hM.gives⟩
      · replace hx := xif_f hc102 hx
        refine wc_skip ?_
        refine bk_n ?_
        refine sq_n ?_
        refine wc_region ?_
        refine wv rfl (r_move rfl) ?_
        obtain ⟨hg106, hx⟩ := xg_some hx
        refine wv rfl (r_add rfl rfl hg106) ?_
        refine wv rfl (r_assign rfl) ?_
        refine wl_nil ?_
        obtain rfl := Option.some.inj hx
        exact lp_end (m79, i74 + 1) (Nat.lt_succ_self _) ⟨rfl, rfl, rfl, trivial⟩ ⟨hM, hx81⟩
    · replace hx := xif_f hc86 hx
      refine wc_exit ?_
      refine sq_exit ?_
      refine lp1_exit ?_
      obtain rfl := Option.some.inj hx
      obtain rfl := Option.some.inj hx81
      replace hx := hx73
      try dsimp only [Sum.elim_inl, Sum.elim_inr] at hx
      refine bk_here ?_
      refine sq_n ?_
      refine wc_seq ?_
      refine wc_region ?_
      refine wv rfl (r_assign rfl) ?_
      refine wl_nil ?_
      refine sq_n ?_
      refine wc_ret ?_
      obtain rfl := Option.some.inj hx
      refine fin_ret [(.bool true)] ⟨rfl, trivial⟩ ?_
      replace hM := hM.t0
      have hM := hM.fewer rsN
      exact ⟨(), rfl, hM.gives⟩

noncomputable def x_laws_eqPart (a : DPart) (b : DPart) : Option Bool :=
  bif !decide (a.kind = b.kind) then (some false) else (bif !decide (a.n = b.n) then (some false) else (Option.bind (x_laws_eqIntS a.signs b.signs) fun r26 => bif !r26 then (some false) else (some true)))
theorem ct_laws_eqPart (w : World) (X S : Bs) (a : DPart) (s_a_2 : Sv) (b : DPart) (s_b_2 : Sv) (hS : ∀ b, S b → b < w.heap.size ∧ ¬ X b) (a_a_2 : (cSl 1 fI a.signs).rd S w s_a_2.v) (a_b_2 : (cSl 1 fI b.signs).rd S w s_b_2.v) (oL : Sep [] X w) {r : Bool} (hx : x_laws_eqPart a b = some r) :
    Ret Try.prog 48 [(.agg #[(.int .i64 a.kind), (.int .i64 a.n), s_a_2.v]), (.agg #[(.int .i64 b.kind), (.int .i64 b.n), s_b_2.v])] w (fun u w' => ∃ _ : Unit, u = (.bool r) ∧ Gives X S w [] [] w') := by
  unfold x_laws_eqPart at hx
  refine enter Try.func48 rfl Try.ntmps48 (by kernel_rfl) rfl ?_
  have hM := St.enter oL hS
  have hM := hM.addE (r := rV s_a_2.v (cSl 1 fI a.signs)) a_a_2
  have hM := hM.addE (r := rV s_b_2.v (cSl 1 fI b.signs)) a_b_2
  refine wc_seq ?_
  refine wc_region ?_
  refine w_ex rfl (x_box rfl hM ?_); intro b34 w33 hR35 hM
  replace hM : St ⟨w, X, S⟩ [oBox b34 #[(.int .i64 a.kind), (.int .i64 a.n), s_a_2.v] 67] [rV s_b_2.v (cSl 1 fI b.signs), rV s_a_2.v (cSl 1 fI a.signs)] _ := hM
  refine w_ex rfl (x_box rfl hM ?_); intro b38 w37 hR39 hM
  replace hM : St ⟨w, X, S⟩ [oBox b38 #[(.int .i64 b.kind), (.int .i64 b.n), s_b_2.v] 67, oBox b34 #[(.int .i64 a.kind), (.int .i64 a.n), s_a_2.v] 67] [rV s_b_2.v (cSl 1 fI b.signs), rV s_a_2.v (cSl 1 fI a.signs)] _ := hM
  refine wv rfl (r_assign rfl) ?_
  refine wl_nil ?_
  refine sq_n ?_
  refine wc_seq ?_
  refine wc_seq ?_
  refine wc_region ?_
  refine wv rfl (r_fld Try.underlying67 rfl rfl sz3 rfl) ?_
  refine wv rfl (r_ldB Try.underlying3 rfl rfl hM (.tail _ (.head _)) rfl) ?_
  refine wv rfl (r_fld Try.underlying67 rfl rfl sz3 rfl) ?_
  refine wv rfl (r_ldB Try.underlying3 rfl rfl hM (.head _) rfl) ?_
  refine wv rfl (r_neq rfl rfl) ?_
  refine wl_nil ?_
  refine sq_n ?_
  refine wc_cond rfl (fun hc47 => ?_) (fun hc47 => ?_)
  · replace hx := xif_t hc47 hx
    refine wc_seq ?_
    refine wc_region ?_
    refine wv rfl (r_assign rfl) ?_
    refine wl_nil ?_
    refine sq_n ?_
    refine wc_ret ?_
    refine sq_ret ?_
    obtain rfl := Option.some.inj hx
    refine fin_ret [(.bool false)] ⟨rfl, trivial⟩ ?_
    replace hM := hM.t0
    have hM := hM.fewer rsN
    exact ⟨(), rfl, hM.gives⟩
  · replace hx := xif_f hc47 hx
    refine wc_skip ?_
    refine sq_n ?_
    refine wc_seq ?_
    refine wc_seq ?_
    refine wc_region ?_
    refine wv rfl (r_fld Try.underlying67 rfl rfl sz3 rfl) ?_
    refine wv rfl (r_ldB Try.underlying3 rfl rfl hM (.tail _ (.head _)) rfl) ?_
    refine wv rfl (r_fld Try.underlying67 rfl rfl sz3 rfl) ?_
    refine wv rfl (r_ldB Try.underlying3 rfl rfl hM (.head _) rfl) ?_
    refine wv rfl (r_neq rfl rfl) ?_
    refine wl_nil ?_
    refine sq_n ?_
    refine wc_cond rfl (fun hc54 => ?_) (fun hc54 => ?_)
    · replace hx := xif_t hc54 hx
      refine wc_seq ?_
      refine wc_region ?_
      refine wv rfl (r_assign rfl) ?_
      refine wl_nil ?_
      refine sq_n ?_
      refine wc_ret ?_
      refine sq_ret ?_
      obtain rfl := Option.some.inj hx
      refine fin_ret [(.bool false)] ⟨rfl, trivial⟩ ?_
      replace hM := hM.t0
      have hM := hM.fewer rsN
      exact ⟨(), rfl, hM.gives⟩
    · replace hx := xif_f hc54 hx
      refine wc_skip ?_
      refine sq_n ?_
      refine wc_seq ?_
      refine wc_seq ?_
      refine wc_region ?_
      refine wv rfl (r_fld Try.underlying67 rfl rfl sz22 rfl) ?_
      refine wv rfl (r_ldB Try.underlying22 rfl rfl hM (.tail _ (.head _)) rfl) ?_
      refine wv rfl (r_fld Try.underlying67 rfl rfl sz22 rfl) ?_
      refine wv rfl (r_ldB Try.underlying22 rfl rfl hM (.head _) rfl) ?_
      obtain ⟨r60, h61, hx⟩ := bind_some' hx
      refine w_call rfl rfl (hM.callV fun X S oL hS hR hO => ct_laws_eqIntS _ X S a.signs s_a_2 b.signs s_b_2 hS (hR _ (.tail _ (.head _))) (hR _ (.head _)) oL h61) ?_
      rintro _ w62 ⟨rfl, hR63⟩
      have hM := hM.call hR63
      refine wv rfl (r_not rfl) ?_
      refine wl_nil ?_
      refine sq_n ?_
      refine wc_cond rfl (fun hc65 => ?_) (fun hc65 => ?_)
      · replace hx := xif_t hc65 hx
        refine wc_seq ?_
        refine wc_region ?_
        refine wv rfl (r_assign rfl) ?_
        refine wl_nil ?_
        refine sq_n ?_
        refine wc_ret ?_
        refine sq_ret ?_
        obtain rfl := Option.some.inj hx
        refine fin_ret [(.bool false)] ⟨rfl, trivial⟩ ?_
        replace hM := hM.t0
        have hM := hM.fewer rsN
        exact ⟨(), rfl, hM.gives⟩
      · replace hx := xif_f hc65 hx
        refine wc_skip ?_
        refine sq_n ?_
        refine wc_seq ?_
        refine wc_region ?_
        refine wv rfl (r_assign rfl) ?_
        refine wl_nil ?_
        refine sq_n ?_
        refine wc_ret ?_
        obtain rfl := Option.some.inj hx
        refine fin_ret [(.bool true)] ⟨rfl, trivial⟩ ?_
        replace hM := hM.t0
        have hM := hM.fewer rsN
        exact ⟨(), rfl, hM.gives⟩

noncomputable def x_laws_eqPartS_b0 (a : List DPart) (b : List DPart) (i9 : Int) : Option (Lr Int (Sum Unit Unit)) :=
  bif decide (i9 < (a.length : Int)) then (xg (0 ≤ i9 ∧ i9 < (a.length : Int)) <| xg (0 ≤ i9 ∧ i9 < (b.length : Int)) <| Option.bind (x_laws_eqPart (el a i9.toNat) (el b i9.toNat)) fun r61 => bif !r61 then (some (Lr.out (Sum.inr (())))) else (xg (inI (i9 + 1)) <| some (Lr.go (i9 + 1)))) else (some (Lr.out (Sum.inl ())))
noncomputable def x_laws_eqPartS_f0 (a : List DPart) (b : List DPart) (s72 : Int) : Option (Lr Int (Sum Unit Unit)) := x_laws_eqPartS_b0 a b s72
noncomputable def x_laws_eqPartS (a : List DPart) (b : List DPart) : Option Bool :=
  bif !decide ((a.length : Int) = (b.length : Int)) then (some false) else (Option.bind (iter (x_laws_eqPartS_f0 a b) 0) fun (y73 : Sum Unit Unit) => Sum.elim (fun _y74 => some true) (fun _y75 => some false) y73)
theorem ct_laws_eqPartS (w : World) (X S : Bs) (a : List DPart) (s_a : Sv) (b : List DPart) (s_b : Sv) (hS : ∀ b, S b → b < w.heap.size ∧ ¬ X b) (a_a_0 : (cSl 3 fDPart a).rd S w s_a.v) (a_b_0 : (cSl 3 fDPart b).rd S w s_b.v) (oL : Sep [] X w) {r : Bool} (hx : x_laws_eqPartS a b = some r) :
    Ret Try.prog 10 [s_a.v, s_b.v] w (fun u w' => ∃ _ : Unit, u = (.bool r) ∧ Gives X S w [] [] w') := by
  unfold x_laws_eqPartS at hx
  refine enter Try.func10 rfl Try.ntmps10 (by kernel_rfl) rfl ?_
  have hM := St.enter oL hS
  have hM := hM.addE (r := rV s_a.v (cSl 3 fDPart a)) a_a_0
  have hM := hM.addE (r := rV s_b.v (cSl 3 fDPart b)) a_b_0
  refine wc_seq ?_
  refine wc_region ?_
  refine wv rfl (r_assign rfl) ?_
  refine wl_nil ?_
  refine sq_n ?_
  refine wc_seq ?_
  refine wc_seq ?_
  refine wc_region ?_
  refine wv rfl (r_move rfl) ?_
  refine wv rfl (r_lenC Try.underlying23 rfl (hM.seeR (.tail _ (.head _)))) ?_
  refine wv rfl (r_move rfl) ?_
  refine wv rfl (r_lenC Try.underlying23 rfl (hM.seeR (.head _))) ?_
  refine wv rfl (r_neq rfl rfl) ?_
  refine wl_nil ?_
  refine sq_n ?_
  refine wc_cond rfl (fun hc83 => ?_) (fun hc83 => ?_)
  · replace hx := xif_t hc83 hx
    refine wc_seq ?_
    refine wc_region ?_
    refine wv rfl (r_assign rfl) ?_
    refine wl_nil ?_
    refine sq_n ?_
    refine wc_ret ?_
    refine sq_ret ?_
    obtain rfl := Option.some.inj hx
    refine fin_ret [(.bool false)] ⟨rfl, trivial⟩ ?_
    replace hM := hM.t0
    have hM := hM.fewer rsN
    exact ⟨(), rfl, hM.gives⟩
  · replace hx := xif_f hc83 hx
    refine wc_skip ?_
    refine sq_n ?_
    refine wc_seq ?_
    refine wc_seq ?_
    refine wc_region ?_
    refine wv rfl (r_assign rfl) ?_
    refine wl_nil ?_
    refine sq_n ?_
    refine wc_block ?_
    obtain ⟨y86, hx, hx87⟩ := bind_some' hx
    have hM := hM.fewer (rsC (.tail _ (.head _)) (rsC (.head _) rsN))
    replace hM : St ⟨w, X, S⟩ [] [rV s_a.v (cSl 3 fDPart a), rV s_b.v (cSl 3 fDPart b)] _ := hM
    obtain ⟨m91, hx⟩ := iter_run hx
    refine wc_loop (un fun (m89 : Nat) => fun (i88 : Int) => [(0, s_a.v), (1, s_b.v), (5, (.int .i64 i88))]) (un fun (m89 : Nat) => fun (i88 : Int) w' => St ⟨w, X, S⟩ [] [rV s_a.v (cSl 3 fDPart a), rV s_b.v (cSl 3 fDPart b)] w' ∧ iterN _ m89 i88 = some y86) (fun p => p.1) (m91, 0) ⟨rfl, rfl, rfl, trivial⟩ ⟨hM, hx⟩ ?_
    rintro ⟨m89, i88⟩ w92 ⟨hM, hx⟩
    obtain ⟨m93, z94, rfl, hx, hx95⟩ := iterN_step hx
    unfold x_laws_eqPartS_f0 x_laws_eqPartS_b0 at hx
    try dsimp only at hx
    refine wc_seq ?_
    refine wc_seq ?_
    refine wc_region ?_
    refine wv rfl (r_move rfl) ?_
    refine wv rfl (r_move rfl) ?_
    refine wv rfl (r_lenC Try.underlying23 rfl (hM.seeR (.head _))) ?_
    refine wv rfl (r_lss rfl rfl) ?_
    refine wl_nil ?_
    refine sq_n ?_
    refine wc_cond rfl (fun hc100 => ?_) (fun hc100 => ?_)
    · replace hx := xif_t hc100 hx
      refine wc_skip ?_
      refine sq_n ?_
      refine wc_seq ?_
      refine wc_block ?_
      refine wc_seq ?_
      refine wc_draw [(0, 0), (1, 0), (2, 0), (3, 0), (4, 0), (5, 0), (6, 0), (7, 0), (8, 0), (9, 0)] Try_mixed (by kernel_rfl) rfl (by kernel_rfl) rfl ?_
      refine ov rfl (fun w' h' => r_move rfl) ?_
      refine ov rfl (fun w' h' => r_move rfl) ?_
      obtain ⟨hg105, hx⟩ := xg_some hx
      have hi104 : i88.toNat < a.length := by omega
      refine ov rfl (fun w' h' => r_ixC Try.underlying23 sz67 rfl rfl ((hM.call h').seeR (.head _)) hg105) ?_
      obtain ⟨s107, hM, hc108⟩ := hM.leaf (i := i88.toNat) (j := 2) (.head _) (fun _ => rfl) hi104 rfl
      refine ov rfl (fun w' h' => r_ldC (o := i88.toNat * 3) Try.underlying67 sz67 rfl (us := [(.int .i64 ((el a i88.toNat).kind)), (.int .i64 ((el a i88.toNat).n)), s107.v]) rfl ((hM.call h').seeR (.tail _ (.head _))) hi104 ⟨(Cs.get (i := i88.toNat) (j := 0) ((hM.call h').seeR (.tail _ (.head _))) (fun _ => rfl) hi104 rfl), (Cs.get (i := i88.toNat) (j := 1) ((hM.call h').seeR (.tail _ (.head _))) (fun _ => rfl) hi104 rfl), (hc108 w' h'), trivial⟩) ?_
      refine ov rfl (fun w' h' => r_move rfl) ?_
      refine ov rfl (fun w' h' => r_move rfl) ?_
      obtain ⟨hg113, hx⟩ := xg_some hx
      have hi112 : i88.toNat < b.length := by omega
      refine ov rfl (fun w' h' => r_ixC Try.underlying23 sz67 rfl rfl ((hM.call h').seeR (.tail _ (.tail _ (.head _)))) hg113) ?_
      obtain ⟨s115, hM, hc116⟩ := hM.leaf (i := i88.toNat) (j := 2) (.tail _ (.tail _ (.head _))) (fun _ => rfl) hi112 rfl
      refine ov rfl (fun w' h' => r_ldC (o := i88.toNat * 3) Try.underlying67 sz67 rfl (us := [(.int .i64 ((el b i88.toNat).kind)), (.int .i64 ((el b i88.toNat).n)), s115.v]) rfl ((hM.call h').seeR (.tail _ (.tail _ (.tail _ (.head _))))) hi112 ⟨(Cs.get (i := i88.toNat) (j := 0) ((hM.call h').seeR (.tail _ (.tail _ (.tail _ (.head _))))) (fun _ => rfl) hi112 rfl), (Cs.get (i := i88.toNat) (j := 1) ((hM.call h').seeR (.tail _ (.tail _ (.tail _ (.head _))))) (fun _ => rfl) hi112 rfl), (hc116 w' h'), trivial⟩) ?_
      obtain ⟨r117, h118, hx⟩ := bind_some' hx
      refine oc rfl rfl (fun w' h' => (hM.call h').callV fun X S oL hS hR hO => ct_laws_eqPart _ X S (el a i88.toNat) s107 (el b i88.toNat) s115 hS (hR _ (.tail _ (.head _))) (hR _ (.head _)) oL h118) ?_
      refine ov rfl (fun w' h' => r_not rfl) ?_
      refine o_nil fun w121 hw122 => ?_
      have hM := hM.call hw122
      refine sq_n ?_
      refine wc_cond rfl (fun hc123 => ?_) (fun hc123 => ?_)
      · replace hx := xif_t hc123 hx
        refine wc_seq ?_
        refine wc_region ?_
        refine wv rfl (r_assign rfl) ?_
        refine wl_nil ?_
        refine sq_n ?_
        refine wc_ret ?_
        refine bk_ret ?_
        refine sq_ret ?_
        refine lp1_ret ?_
        obtain rfl := Option.some.inj hx
        obtain rfl := Option.some.inj hx95
        replace hx := hx87
        try dsimp only [Sum.elim_inl, Sum.elim_inr] at hx
        refine bk_ret ?_
        refine sq_ret ?_
        obtain rfl := Option.some.inj hx
        refine fin_ret [(.bool false)] ⟨rfl, trivial⟩ ?_
        replace hM := hM.t0
        have hM := hM.fewer rsN
        exact ⟨(), rfl, hM.gives⟩
      · replace hx := xif_f hc123 hx
        refine wc_skip ?_
        refine bk_n ?_
        refine sq_n ?_
        refine wc_region ?_
        refine wv rfl (r_move rfl) ?_
        obtain ⟨hg127, hx⟩ := xg_some hx
        refine wv rfl (r_add rfl rfl hg127) ?_
        refine wv rfl (r_assign rfl) ?_
        refine wl_nil ?_
        obtain rfl := Option.some.inj hx
        have hM := hM.fewer (rsC (.tail _ (.tail _ (.head _))) (rsC (.tail _ (.tail _ (.tail _ (.head _)))) rsN))
        replace hM : St ⟨w, X, S⟩ [] [rV s_a.v (cSl 3 fDPart a), rV s_b.v (cSl 3 fDPart b)] _ := hM
        exact lp_end (m93, i88 + 1) (Nat.lt_succ_self _) ⟨rfl, rfl, rfl, trivial⟩ ⟨hM, hx95⟩
    · replace hx := xif_f hc100 hx
      refine wc_exit ?_
      refine sq_exit ?_
      refine lp1_exit ?_
      obtain rfl := Option.some.inj hx
      obtain rfl := Option.some.inj hx95
      replace hx := hx87
      try dsimp only [Sum.elim_inl, Sum.elim_inr] at hx
      refine bk_here ?_
      refine sq_n ?_
      refine wc_seq ?_
      refine wc_region ?_
      refine wv rfl (r_assign rfl) ?_
      refine wl_nil ?_
      refine sq_n ?_
      refine wc_ret ?_
      obtain rfl := Option.some.inj hx
      refine fin_ret [(.bool true)] ⟨rfl, trivial⟩ ?_
      replace hM := hM.t0
      have hM := hM.fewer rsN
      exact ⟨(), rfl, hM.gives⟩

noncomputable def x_laws_markIntS_b0 (k26 : Int) (i27 : Int) (l28 : List Int) : Option (Lr (Int × Int × List Int) (Int × List Int)) :=
  bif decide (i27 < (l28.length : Int)) then (xg (0 ≤ i27 ∧ i27 < (l28.length : Int)) <| xg (inI (k26 + 1)) <| xg (inI (i27 + 1)) <| some (Lr.go (k26 + 1, i27 + 1, l28.set i27.toNat k26))) else (some (Lr.out (k26, l28)))
noncomputable def x_laws_markIntS_f0 (s70 : Int × Int × List Int) : Option (Lr (Int × Int × List Int) (Int × List Int)) := x_laws_markIntS_b0 s70.1 s70.2.1 s70.2.2
noncomputable def x_laws_markIntS (a : List Int) (k : Int) : Option (Int × List Int) :=
  Option.bind (iter (x_laws_markIntS_f0) (k, 0, a)) fun (y71 : Int × List Int) => some (y71.1, y71.2)
theorem ct_laws_markIntS (w : World) (X S : Bs) (a : List Int) (s_a : Sv) (k : Int) (hS : ∀ b, S b → b < w.heap.size ∧ ¬ X b)  (oL : Sep [oC (cSl 1 fI a) s_a.v] X w) {r : Int × List Int} (hx : x_laws_markIntS a k = some r) :
    Ret Try.prog 12 [s_a.v, (.int .i64 k)] w (fun u w' => ∃ _ : Unit, u = (.int .i64 r.1) ∧ Gives X S w [oC (cSl 1 fI r.2) s_a.v] [] w') := by
  unfold x_laws_markIntS at hx
  refine enter Try.func12 rfl Try.ntmps12 (by kernel_rfl) rfl ?_
  have hM := St.enter oL hS
  refine wc_seq ?_
  refine wc_region ?_
  refine wv rfl (r_assign rfl) ?_
  refine wl_nil ?_
  refine sq_n ?_
  refine wc_seq ?_
  refine wc_seq ?_
  refine wc_region ?_
  refine wv rfl (r_assign rfl) ?_
  refine wl_nil ?_
  refine sq_n ?_
  refine wc_block ?_
  obtain ⟨y77, hx, hx78⟩ := bind_some' hx
  obtain ⟨m84, hx⟩ := iter_run hx
  refine wc_loop (un fun (m82 : Nat) => un fun (k79 : Int) => un fun (i80 : Int) => fun (l81 : List Int) => [(0, s_a.v), (1, (.int .i64 k79)), (5, (.int .i64 i80))]) (un fun (m82 : Nat) => un fun (k79 : Int) => un fun (i80 : Int) => fun (l81 : List Int) w' => St ⟨w, X, S⟩ [oC (cSl 1 fI l81) s_a.v] [] w' ∧ iterN _ m82 (k79, i80, l81) = some y77) (fun p => p.1) (m84, k, 0, a) ⟨rfl, rfl, rfl, trivial⟩ ⟨hM, hx⟩ ?_
  rintro ⟨m82, k79, i80, l81⟩ w85 ⟨hM, hx⟩
  obtain ⟨m86, z87, rfl, hx, hx88⟩ := iterN_step hx
  unfold x_laws_markIntS_f0 x_laws_markIntS_b0 at hx
  try dsimp only at hx
  refine wc_seq ?_
  refine wc_seq ?_
  refine wc_region ?_
  refine wv rfl (r_move rfl) ?_
  refine wv rfl (r_move rfl) ?_
  refine wv rfl (r_lenC Try.underlying22 rfl (hM.seeO (.head _))) ?_
  refine wv rfl (r_lss rfl rfl) ?_
  refine wl_nil ?_
  refine sq_n ?_
  refine wc_cond rfl (fun hc93 => ?_) (fun hc93 => ?_)
  · replace hx := xif_t hc93 hx
    refine wc_skip ?_
    refine sq_n ?_
    refine wc_seq ?_
    refine wc_block ?_
    refine wc_seq ?_
    refine wc_region ?_
    refine wv rfl (r_move rfl) ?_
    refine wv rfl (r_move rfl) ?_
    refine wv rfl (r_move rfl) ?_
    obtain ⟨hg99, hx⟩ := xg_some hx
    have hi98 : i80.toNat < l81.length := by omega
    refine wv rfl (r_ixC Try.underlying22 sz3 rfl rfl (hM.seeO (.head _)) hg99) ?_
    refine w_exu (x_stE (f := fI) (k := 1) (L := l81) (i := i80.toNat) (j := 0) k79 [cI k79] sz3 (fun _ => rfl) rfl rfl hi98 rfl rfl rfl rfl rfl (fun _ => zP (pV _ rfl) zN) hM ?_); intro w100 hM
    refine wl_nil ?_
    refine sq_n ?_
    refine wc_region ?_
    refine wv rfl (r_move rfl) ?_
    obtain ⟨hg104, hx⟩ := xg_some hx
    refine wv rfl (r_add rfl rfl hg104) ?_
    refine wv rfl (r_assign rfl) ?_
    refine wl_nil ?_
    refine bk_n ?_
    refine sq_n ?_
    refine wc_region ?_
    refine wv rfl (r_move rfl) ?_
    obtain ⟨hg108, hx⟩ := xg_some hx
    refine wv rfl (r_add rfl rfl hg108) ?_
    refine wv rfl (r_assign rfl) ?_
    refine wl_nil ?_
    obtain rfl := Option.some.inj hx
    exact lp_end (m86, k79 + 1, i80 + 1, l81.set i80.toNat k79) (Nat.lt_succ_self _) ⟨rfl, rfl, rfl, trivial⟩ ⟨hM, hx88⟩
  · replace hx := xif_f hc93 hx
    refine wc_exit ?_
    refine sq_exit ?_
    refine lp1_exit ?_
    obtain rfl := Option.some.inj hx
    obtain rfl := Option.some.inj hx88
    replace hx := hx78
    try dsimp only [Sum.elim_inl, Sum.elim_inr] at hx
    refine bk_here ?_
    refine sq_n ?_
    refine wc_seq ?_
    refine wc_region ?_
    refine wv rfl (r_move rfl) ?_
    refine wv rfl (r_assign rfl) ?_
    refine wl_nil ?_
    refine sq_n ?_
    refine wc_ret ?_
    obtain rfl := Option.some.inj hx
    refine fin_ret [(.int .i64 k79)] ⟨rfl, trivial⟩ ?_
    replace hM := hM.t1
    have hM := hM.fewer rsN
    exact ⟨(), rfl, hM.gives⟩

noncomputable def x_laws_markPartS_b0 (k56 : Int) (i57 : Int) (l58 : List DPart) : Option (Lr (Int × Int × List DPart) (Int × List DPart)) :=
  bif decide (i57 < (l58.length : Int)) then (xg (0 ≤ i57 ∧ i57 < (l58.length : Int)) <| xg (inI (k56 + 1)) <| xg (0 ≤ i57 ∧ i57 < ((l58.set i57.toNat (⟨k56, (el l58 i57.toNat).n, (el l58 i57.toNat).signs⟩ : DPart)).length : Int)) <| xg (inI ((k56 + 1) + 1)) <| xg (0 ≤ i57 ∧ i57 < (((l58.set i57.toNat (⟨k56, (el l58 i57.toNat).n, (el l58 i57.toNat).signs⟩ : DPart)).set i57.toNat (⟨(el (l58.set i57.toNat (⟨k56, (el l58 i57.toNat).n, (el l58 i57.toNat).signs⟩ : DPart)) i57.toNat).kind, k56 + 1, (el (l58.set i57.toNat (⟨k56, (el l58 i57.toNat).n, (el l58 i57.toNat).signs⟩ : DPart)) i57.toNat).signs⟩ : DPart)).length : Int)) <| Option.bind (x_laws_markIntS ((el ((l58.set i57.toNat (⟨k56, (el l58 i57.toNat).n, (el l58 i57.toNat).signs⟩ : DPart)).set i57.toNat (⟨(el (l58.set i57.toNat (⟨k56, (el l58 i57.toNat).n, (el l58 i57.toNat).signs⟩ : DPart)) i57.toNat).kind, k56 + 1, (el (l58.set i57.toNat (⟨k56, (el l58 i57.toNat).n, (el l58 i57.toNat).signs⟩ : DPart)) i57.toNat).signs⟩ : DPart)) i57.toNat).signs) ((k56 + 1) + 1)) fun r152 => xg (inI (i57 + 1)) <| some (Lr.go (r152.1, i57 + 1, ((l58.set i57.toNat (⟨k56, (el l58 i57.toNat).n, (el l58 i57.toNat).signs⟩ : DPart)).set i57.toNat (⟨(el (l58.set i57.toNat (⟨k56, (el l58 i57.toNat).n, (el l58 i57.toNat).signs⟩ : DPart)) i57.toNat).kind, k56 + 1, (el (l58.set i57.toNat (⟨k56, (el l58 i57.toNat).n, (el l58 i57.toNat).signs⟩ : DPart)) i57.toNat).signs⟩ : DPart)).set i57.toNat (⟨(el ((l58.set i57.toNat (⟨k56, (el l58 i57.toNat).n, (el l58 i57.toNat).signs⟩ : DPart)).set i57.toNat (⟨(el (l58.set i57.toNat (⟨k56, (el l58 i57.toNat).n, (el l58 i57.toNat).signs⟩ : DPart)) i57.toNat).kind, k56 + 1, (el (l58.set i57.toNat (⟨k56, (el l58 i57.toNat).n, (el l58 i57.toNat).signs⟩ : DPart)) i57.toNat).signs⟩ : DPart)) i57.toNat).kind, (el ((l58.set i57.toNat (⟨k56, (el l58 i57.toNat).n, (el l58 i57.toNat).signs⟩ : DPart)).set i57.toNat (⟨(el (l58.set i57.toNat (⟨k56, (el l58 i57.toNat).n, (el l58 i57.toNat).signs⟩ : DPart)) i57.toNat).kind, k56 + 1, (el (l58.set i57.toNat (⟨k56, (el l58 i57.toNat).n, (el l58 i57.toNat).signs⟩ : DPart)) i57.toNat).signs⟩ : DPart)) i57.toNat).n, r152.2⟩ : DPart)))) else (some (Lr.out (k56, l58)))
noncomputable def x_laws_markPartS_f0 (s160 : Int × Int × List DPart) : Option (Lr (Int × Int × List DPart) (Int × List DPart)) := x_laws_markPartS_b0 s160.1 s160.2.1 s160.2.2
noncomputable def x_laws_markPartS (a : List DPart) (k : Int) : Option (Int × List DPart) :=
  Option.bind (iter (x_laws_markPartS_f0) (k, 0, a)) fun (y161 : Int × List DPart) => some (y161.1, y161.2)
theorem ct_laws_markPartS (w : World) (X S : Bs) (a : List DPart) (s_a : Sv) (k : Int) (hS : ∀ b, S b → b < w.heap.size ∧ ¬ X b)  (oL : Sep [oC (cSl 3 fDPart a) s_a.v] X w) {r : Int × List DPart} (hx : x_laws_markPartS a k = some r) :
    Ret Try.prog 13 [s_a.v, (.int .i64 k)] w (fun u w' => ∃ _ : Unit, u = (.int .i64 r.1) ∧ Gives X S w [oC (cSl 3 fDPart r.2) s_a.v] [] w') := by
  unfold x_laws_markPartS at hx
  refine enter Try.func13 rfl Try.ntmps13 (by kernel_rfl) rfl ?_
  have hM := St.enter oL hS
  refine wc_seq ?_
  refine wc_region ?_
  refine wv rfl (r_assign rfl) ?_
  refine wl_nil ?_
  refine sq_n ?_
  refine wc_seq ?_
  refine wc_seq ?_
  refine wc_region ?_
  refine wv rfl (r_assign rfl) ?_
  refine wl_nil ?_
  refine sq_n ?_
  refine wc_block ?_
  obtain ⟨y167, hx, hx168⟩ := bind_some' hx
  obtain ⟨m174, hx⟩ := iter_run hx
  refine wc_loop (un fun (m172 : Nat) => un fun (k169 : Int) => un fun (i170 : Int) => fun (l171 : List DPart) => [(0, s_a.v), (1, (.int .i64 k169)), (5, (.int .i64 i170))]) (un fun (m172 : Nat) => un fun (k169 : Int) => un fun (i170 : Int) => fun (l171 : List DPart) w' => St ⟨w, X, S⟩ [oC (cSl 3 fDPart l171) s_a.v] [] w' ∧ iterN _ m172 (k169, i170, l171) = some y167) (fun p => p.1) (m174, k, 0, a) ⟨rfl, rfl, rfl, trivial⟩ ⟨hM, hx⟩ ?_
  rintro ⟨m172, k169, i170, l171⟩ w175 ⟨hM, hx⟩
  obtain ⟨m176, z177, rfl, hx, hx178⟩ := iterN_step hx
  unfold x_laws_markPartS_f0 x_laws_markPartS_b0 at hx
  try dsimp only at hx
  refine wc_seq ?_
  refine wc_seq ?_
  refine wc_region ?_
  refine wv rfl (r_move rfl) ?_
  refine wv rfl (r_move rfl) ?_
  refine wv rfl (r_lenC Try.underlying23 rfl (hM.seeO (.head _))) ?_
  refine wv rfl (r_lss rfl rfl) ?_
  refine wl_nil ?_
  refine sq_n ?_
  refine wc_cond rfl (fun hc183 => ?_) (fun hc183 => ?_)
  · replace hx := xif_t hc183 hx
    refine wc_skip ?_
    refine sq_n ?_
    refine wc_seq ?_
    refine wc_block ?_
    refine wc_seq ?_
    refine wc_region ?_
    refine wv rfl (r_move rfl) ?_
    refine wv rfl (r_move rfl) ?_
    refine wv rfl (r_move rfl) ?_
    obtain ⟨hg189, hx⟩ := xg_some hx
    have hi188 : i170.toNat < l171.length := by omega
    refine wv rfl (r_ixC Try.underlying23 sz67 rfl rfl (hM.seeO (.head _)) hg189) ?_
    refine wv rfl (r_fldC (i := i170.toNat) Try.underlying67 rfl rfl sz3 rfl (hM.seeO (.head _)) hi188) ?_
    refine w_exu (x_stE (f := fDPart) (k := 3) (L := l171) (i := i170.toNat) (j := 0) (⟨k169, (el l171 i170.toNat).n, (el l171 i170.toNat).signs⟩ : DPart) [cI k169] sz3 (fun _ => rfl) rfl rfl hi188 rfl rfl rfl rfl rfl (fun _ => zP (pV _ rfl) zN) hM ?_); intro w191 hM
    refine wl_nil ?_
    refine sq_n ?_
    refine wc_seq ?_
    refine wc_region ?_
    refine wv rfl (r_move rfl) ?_
    obtain ⟨hg195, hx⟩ := xg_some hx
    refine wv rfl (r_add rfl rfl hg195) ?_
    refine wv rfl (r_assign rfl) ?_
    refine wl_nil ?_
    refine sq_n ?_
    refine wc_seq ?_
    refine wc_region ?_
    refine wv rfl (r_move rfl) ?_
    refine wv rfl (r_move rfl) ?_
    refine wv rfl (r_move rfl) ?_
    obtain ⟨hg202, hx⟩ := xg_some hx
    have hi201 : i170.toNat < (l171.set i170.toNat (⟨k169, (el l171 i170.toNat).n, (el l171 i170.toNat).signs⟩ : DPart)).length := by omega
    refine wv rfl (r_ixC Try.underlying23 sz67 rfl rfl (hM.seeO (.head _)) hg202) ?_
    refine wv rfl (r_fldC (i := i170.toNat) Try.underlying67 rfl rfl sz3 rfl (hM.seeO (.head _)) hi201) ?_
    refine w_exu (x_stE (f := fDPart) (k := 3) (L := (l171.set i170.toNat (⟨k169, (el l171 i170.toNat).n, (el l171 i170.toNat).signs⟩ : DPart))) (i := i170.toNat) (j := 1) (⟨(el (l171.set i170.toNat (⟨k169, (el l171 i170.toNat).n, (el l171 i170.toNat).signs⟩ : DPart)) i170.toNat).kind, k169 + 1, (el (l171.set i170.toNat (⟨k169, (el l171 i170.toNat).n, (el l171 i170.toNat).signs⟩ : DPart)) i170.toNat).signs⟩ : DPart) [cI (k169 + 1)] sz3 (fun _ => rfl) rfl rfl hi201 rfl rfl rfl rfl rfl (fun _ => zP (pV _ rfl) zN) hM ?_); intro w204 hM
    refine wl_nil ?_
    refine sq_n ?_
    refine wc_seq ?_
    refine wc_region ?_
    refine wv rfl (r_move rfl) ?_
    obtain ⟨hg208, hx⟩ := xg_some hx
    refine wv rfl (r_add rfl rfl hg208) ?_
    refine wv rfl (r_assign rfl) ?_
    refine wl_nil ?_
    refine sq_n ?_
    refine wc_region ?_
    refine wv rfl (r_move rfl) ?_
    refine wv rfl (r_move rfl) ?_
    obtain ⟨hg214, hx⟩ := xg_some hx
    have hi213 : i170.toNat < ((l171.set i170.toNat (⟨k169, (el l171 i170.toNat).n, (el l171 i170.toNat).signs⟩ : DPart)).set i170.toNat (⟨(el (l171.set i170.toNat (⟨k169, (el l171 i170.toNat).n, (el l171 i170.toNat).signs⟩ : DPart)) i170.toNat).kind, k169 + 1, (el (l171.set i170.toNat (⟨k169, (el l171 i170.toNat).n, (el l171 i170.toNat).signs⟩ : DPart)) i170.toNat).signs⟩ : DPart)).length := by omega
    refine wv rfl (r_ixC Try.underlying23 sz67 rfl rfl (hM.seeO (.head _)) hg214) ?_
    refine wv rfl (r_fldC (i := i170.toNat) Try.underlying67 rfl rfl sz22 rfl (hM.seeO (.head _)) hi213) ?_
    obtain ⟨s217, hM, hc218⟩ := hM.leafO (i := i170.toNat) (j := 2) (fun _ => rfl) hi213 rfl
    refine wv rfl (r_ld Try.underlying22 rfl rfl (hc218 _ (Rel.refl _))) ?_
    refine wv rfl (r_move rfl) ?_
    have hM := hM.open (i := i170.toNat) (j := 2) (.tail _ (.head _)) (fun _ => rfl) hi213 rfl
    obtain ⟨r222, h223, hx⟩ := bind_some' hx
    refine w_call rfl rfl (hM.callO (l := [oC (cSl 1 fI ((el ((l171.set i170.toNat (⟨k169, (el l171 i170.toNat).n, (el l171 i170.toNat).signs⟩ : DPart)).set i170.toNat (⟨(el (l171.set i170.toNat (⟨k169, (el l171 i170.toNat).n, (el l171 i170.toNat).signs⟩ : DPart)) i170.toNat).kind, k169 + 1, (el (l171.set i170.toNat (⟨k169, (el l171 i170.toNat).n, (el l171 i170.toNat).signs⟩ : DPart)) i170.toNat).signs⟩ : DPart)) i170.toNat).signs)) s217.v]) fun X S oL hS hR hO => ct_laws_markIntS _ X S ((el ((l171.set i170.toNat (⟨k169, (el l171 i170.toNat).n, (el l171 i170.toNat).signs⟩ : DPart)).set i170.toNat (⟨(el (l171.set i170.toNat (⟨k169, (el l171 i170.toNat).n, (el l171 i170.toNat).signs⟩ : DPart)) i170.toNat).kind, k169 + 1, (el (l171.set i170.toNat (⟨k169, (el l171 i170.toNat).n, (el l171 i170.toNat).signs⟩ : DPart)) i170.toNat).signs⟩ : DPart)) i170.toNat).signs) s217 ((k169 + 1) + 1) hS  oL h223) ?_
    rintro _ w224 ⟨_, rfl, hM⟩
    replace hM : St ⟨w, X, S⟩ [oC (cSl 1 fI r222.2) s217.v, oHo 3 fDPart ((l171.set i170.toNat (⟨k169, (el l171 i170.toNat).n, (el l171 i170.toNat).signs⟩ : DPart)).set i170.toNat (⟨(el (l171.set i170.toNat (⟨k169, (el l171 i170.toNat).n, (el l171 i170.toNat).signs⟩ : DPart)) i170.toNat).kind, k169 + 1, (el (l171.set i170.toNat (⟨k169, (el l171 i170.toNat).n, (el l171 i170.toNat).signs⟩ : DPart)) i170.toNat).signs⟩ : DPart)) s_a.v (i170.toNat * 3 + 2) s217.v] [] _ := hM
    have hM := hM.close (i := i170.toNat) (j := 2) (⟨(el ((l171.set i170.toNat (⟨k169, (el l171 i170.toNat).n, (el l171 i170.toNat).signs⟩ : DPart)).set i170.toNat (⟨(el (l171.set i170.toNat (⟨k169, (el l171 i170.toNat).n, (el l171 i170.toNat).signs⟩ : DPart)) i170.toNat).kind, k169 + 1, (el (l171.set i170.toNat (⟨k169, (el l171 i170.toNat).n, (el l171 i170.toNat).signs⟩ : DPart)) i170.toNat).signs⟩ : DPart)) i170.toNat).kind, (el ((l171.set i170.toNat (⟨k169, (el l171 i170.toNat).n, (el l171 i170.toNat).signs⟩ : DPart)).set i170.toNat (⟨(el (l171.set i170.toNat (⟨k169, (el l171 i170.toNat).n, (el l171 i170.toNat).signs⟩ : DPart)) i170.toNat).kind, k169 + 1, (el (l171.set i170.toNat (⟨k169, (el l171 i170.toNat).n, (el l171 i170.toNat).signs⟩ : DPart)) i170.toNat).signs⟩ : DPart)) i170.toNat).n, r222.2⟩ : DPart) (fun _ => rfl) hi213 rfl rfl
    refine wv rfl (r_assign rfl) ?_
    refine wl_nil ?_
    refine bk_n ?_
    refine sq_n ?_
    refine wc_region ?_
    refine wv rfl (r_move rfl) ?_
    obtain ⟨hg228, hx⟩ := xg_some hx
    refine wv rfl (r_add rfl rfl hg228) ?_
    refine wv rfl (r_assign rfl) ?_
    refine wl_nil ?_
    obtain rfl := Option.some.inj hx
    exact lp_end (m176, r222.1, i170 + 1, ((l171.set i170.toNat (⟨k169, (el l171 i170.toNat).n, (el l171 i170.toNat).signs⟩ : DPart)).set i170.toNat (⟨(el (l171.set i170.toNat (⟨k169, (el l171 i170.toNat).n, (el l171 i170.toNat).signs⟩ : DPart)) i170.toNat).kind, k169 + 1, (el (l171.set i170.toNat (⟨k169, (el l171 i170.toNat).n, (el l171 i170.toNat).signs⟩ : DPart)) i170.toNat).signs⟩ : DPart)).set i170.toNat (⟨(el ((l171.set i170.toNat (⟨k169, (el l171 i170.toNat).n, (el l171 i170.toNat).signs⟩ : DPart)).set i170.toNat (⟨(el (l171.set i170.toNat (⟨k169, (el l171 i170.toNat).n, (el l171 i170.toNat).signs⟩ : DPart)) i170.toNat).kind, k169 + 1, (el (l171.set i170.toNat (⟨k169, (el l171 i170.toNat).n, (el l171 i170.toNat).signs⟩ : DPart)) i170.toNat).signs⟩ : DPart)) i170.toNat).kind, (el ((l171.set i170.toNat (⟨k169, (el l171 i170.toNat).n, (el l171 i170.toNat).signs⟩ : DPart)).set i170.toNat (⟨(el (l171.set i170.toNat (⟨k169, (el l171 i170.toNat).n, (el l171 i170.toNat).signs⟩ : DPart)) i170.toNat).kind, k169 + 1, (el (l171.set i170.toNat (⟨k169, (el l171 i170.toNat).n, (el l171 i170.toNat).signs⟩ : DPart)) i170.toNat).signs⟩ : DPart)) i170.toNat).n, r222.2⟩ : DPart)) (Nat.lt_succ_self _) ⟨rfl, rfl, rfl, trivial⟩ ⟨hM, hx178⟩
  · replace hx := xif_f hc183 hx
    refine wc_exit ?_
    refine sq_exit ?_
    refine lp1_exit ?_
    obtain rfl := Option.some.inj hx
    obtain rfl := Option.some.inj hx178
    replace hx := hx168
    try dsimp only [Sum.elim_inl, Sum.elim_inr] at hx
    refine bk_here ?_
    refine sq_n ?_
    refine wc_seq ?_
    refine wc_region ?_
    refine wv rfl (r_move rfl) ?_
    refine wv rfl (r_assign rfl) ?_
    refine wl_nil ?_
    refine sq_n ?_
    refine wc_ret ?_
    obtain rfl := Option.some.inj hx
    refine fin_ret [(.int .i64 k169)] ⟨rfl, trivial⟩ ?_
    replace hM := hM.t1
    have hM := hM.fewer rsN
    exact ⟨(), rfl, hM.gives⟩

noncomputable def x_laws_heldIntS_b0 (a : List Int) (k3 : Int) (i4 : Int) : Option (Lr (Int × Int) (Sum Int Int)) :=
  bif decide (i4 < (a.length : Int)) then (xg (0 ≤ i4 ∧ i4 < (a.length : Int)) <| bif !decide ((el a i4.toNat) = k3) then (some (Lr.out (Sum.inr (-1)))) else (xg (inI (k3 + 1)) <| xg (inI (i4 + 1)) <| some (Lr.go (k3 + 1, i4 + 1)))) else (some (Lr.out (Sum.inl k3)))
noncomputable def x_laws_heldIntS_f0 (a : List Int) (s47 : Int × Int) : Option (Lr (Int × Int) (Sum Int Int)) := x_laws_heldIntS_b0 a s47.1 s47.2
noncomputable def x_laws_heldIntS (a : List Int) (k : Int) : Option Int :=
  Option.bind (iter (x_laws_heldIntS_f0 a) (k, 0)) fun (y48 : Sum Int Int) => Sum.elim (fun y49 => some y49) (fun y50 => some y50) y48
theorem ct_laws_heldIntS (w : World) (X S : Bs) (a : List Int) (s_a : Sv) (k : Int) (hS : ∀ b, S b → b < w.heap.size ∧ ¬ X b) (a_a_0 : (cSl 1 fI a).rd S w s_a.v) (oL : Sep [] X w) {r : Int} (hx : x_laws_heldIntS a k = some r) :
    Ret Try.prog 49 [s_a.v, (.int .i64 k)] w (fun u w' => ∃ _ : Unit, u = (.int .i64 r) ∧ Gives X S w [] [] w') := by
  unfold x_laws_heldIntS at hx
  refine enter Try.func49 rfl Try.ntmps49 (by kernel_rfl) rfl ?_
  have hM := St.enter oL hS
  have hM := hM.addE (r := rV s_a.v (cSl 1 fI a)) a_a_0
  refine wc_seq ?_
  refine wc_region ?_
  refine wv rfl (r_assign rfl) ?_
  refine wl_nil ?_
  refine sq_n ?_
  refine wc_seq ?_
  refine wc_seq ?_
  refine wc_region ?_
  refine wv rfl (r_assign rfl) ?_
  refine wl_nil ?_
  refine sq_n ?_
  refine wc_block ?_
  obtain ⟨y55, hx, hx56⟩ := bind_some' hx
  obtain ⟨m61, hx⟩ := iter_run hx
  refine wc_loop (un fun (m59 : Nat) => un fun (k57 : Int) => fun (i58 : Int) => [(0, s_a.v), (1, (.int .i64 k57)), (5, (.int .i64 i58))]) (un fun (m59 : Nat) => un fun (k57 : Int) => fun (i58 : Int) w' => St ⟨w, X, S⟩ [] [rV s_a.v (cSl 1 fI a)] w' ∧ iterN _ m59 (k57, i58) = some y55) (fun p => p.1) (m61, k, 0) ⟨rfl, rfl, rfl, trivial⟩ ⟨hM, hx⟩ ?_
  rintro ⟨m59, k57, i58⟩ w62 ⟨hM, hx⟩
  obtain ⟨m63, z64, rfl, hx, hx65⟩ := iterN_step hx
  unfold x_laws_heldIntS_f0 x_laws_heldIntS_b0 at hx
  try dsimp only at hx
  refine wc_seq ?_
  refine wc_seq ?_
  refine wc_region ?_
  refine wv rfl (r_move rfl) ?_
  refine wv rfl (r_move rfl) ?_
  refine wv rfl (r_lenC Try.underlying22 rfl (hM.seeR (.head _))) ?_
  refine wv rfl (r_lss rfl rfl) ?_
  refine wl_nil ?_
  refine sq_n ?_
  refine wc_cond rfl (fun hc70 => ?_) (fun hc70 => ?_)
  · replace hx := xif_t hc70 hx
    refine wc_skip ?_
    refine sq_n ?_
    refine wc_seq ?_
    refine wc_block ?_
    refine wc_seq ?_
    refine wc_seq ?_
    refine wc_region ?_
    refine wv rfl (r_move rfl) ?_
    refine wv rfl (r_move rfl) ?_
    obtain ⟨hg75, hx⟩ := xg_some hx
    have hi74 : i58.toNat < a.length := by omega
    refine wv rfl (r_ixC Try.underlying22 sz3 rfl rfl (hM.seeR (.head _)) hg75) ?_
    refine wv rfl (r_ld Try.underlying3 rfl rfl (Cs.get (i := i58.toNat) (j := 0) (hM.seeR (.head _)) (fun _ => rfl) hi74 rfl)) ?_
    refine wv rfl (r_move rfl) ?_
    refine wv rfl (r_neq rfl rfl) ?_
    refine wl_nil ?_
    refine sq_n ?_
    refine wc_cond rfl (fun hc79 => ?_) (fun hc79 => ?_)
    · replace hx := xif_t hc79 hx
      refine wc_seq ?_
      refine wc_region ?_
      refine wv rfl (r_assign rfl) ?_
      refine wl_nil ?_
      refine sq_n ?_
      refine wc_ret ?_
      refine sq_ret ?_
      refine bk_ret ?_
      refine sq_ret ?_
      refine lp1_ret ?_
      obtain rfl := Option.some.inj hx
      obtain rfl := Option.some.inj hx65
      replace hx := hx56
      try dsimp only [Sum.elim_inl, Sum.elim_inr] at hx
      refine bk_ret ?_
      refine sq_ret ?_
      obtain rfl := Option.some.inj hx
      refine fin_ret [(.int .i64 (-1))] ⟨rfl, trivial⟩ ?_
      replace hM := hM.t0
      have hM := hM.fewer rsN
      exact ⟨(), rfl, hM.gives⟩
    · replace hx := xif_f hc79 hx
      refine wc_skip ?_
      refine sq_n ?_
      refine wc_region ?_
      refine wv rfl (r_move rfl) ?_
      obtain ⟨hg83, hx⟩ := xg_some hx
      refine wv rfl (r_add rfl rfl hg83) ?_
      refine wv rfl (r_assign rfl) ?_
      refine wl_nil ?_
      refine bk_n ?_
      refine sq_n ?_
      refine wc_region ?_
      refine wv rfl (r_move rfl) ?_
      obtain ⟨hg87, hx⟩ := xg_some hx
      refine wv rfl (r_add rfl rfl hg87) ?_
      refine wv rfl (r_assign rfl) ?_
      refine wl_nil ?_
      obtain rfl := Option.some.inj hx
      exact lp_end (m63, k57 + 1, i58 + 1) (Nat.lt_succ_self _) ⟨rfl, rfl, rfl, trivial⟩ ⟨hM, hx65⟩
  · replace hx := xif_f hc70 hx
    refine wc_exit ?_
    refine sq_exit ?_
    refine lp1_exit ?_
    obtain rfl := Option.some.inj hx
    obtain rfl := Option.some.inj hx65
    replace hx := hx56
    try dsimp only [Sum.elim_inl, Sum.elim_inr] at hx
    refine bk_here ?_
    refine sq_n ?_
    refine wc_seq ?_
    refine wc_region ?_
    refine wv rfl (r_move rfl) ?_
    refine wv rfl (r_assign rfl) ?_
    refine wl_nil ?_
    refine sq_n ?_
    refine wc_ret ?_
    obtain rfl := Option.some.inj hx
    refine fin_ret [(.int .i64 k57)] ⟨rfl, trivial⟩ ?_
    replace hM := hM.t0
    have hM := hM.fewer rsN
    exact ⟨(), rfl, hM.gives⟩

noncomputable def x_laws_heldPartS_b0 (a : List DPart) (k3 : Int) (i4 : Int) : Option (Lr (Int × Int) (Sum Int Int)) :=
  bif decide (i4 < (a.length : Int)) then (xg (0 ≤ i4 ∧ i4 < (a.length : Int)) <| bif !decide (((el a i4.toNat).kind) = k3) then (some (Lr.out (Sum.inr (-1)))) else (xg (inI (k3 + 1)) <| xg (0 ≤ i4 ∧ i4 < (a.length : Int)) <| bif !decide (((el a i4.toNat).n) = (k3 + 1)) then (some (Lr.out (Sum.inr (-1)))) else (xg (inI ((k3 + 1) + 1)) <| xg (0 ≤ i4 ∧ i4 < (a.length : Int)) <| Option.bind (x_laws_heldIntS ((el a i4.toNat).signs) ((k3 + 1) + 1)) fun r101 => bif decide (r101 < 0) then (some (Lr.out (Sum.inr (-1)))) else (xg (inI (i4 + 1)) <| some (Lr.go (r101, i4 + 1)))))) else (some (Lr.out (Sum.inl k3)))
noncomputable def x_laws_heldPartS_f0 (a : List DPart) (s113 : Int × Int) : Option (Lr (Int × Int) (Sum Int Int)) := x_laws_heldPartS_b0 a s113.1 s113.2
noncomputable def x_laws_heldPartS (a : List DPart) (k : Int) : Option Int :=
  Option.bind (iter (x_laws_heldPartS_f0 a) (k, 0)) fun (y114 : Sum Int Int) => Sum.elim (fun y115 => some y115) (fun y116 => some y116) y114
theorem ct_laws_heldPartS (w : World) (X S : Bs) (a : List DPart) (s_a : Sv) (k : Int) (hS : ∀ b, S b → b < w.heap.size ∧ ¬ X b) (a_a_0 : (cSl 3 fDPart a).rd S w s_a.v) (oL : Sep [] X w) {r : Int} (hx : x_laws_heldPartS a k = some r) :
    Ret Try.prog 14 [s_a.v, (.int .i64 k)] w (fun u w' => ∃ _ : Unit, u = (.int .i64 r) ∧ Gives X S w [] [] w') := by
  unfold x_laws_heldPartS at hx
  refine enter Try.func14 rfl Try.ntmps14 (by kernel_rfl) rfl ?_
  have hM := St.enter oL hS
  have hM := hM.addE (r := rV s_a.v (cSl 3 fDPart a)) a_a_0
  refine wc_seq ?_
  refine wc_region ?_
  refine wv rfl (r_assign rfl) ?_
  refine wl_nil ?_
  refine sq_n ?_
  refine wc_seq ?_
  refine wc_seq ?_
  refine wc_region ?_
  refine wv rfl (r_assign rfl) ?_
  refine wl_nil ?_
  refine sq_n ?_
  refine wc_block ?_
  obtain ⟨y121, hx, hx122⟩ := bind_some' hx
  obtain ⟨m127, hx⟩ := iter_run hx
  refine wc_loop (un fun (m125 : Nat) => un fun (k123 : Int) => fun (i124 : Int) => [(0, s_a.v), (1, (.int .i64 k123)), (5, (.int .i64 i124))]) (un fun (m125 : Nat) => un fun (k123 : Int) => fun (i124 : Int) w' => St ⟨w, X, S⟩ [] [rV s_a.v (cSl 3 fDPart a)] w' ∧ iterN _ m125 (k123, i124) = some y121) (fun p => p.1) (m127, k, 0) ⟨rfl, rfl, rfl, trivial⟩ ⟨hM, hx⟩ ?_
  rintro ⟨m125, k123, i124⟩ w128 ⟨hM, hx⟩
  obtain ⟨m129, z130, rfl, hx, hx131⟩ := iterN_step hx
  unfold x_laws_heldPartS_f0 x_laws_heldPartS_b0 at hx
  try dsimp only at hx
  refine wc_seq ?_
  refine wc_seq ?_
  refine wc_region ?_
  refine wv rfl (r_move rfl) ?_
  refine wv rfl (r_move rfl) ?_
  refine wv rfl (r_lenC Try.underlying23 rfl (hM.seeR (.head _))) ?_
  refine wv rfl (r_lss rfl rfl) ?_
  refine wl_nil ?_
  refine sq_n ?_
  refine wc_cond rfl (fun hc136 => ?_) (fun hc136 => ?_)
  · replace hx := xif_t hc136 hx
    refine wc_skip ?_
    refine sq_n ?_
    refine wc_seq ?_
    refine wc_block ?_
    refine wc_seq ?_
    refine wc_seq ?_
    refine wc_region ?_
    refine wv rfl (r_move rfl) ?_
    refine wv rfl (r_move rfl) ?_
    obtain ⟨hg141, hx⟩ := xg_some hx
    have hi140 : i124.toNat < a.length := by omega
    refine wv rfl (r_ixC Try.underlying23 sz67 rfl rfl (hM.seeR (.head _)) hg141) ?_
    refine wv rfl (r_fldC (i := i124.toNat) Try.underlying67 rfl rfl sz3 rfl (hM.seeR (.head _)) hi140) ?_
    refine wv rfl (r_ld Try.underlying3 rfl rfl (Cs.get (i := i124.toNat) (j := 0) (hM.seeR (.head _)) (fun _ => rfl) hi140 rfl)) ?_
    refine wv rfl (r_move rfl) ?_
    refine wv rfl (r_neq rfl rfl) ?_
    refine wl_nil ?_
    refine sq_n ?_
    refine wc_cond rfl (fun hc146 => ?_) (fun hc146 => ?_)
    · replace hx := xif_t hc146 hx
      refine wc_seq ?_
      refine wc_region ?_
      refine wv rfl (r_assign rfl) ?_
      refine wl_nil ?_
      refine sq_n ?_
      refine wc_ret ?_
      refine sq_ret ?_
      refine bk_ret ?_
      refine sq_ret ?_
      refine lp1_ret ?_
      obtain rfl := Option.some.inj hx
      obtain rfl := Option.some.inj hx131
      replace hx := hx122
      try dsimp only [Sum.elim_inl, Sum.elim_inr] at hx
      refine bk_ret ?_
      refine sq_ret ?_
      obtain rfl := Option.some.inj hx
      refine fin_ret [(.int .i64 (-1))] ⟨rfl, trivial⟩ ?_
      replace hM := hM.t0
      have hM := hM.fewer rsN
      exact ⟨(), rfl, hM.gives⟩
    · replace hx := xif_f hc146 hx
      refine wc_skip ?_
      refine sq_n ?_
      refine wc_seq ?_
      refine wc_region ?_
      refine wv rfl (r_move rfl) ?_
      obtain ⟨hg150, hx⟩ := xg_some hx
      refine wv rfl (r_add rfl rfl hg150) ?_
      refine wv rfl (r_assign rfl) ?_
      refine wl_nil ?_
      refine sq_n ?_
      refine wc_seq ?_
      refine wc_seq ?_
      refine wc_region ?_
      refine wv rfl (r_move rfl) ?_
      refine wv rfl (r_move rfl) ?_
      obtain ⟨hg156, hx⟩ := xg_some hx
      have hi155 : i124.toNat < a.length := by omega
      refine wv rfl (r_ixC Try.underlying23 sz67 rfl rfl (hM.seeR (.head _)) hg156) ?_
      refine wv rfl (r_fldC (i := i124.toNat) Try.underlying67 rfl rfl sz3 rfl (hM.seeR (.head _)) hi155) ?_
      refine wv rfl (r_ld Try.underlying3 rfl rfl (Cs.get (i := i124.toNat) (j := 1) (hM.seeR (.head _)) (fun _ => rfl) hi155 rfl)) ?_
      refine wv rfl (r_move rfl) ?_
      refine wv rfl (r_neq rfl rfl) ?_
      refine wl_nil ?_
      refine sq_n ?_
      refine wc_cond rfl (fun hc161 => ?_) (fun hc161 => ?_)
      · replace hx := xif_t hc161 hx
        refine wc_seq ?_
        refine wc_region ?_
        refine wv rfl (r_assign rfl) ?_
        refine wl_nil ?_
        refine sq_n ?_
        refine wc_ret ?_
        refine sq_ret ?_
        refine bk_ret ?_
        refine sq_ret ?_
        refine lp1_ret ?_
        obtain rfl := Option.some.inj hx
        obtain rfl := Option.some.inj hx131
        replace hx := hx122
        try dsimp only [Sum.elim_inl, Sum.elim_inr] at hx
        refine bk_ret ?_
        refine sq_ret ?_
        obtain rfl := Option.some.inj hx
        refine fin_ret [(.int .i64 (-1))] ⟨rfl, trivial⟩ ?_
        replace hM := hM.t0
        have hM := hM.fewer rsN
        exact ⟨(), rfl, hM.gives⟩
      · replace hx := xif_f hc161 hx
        refine wc_skip ?_
        refine sq_n ?_
        refine wc_seq ?_
        refine wc_region ?_
        refine wv rfl (r_move rfl) ?_
        obtain ⟨hg165, hx⟩ := xg_some hx
        refine wv rfl (r_add rfl rfl hg165) ?_
        refine wv rfl (r_assign rfl) ?_
        refine wl_nil ?_
        refine sq_n ?_
        refine wc_seq ?_
        refine wc_region ?_
        refine wv rfl (r_move rfl) ?_
        refine wv rfl (r_move rfl) ?_
        obtain ⟨hg171, hx⟩ := xg_some hx
        have hi170 : i124.toNat < a.length := by omega
        refine wv rfl (r_ixC Try.underlying23 sz67 rfl rfl (hM.seeR (.head _)) hg171) ?_
        refine wv rfl (r_fldC (i := i124.toNat) Try.underlying67 rfl rfl sz22 rfl (hM.seeR (.head _)) hi170) ?_
        obtain ⟨s174, hM, hc175⟩ := hM.leaf (i := i124.toNat) (j := 2) (.head _) (fun _ => rfl) hi170 rfl
        refine wv rfl (r_ld Try.underlying22 rfl rfl (hc175 _ (Rel.refl _))) ?_
        refine wv rfl (r_move rfl) ?_
        obtain ⟨r177, h178, hx⟩ := bind_some' hx
        refine w_call rfl rfl (hM.callV fun X S oL hS hR hO => ct_laws_heldIntS _ X S ((el a i124.toNat).signs) s174 ((k123 + 1) + 1) hS (hR _ (.head _)) oL h178) ?_
        rintro _ w179 ⟨rfl, hR180⟩
        have hM := hM.call hR180
        refine wv rfl (r_assign rfl) ?_
        refine wl_nil ?_
        refine sq_n ?_
        refine wc_seq ?_
        refine wc_region ?_
        refine wv rfl (r_move rfl) ?_
        refine wv rfl (r_lss rfl rfl) ?_
        refine wl_nil ?_
        refine sq_n ?_
        refine wc_cond rfl (fun hc184 => ?_) (fun hc184 => ?_)
        · replace hx := xif_t hc184 hx
          refine wc_seq ?_
          refine wc_region ?_
          refine wv rfl (r_assign rfl) ?_
          refine wl_nil ?_
          refine sq_n ?_
          refine wc_ret ?_
          refine bk_ret ?_
          refine sq_ret ?_
          refine lp1_ret ?_
          obtain rfl := Option.some.inj hx
          obtain rfl := Option.some.inj hx131
          replace hx := hx122
          try dsimp only [Sum.elim_inl, Sum.elim_inr] at hx
          refine bk_ret ?_
          refine sq_ret ?_
          obtain rfl := Option.some.inj hx
          refine fin_ret [(.int .i64 (-1))] ⟨rfl, trivial⟩ ?_
          replace hM := hM.t0
          have hM := hM.fewer rsN
          exact ⟨(), rfl, hM.gives⟩
        · replace hx := xif_f hc184 hx
          refine wc_skip ?_
          refine bk_n ?_
          refine sq_n ?_
          refine wc_region ?_
          refine wv rfl (r_move rfl) ?_
          obtain ⟨hg188, hx⟩ := xg_some hx
          refine wv rfl (r_add rfl rfl hg188) ?_
          refine wv rfl (r_assign rfl) ?_
          refine wl_nil ?_
          obtain rfl := Option.some.inj hx
          have hM := hM.fewer (rsC (.tail _ (.head _)) rsN)
          replace hM : St ⟨w, X, S⟩ [] [rV s_a.v (cSl 3 fDPart a)] _ := hM
          exact lp_end (m129, r177, i124 + 1) (Nat.lt_succ_self _) ⟨rfl, rfl, rfl, trivial⟩ ⟨hM, hx131⟩
  · replace hx := xif_f hc136 hx
    refine wc_exit ?_
    refine sq_exit ?_
    refine lp1_exit ?_
    obtain rfl := Option.some.inj hx
    obtain rfl := Option.some.inj hx131
    replace hx := hx122
    try dsimp only [Sum.elim_inl, Sum.elim_inr] at hx
    refine bk_here ?_
    refine sq_n ?_
    refine wc_seq ?_
    refine wc_region ?_
    refine wv rfl (r_move rfl) ?_
    refine wv rfl (r_assign rfl) ?_
    refine wl_nil ?_
    refine sq_n ?_
    refine wc_ret ?_
    obtain rfl := Option.some.inj hx
    refine fin_ret [(.int .i64 k123)] ⟨rfl, trivial⟩ ?_
    replace hM := hM.t0
    have hM := hM.fewer rsN
    exact ⟨(), rfl, hM.gives⟩

noncomputable def x_laws_FnExactRowsPut (aT : List Int) (aRow : Int) (aL : List Int) : Option Bool :=
  bif decide ((1048576 : Int) < (aT.length : Int)) then (some true) else (bif decide ((1048576 : Int) < (aL.length : Int)) then (some true) else (Option.bind (x_laws_toIntS aT) fun r11 => Option.bind (x_laws_toIntS aL) fun r18 => Option.bind (x_spec_RowsPut r11 aRow r18) fun r23 => Option.bind (x_laws_toIntS aT) fun r34 => Option.bind (x_laws_toIntS aL) fun r41 => Option.bind (x_impl_RowsPut r34 aRow r41) fun r50 => Option.bind (x_laws_eqPartS r50.1 r23.1) fun r62 => Option.bind (bif !r62 then (some true) else (some (!(r50.2 == r23.2)))) fun c68 => bif c68 then (some false) else (Option.bind (x_laws_toIntS aT) fun r79 => Option.bind (x_laws_eqIntS r34 r79) fun r84 => bif !r84 then (some false) else (Option.bind (x_laws_toIntS aL) fun r92 => Option.bind (x_laws_eqIntS r41 r92) fun r97 => bif !r97 then (some false) else (Option.bind (x_laws_markIntS r34 1) fun r106 => Option.bind (x_laws_markIntS r41 r106.1) fun r112 => Option.bind (bif decide (r112.1 < 0) then (some true) else (Option.bind (x_laws_eqPartS r50.1 r23.1) fun r130 => some (!r130))) fun c119 => Option.bind (bif c119 then (some true) else (some (!(r50.2 == r23.2)))) fun c136 => bif c136 then (some false) else (Option.bind (x_laws_markPartS r50.1 1) fun r148 => Option.bind (x_laws_heldPartS r148.2 1) fun r155 => bif decide (r155 < 0) then (some false) else (bif !decide (r155 = r148.1) then (some false) else (Option.bind (x_laws_toIntS aT) fun r168 => Option.bind (x_laws_toIntS aL) fun r175 => Option.bind (x_impl_RowsPut r168 aRow r175) fun r180 => Option.bind (x_laws_eqPartS r180.1 r23.1) fun r192 => Option.bind (bif !r192 then (some true) else (some (!(r180.2 == r23.2)))) fun c198 => bif c198 then (some false) else (Option.bind (x_laws_heldPartS r148.2 1) fun r210 => bif decide (r210 < 0) then (some false) else (bif !decide (r210 = r148.1) then (some false) else (some true)))))))))))
theorem ct_laws_FnExactRowsPut (w : World) (X S : Bs) (aT : List Int) (s_aT : Sv) (aRow : Int) (aL : List Int) (s_aL : Sv) (hS : ∀ b, S b → b < w.heap.size ∧ ¬ X b) (a_aT_0 : (cSl 1 fI aT).rd S w s_aT.v) (a_aL_0 : (cSl 1 fI aL).rd S w s_aL.v) (oL : Sep [] X w) {r : Bool} (hx : x_laws_FnExactRowsPut aT aRow aL = some r) :
    Ret Try.prog 3 [s_aT.v, (.int .i64 aRow), s_aL.v] w (fun u w' => ∃ _ : Unit, u = (.bool r) ∧ Gives X S w [] [] w') := by
  unfold x_laws_FnExactRowsPut at hx
  refine enter Try.func3 rfl Try.ntmps3 (by kernel_rfl) rfl ?_
  have hM := St.enter oL hS
  have hM := hM.addE (r := rV s_aT.v (cSl 1 fI aT)) a_aT_0
  have hM := hM.addE (r := rV s_aL.v (cSl 1 fI aL)) a_aL_0
  refine wc_seq ?_
  refine wc_region ?_
  refine wv rfl (r_assign rfl) ?_
  refine wl_nil ?_
  refine sq_n ?_
  refine wc_seq ?_
  refine wc_seq ?_
  refine wc_region ?_
  refine wv rfl (r_move rfl) ?_
  refine wv rfl (r_lenC Try.underlying22 rfl (hM.seeR (.tail _ (.head _)))) ?_
  refine wv rfl (r_gtr rfl rfl) ?_
  refine wl_nil ?_
  refine sq_n ?_
  refine wc_cond rfl (fun hc227 => ?_) (fun hc227 => ?_)
  · replace hx := xif_t hc227 hx
    refine wc_seq ?_
    refine wc_region ?_
    refine wv rfl (r_assign rfl) ?_
    refine wl_nil ?_
    refine sq_n ?_
    refine wc_ret ?_
    refine sq_ret ?_
    obtain rfl := Option.some.inj hx
    refine fin_ret [(.bool true)] ⟨rfl, trivial⟩ ?_
    replace hM := hM.t0
    have hM := hM.fewer rsN
    exact ⟨(), rfl, hM.gives⟩
  · replace hx := xif_f hc227 hx
    refine wc_skip ?_
    refine sq_n ?_
    refine wc_seq ?_
    refine wc_seq ?_
    refine wc_region ?_
    refine wv rfl (r_move rfl) ?_
    refine wv rfl (r_lenC Try.underlying22 rfl (hM.seeR (.head _))) ?_
    refine wv rfl (r_gtr rfl rfl) ?_
    refine wl_nil ?_
    refine sq_n ?_
    refine wc_cond rfl (fun hc232 => ?_) (fun hc232 => ?_)
    · replace hx := xif_t hc232 hx
      refine wc_seq ?_
      refine wc_region ?_
      refine wv rfl (r_assign rfl) ?_
      refine wl_nil ?_
      refine sq_n ?_
      refine wc_ret ?_
      refine sq_ret ?_
      obtain rfl := Option.some.inj hx
      refine fin_ret [(.bool true)] ⟨rfl, trivial⟩ ?_
      replace hM := hM.t0
      have hM := hM.fewer rsN
      exact ⟨(), rfl, hM.gives⟩
    · replace hx := xif_f hc232 hx
      refine wc_skip ?_
      refine sq_n ?_
      refine wc_seq ?_
      refine wc_region ?_
      refine wv rfl (r_move rfl) ?_
      obtain ⟨r235, h236, hx⟩ := bind_some' hx
      refine w_call rfl rfl (hM.callO (l := []) fun X S oL hS hR hO => ct_laws_toIntS _ X S aT s_aT hS (hR _ (.tail _ (.head _))) oL h236) ?_
      rintro _ w237 ⟨s238, rfl, hM⟩
      replace hM : St ⟨w, X, S⟩ [oC (cSl 1 fI r235) s238.v] [rV s_aL.v (cSl 1 fI aL), rV s_aT.v (cSl 1 fI aT)] _ := hM
      refine wv rfl (r_move rfl) ?_
      refine wv rfl (r_move rfl) ?_
      obtain ⟨r242, h243, hx⟩ := bind_some' hx
      refine w_call rfl rfl (hM.callO (l := []) fun X S oL hS hR hO => ct_laws_toIntS _ X S aL s_aL hS (hR _ (.head _)) oL h243) ?_
      rintro _ w244 ⟨s245, rfl, hM⟩
      replace hM : St ⟨w, X, S⟩ [oC (cSl 1 fI r242) s245.v, oC (cSl 1 fI r235) s238.v] [rV s_aL.v (cSl 1 fI aL), rV s_aT.v (cSl 1 fI aT)] _ := hM
      obtain ⟨r247, h248, hx⟩ := bind_some' hx
      refine w_call rfl rfl (hM.callO (l := []) fun X S oL hS hR hO => ct_spec_RowsPut _ X S r235 s238 aRow r242 s245 hS (seeA hO (.tail _ (.head _))) (seeA hO (.head _)) oL h248) ?_
      rintro _ w249 ⟨s250, rfl, hM⟩
      replace hM : St ⟨w, X, S⟩ [oC (cSl 3 fDPart r247.1) s250.v, oC (cSl 1 fI r242) s245.v, oC (cSl 1 fI r235) s238.v] [rV s_aL.v (cSl 1 fI aL), rV s_aT.v (cSl 1 fI aT)] _ := hM
      refine wv rfl (r_move rfl) ?_
      refine wv rfl (r_extract rfl rfl) ?_
      refine wv rfl (r_extract rfl rfl) ?_
      refine wv rfl (r_assign rfl) ?_
      refine wv rfl (r_assign rfl) ?_
      refine wl_nil ?_
      refine sq_n ?_
      refine wc_seq ?_
      refine wc_region ?_
      refine wv rfl (r_move rfl) ?_
      obtain ⟨r258, h259, hx⟩ := bind_some' hx
      refine w_call rfl rfl (hM.callO (l := []) fun X S oL hS hR hO => ct_laws_toIntS _ X S aT s_aT hS (hR _ (.tail _ (.head _))) oL h259) ?_
      rintro _ w260 ⟨s261, rfl, hM⟩
      replace hM : St ⟨w, X, S⟩ [oC (cSl 1 fI r258) s261.v, oC (cSl 3 fDPart r247.1) s250.v, oC (cSl 1 fI r242) s245.v, oC (cSl 1 fI r235) s238.v] [rV s_aL.v (cSl 1 fI aL), rV s_aT.v (cSl 1 fI aT)] _ := hM
      refine wv rfl (r_assign rfl) ?_
      refine wl_nil ?_
      refine sq_n ?_
      refine wc_seq ?_
      refine wc_region ?_
      refine wv rfl (r_move rfl) ?_
      obtain ⟨r265, h266, hx⟩ := bind_some' hx
      refine w_call rfl rfl (hM.callO (l := []) fun X S oL hS hR hO => ct_laws_toIntS _ X S aL s_aL hS (hR _ (.head _)) oL h266) ?_
      rintro _ w267 ⟨s268, rfl, hM⟩
      replace hM : St ⟨w, X, S⟩ [oC (cSl 1 fI r265) s268.v, oC (cSl 1 fI r258) s261.v, oC (cSl 3 fDPart r247.1) s250.v, oC (cSl 1 fI r242) s245.v, oC (cSl 1 fI r235) s238.v] [rV s_aL.v (cSl 1 fI aL), rV s_aT.v (cSl 1 fI aT)] _ := hM
      refine wv rfl (r_assign rfl) ?_
      refine wl_nil ?_
      refine sq_n ?_
      refine wc_seq ?_
      refine wc_region ?_
      refine wv rfl (r_move rfl) ?_
      refine wv rfl (r_move rfl) ?_
      refine wv rfl (r_move rfl) ?_
      obtain ⟨r274, h275, hx⟩ := bind_some' hx
      refine w_call rfl rfl (hM.callO (l := []) fun X S oL hS hR hO => ct_impl_RowsPut _ X S r258 s261 aRow r265 s268 hS (seeA hO (.tail _ (.head _))) (seeA hO (.head _)) oL h275) ?_
      rintro _ w276 ⟨s277, rfl, hM⟩
      replace hM : St ⟨w, X, S⟩ [oC (cSl 3 fDPart r274.1) s277.v, oC (cSl 1 fI r265) s268.v, oC (cSl 1 fI r258) s261.v, oC (cSl 3 fDPart r247.1) s250.v, oC (cSl 1 fI r242) s245.v, oC (cSl 1 fI r235) s238.v] [rV s_aL.v (cSl 1 fI aL), rV s_aT.v (cSl 1 fI aT)] _ := hM
      refine wv rfl (r_move rfl) ?_
      refine wv rfl (r_extract rfl rfl) ?_
      refine wv rfl (r_extract rfl rfl) ?_
      refine wv rfl (r_assign rfl) ?_
      refine wv rfl (r_assign rfl) ?_
      refine wl_nil ?_
      refine sq_n ?_
      refine wc_seq ?_
      refine wc_seq ?_
      refine wc_region ?_
      refine wv rfl (r_move rfl) ?_
      refine wv rfl (r_move rfl) ?_
      obtain ⟨r286, h287, hx⟩ := bind_some' hx
      refine w_call rfl rfl (hM.callV fun X S oL hS hR hO => ct_laws_eqPartS _ X S r274.1 s277 r247.1 s250 hS (seeA hO (.head _)) (seeA hO (.tail _ (.tail _ (.tail _ (.head _))))) oL h287) ?_
      rintro _ w288 ⟨rfl, hR289⟩
      have hM := hM.call hR289
      refine wv rfl (r_not rfl) ?_
      refine wv rfl (r_move rfl) ?_
      obtain ⟨c292, hx, hx297⟩ := bind_some' hx
      refine wl_mid 4 (fun _ : Unit => [(52, (.bool c292)), (0, s_aT.v), (1, (.int .i64 aRow)), (2, s_aL.v), (7, s250.v), (8, (.bool r247.2)), (9, s261.v), (10, s268.v), (11, s277.v), (12, (.bool r274.2))]) (fun _ w' => St ⟨w, X, S⟩ [oC (cSl 3 fDPart r274.1) s277.v, oC (cSl 1 fI r265) s268.v, oC (cSl 1 fI r258) s261.v, oC (cSl 3 fDPart r247.1) s250.v, oC (cSl 1 fI r242) s245.v, oC (cSl 1 fI r235) s238.v] [rV s_aL.v (cSl 1 fI aL), rV s_aT.v (cSl 1 fI aT)] w') ?_ ?_
      · rcases Bool.eq_false_or_eq_true (!r286) with hg293 | hg293
        · replace hx := xif_t hg293 hx
          refine gs rfl (isB_no hg293) rfl ?_
          refine gs rfl (isB_no hg293) rfl ?_
          refine gs rfl (isB_no hg293) rfl ?_
          refine wv rfl (p_t rfl hg293 rfl) ?_
          obtain rfl := Option.some.inj hx
          exact mid_nil () ⟨rfl, rfl, rfl, rfl, rfl, rfl, rfl, rfl, rfl, rfl, trivial⟩ hM
        · replace hx := xif_f hg293 hx
          refine gv rfl hg293 rfl (r_move rfl) ?_
          refine gv rfl hg293 rfl (r_move rfl) ?_
          refine gv rfl hg293 rfl (r_neqb Try.underlying4 rfl rfl) ?_
          refine wv rfl (p_f rfl hg293 rfl) ?_
          obtain rfl := Option.some.inj hx
          exact mid_nil () ⟨rfl, rfl, rfl, rfl, rfl, rfl, rfl, rfl, rfl, rfl, trivial⟩ hM
      rintro _ w301 hM
      replace hx := hx297
      refine wl_nil ?_
      refine sq_n ?_
      refine wc_cond rfl (fun hc302 => ?_) (fun hc302 => ?_)
      · replace hx := xif_t hc302 hx
        refine wc_seq ?_
        refine wc_region ?_
        refine wv rfl (r_assign rfl) ?_
        refine wl_nil ?_
        refine sq_n ?_
        refine wc_ret ?_
        refine sq_ret ?_
        obtain rfl := Option.some.inj hx
        refine fin_ret [(.bool false)] ⟨rfl, trivial⟩ ?_
        replace hM := hM.t0
        have hM := hM.fewer rsN
        exact ⟨(), rfl, hM.gives⟩
      · replace hx := xif_f hc302 hx
        refine wc_skip ?_
        refine sq_n ?_
        refine wc_seq ?_
        refine wc_seq ?_
        refine wc_region ?_
        refine wv rfl (r_move rfl) ?_
        refine wv rfl (r_move rfl) ?_
        obtain ⟨r306, h307, hx⟩ := bind_some' hx
        refine w_call rfl rfl (hM.callO (l := []) fun X S oL hS hR hO => ct_laws_toIntS _ X S aT s_aT hS (hR _ (.tail _ (.head _))) oL h307) ?_
        rintro _ w308 ⟨s309, rfl, hM⟩
        replace hM : St ⟨w, X, S⟩ [oC (cSl 1 fI r306) s309.v, oC (cSl 3 fDPart r274.1) s277.v, oC (cSl 1 fI r265) s268.v, oC (cSl 1 fI r258) s261.v, oC (cSl 3 fDPart r247.1) s250.v, oC (cSl 1 fI r242) s245.v, oC (cSl 1 fI r235) s238.v] [rV s_aL.v (cSl 1 fI aL), rV s_aT.v (cSl 1 fI aT)] _ := hM
        obtain ⟨r311, h312, hx⟩ := bind_some' hx
        refine w_call rfl rfl (hM.callV fun X S oL hS hR hO => ct_laws_eqIntS _ X S r258 s261 r306 s309 hS (seeA hO (.tail _ (.tail _ (.tail _ (.head _))))) (seeA hO (.head _)) oL h312) ?_
        rintro _ w313 ⟨rfl, hR314⟩
        have hM := hM.call hR314
        refine wv rfl (r_not rfl) ?_
        refine wl_nil ?_
        refine sq_n ?_
        refine wc_cond rfl (fun hc316 => ?_) (fun hc316 => ?_)
        · replace hx := xif_t hc316 hx
          refine wc_seq ?_
          refine wc_region ?_
          refine wv rfl (r_assign rfl) ?_
          refine wl_nil ?_
          refine sq_n ?_
          refine wc_ret ?_
          refine sq_ret ?_
          obtain rfl := Option.some.inj hx
          refine fin_ret [(.bool false)] ⟨rfl, trivial⟩ ?_
          replace hM := hM.t0
          have hM := hM.fewer rsN
          exact ⟨(), rfl, hM.gives⟩
        · replace hx := xif_f hc316 hx
          refine wc_skip ?_
          refine sq_n ?_
          refine wc_seq ?_
          refine wc_seq ?_
          refine wc_region ?_
          refine wv rfl (r_move rfl) ?_
          refine wv rfl (r_move rfl) ?_
          obtain ⟨r320, h321, hx⟩ := bind_some' hx
          refine w_call rfl rfl (hM.callO (l := []) fun X S oL hS hR hO => ct_laws_toIntS _ X S aL s_aL hS (hR _ (.head _)) oL h321) ?_
          rintro _ w322 ⟨s323, rfl, hM⟩
          replace hM : St ⟨w, X, S⟩ [oC (cSl 1 fI r320) s323.v, oC (cSl 1 fI r306) s309.v, oC (cSl 3 fDPart r274.1) s277.v, oC (cSl 1 fI r265) s268.v, oC (cSl 1 fI r258) s261.v, oC (cSl 3 fDPart r247.1) s250.v, oC (cSl 1 fI r242) s245.v, oC (cSl 1 fI r235) s238.v] [rV s_aL.v (cSl 1 fI aL), rV s_aT.v (cSl 1 fI aT)] _ := hM
          obtain ⟨r325, h326, hx⟩ := bind_some' hx
          refine w_call rfl rfl (hM.callV fun X S oL hS hR hO => ct_laws_eqIntS _ X S r265 s268 r320 s323 hS (seeA hO (.tail _ (.tail _ (.tail _ (.head _))))) (seeA hO (.head _)) oL h326) ?_
          rintro _ w327 ⟨rfl, hR328⟩
          have hM := hM.call hR328
          refine wv rfl (r_not rfl) ?_
          refine wl_nil ?_
          refine sq_n ?_
          refine wc_cond rfl (fun hc330 => ?_) (fun hc330 => ?_)
          · replace hx := xif_t hc330 hx
            refine wc_seq ?_
            refine wc_region ?_
            refine wv rfl (r_assign rfl) ?_
            refine wl_nil ?_
            refine sq_n ?_
            refine wc_ret ?_
            refine sq_ret ?_
            obtain rfl := Option.some.inj hx
            refine fin_ret [(.bool false)] ⟨rfl, trivial⟩ ?_
            replace hM := hM.t0
            have hM := hM.fewer rsN
            exact ⟨(), rfl, hM.gives⟩
          · replace hx := xif_f hc330 hx
            refine wc_skip ?_
            refine sq_n ?_
            refine wc_seq ?_
            refine wc_region ?_
            refine wv rfl (r_assign rfl) ?_
            refine wl_nil ?_
            refine sq_n ?_
            refine wc_seq ?_
            refine wc_region ?_
            refine wv rfl (r_move rfl) ?_
            refine wv rfl (r_move rfl) ?_
            replace hM := hM.p4
            obtain ⟨r335, h336, hx⟩ := bind_some' hx
            refine w_call rfl rfl (hM.callO (l := [oC (cSl 1 fI r258) s261.v]) fun X S oL hS hR hO => ct_laws_markIntS _ X S r258 s261 (1 : Int) hS  oL h336) ?_
            rintro _ w337 ⟨_, rfl, hM⟩
            replace hM : St ⟨w, X, S⟩ [oC (cSl 1 fI r335.2) s261.v, oC (cSl 1 fI r320) s323.v, oC (cSl 1 fI r306) s309.v, oC (cSl 3 fDPart r274.1) s277.v, oC (cSl 1 fI r265) s268.v, oC (cSl 3 fDPart r247.1) s250.v, oC (cSl 1 fI r242) s245.v, oC (cSl 1 fI r235) s238.v] [rV s_aL.v (cSl 1 fI aL), rV s_aT.v (cSl 1 fI aT)] _ := hM
            refine wv rfl (r_assign rfl) ?_
            refine wl_nil ?_
            refine sq_n ?_
            refine wc_seq ?_
            refine wc_region ?_
            refine wv rfl (r_move rfl) ?_
            refine wv rfl (r_move rfl) ?_
            replace hM := hM.p4
            obtain ⟨r341, h342, hx⟩ := bind_some' hx
            refine w_call rfl rfl (hM.callO (l := [oC (cSl 1 fI r265) s268.v]) fun X S oL hS hR hO => ct_laws_markIntS _ X S r265 s268 r335.1 hS  oL h342) ?_
            rintro _ w343 ⟨_, rfl, hM⟩
            replace hM : St ⟨w, X, S⟩ [oC (cSl 1 fI r341.2) s268.v, oC (cSl 1 fI r335.2) s261.v, oC (cSl 1 fI r320) s323.v, oC (cSl 1 fI r306) s309.v, oC (cSl 3 fDPart r274.1) s277.v, oC (cSl 3 fDPart r247.1) s250.v, oC (cSl 1 fI r242) s245.v, oC (cSl 1 fI r235) s238.v] [rV s_aL.v (cSl 1 fI aL), rV s_aT.v (cSl 1 fI aT)] _ := hM
            refine wv rfl (r_assign rfl) ?_
            refine wl_nil ?_
            refine sq_n ?_
            refine wc_seq ?_
            refine wc_seq ?_
            refine wc_region ?_
            refine wv rfl (r_move rfl) ?_
            refine wv rfl (r_lss rfl rfl) ?_
            refine wv rfl (r_move rfl) ?_
            obtain ⟨c348, hx, hx357⟩ := bind_some' hx
            refine wl_mid 5 (fun _ : Unit => [(76, (.bool c348)), (0, s_aT.v), (1, (.int .i64 aRow)), (2, s_aL.v), (7, s250.v), (8, (.bool r247.2)), (11, s277.v), (12, (.bool r274.2))]) (fun _ w' => St ⟨w, X, S⟩ [oC (cSl 1 fI r341.2) s268.v, oC (cSl 1 fI r335.2) s261.v, oC (cSl 1 fI r320) s323.v, oC (cSl 1 fI r306) s309.v, oC (cSl 3 fDPart r274.1) s277.v, oC (cSl 3 fDPart r247.1) s250.v, oC (cSl 1 fI r242) s245.v, oC (cSl 1 fI r235) s238.v] [rV s_aL.v (cSl 1 fI aL), rV s_aT.v (cSl 1 fI aT)] w') ?_ ?_
            · rcases Bool.eq_false_or_eq_true (decide (r341.1 < 0)) with hg349 | hg349
              · replace hx := xif_t hg349 hx
                refine gs rfl (isB_no hg349) rfl ?_
                refine gs rfl (isB_no hg349) rfl ?_
                refine gs rfl (isB_no hg349) rfl ?_
                refine gs rfl (isB_no hg349) rfl ?_
                refine wv rfl (p_t rfl hg349 rfl) ?_
                obtain rfl := Option.some.inj hx
                exact mid_nil () ⟨rfl, rfl, rfl, rfl, rfl, rfl, rfl, rfl, trivial⟩ hM
              · replace hx := xif_f hg349 hx
                refine gv rfl hg349 rfl (r_move rfl) ?_
                refine gv rfl hg349 rfl (r_move rfl) ?_
                obtain ⟨r360, h361, hx⟩ := bind_some' hx
                refine gc rfl hg349 rfl rfl (hM.callV fun X S oL hS hR hO => ct_laws_eqPartS _ X S r274.1 s277 r247.1 s250 hS (seeA hO (.tail _ (.tail _ (.tail _ (.tail _ (.head _)))))) (seeA hO (.tail _ (.tail _ (.tail _ (.tail _ (.tail _ (.head _))))))) oL h361) ?_
                rintro _ w362 ⟨rfl, hR363⟩
                have hM := hM.call hR363
                refine gv rfl hg349 rfl (r_not rfl) ?_
                refine wv rfl (p_f rfl hg349 rfl) ?_
                obtain rfl := Option.some.inj hx
                exact mid_nil () ⟨rfl, rfl, rfl, rfl, rfl, rfl, rfl, rfl, trivial⟩ hM
            rintro _ w365 hM
            replace hx := hx357
            refine wv rfl (r_move rfl) ?_
            obtain ⟨c367, hx, hx372⟩ := bind_some' hx
            refine wl_mid 4 (fun _ : Unit => [(81, (.bool c367)), (0, s_aT.v), (1, (.int .i64 aRow)), (2, s_aL.v), (7, s250.v), (8, (.bool r247.2)), (11, s277.v)]) (fun _ w' => St ⟨w, X, S⟩ [oC (cSl 1 fI r341.2) s268.v, oC (cSl 1 fI r335.2) s261.v, oC (cSl 1 fI r320) s323.v, oC (cSl 1 fI r306) s309.v, oC (cSl 3 fDPart r274.1) s277.v, oC (cSl 3 fDPart r247.1) s250.v, oC (cSl 1 fI r242) s245.v, oC (cSl 1 fI r235) s238.v] [rV s_aL.v (cSl 1 fI aL), rV s_aT.v (cSl 1 fI aT)] w') ?_ ?_
            · rcases Bool.eq_false_or_eq_true c348 with hg368 | hg368
              · replace hx := xif_t hg368 hx
                refine gs rfl (isB_no hg368) rfl ?_
                refine gs rfl (isB_no hg368) rfl ?_
                refine gs rfl (isB_no hg368) rfl ?_
                refine wv rfl (p_t rfl hg368 rfl) ?_
                obtain rfl := Option.some.inj hx
                exact mid_nil () ⟨rfl, rfl, rfl, rfl, rfl, rfl, rfl, trivial⟩ hM
              · replace hx := xif_f hg368 hx
                refine gv rfl hg368 rfl (r_move rfl) ?_
                refine gv rfl hg368 rfl (r_move rfl) ?_
                refine gv rfl hg368 rfl (r_neqb Try.underlying4 rfl rfl) ?_
                refine wv rfl (p_f rfl hg368 rfl) ?_
                obtain rfl := Option.some.inj hx
                exact mid_nil () ⟨rfl, rfl, rfl, rfl, rfl, rfl, rfl, trivial⟩ hM
            rintro _ w376 hM
            replace hx := hx372
            refine wl_nil ?_
            refine sq_n ?_
            refine wc_cond rfl (fun hc377 => ?_) (fun hc377 => ?_)
            · replace hx := xif_t hc377 hx
              refine wc_seq ?_
              refine wc_region ?_
              refine wv rfl (r_assign rfl) ?_
              refine wl_nil ?_
              refine sq_n ?_
              refine wc_ret ?_
              refine sq_ret ?_
              obtain rfl := Option.some.inj hx
              refine fin_ret [(.bool false)] ⟨rfl, trivial⟩ ?_
              replace hM := hM.t0
              have hM := hM.fewer rsN
              exact ⟨(), rfl, hM.gives⟩
            · replace hx := xif_f hc377 hx
              refine wc_skip ?_
              refine sq_n ?_
              refine wc_seq ?_
              refine wc_region ?_
              refine wv rfl (r_assign rfl) ?_
              refine wl_nil ?_
              refine sq_n ?_
              refine wc_seq ?_
              refine wc_region ?_
              refine wv rfl (r_move rfl) ?_
              refine wv rfl (r_move rfl) ?_
              replace hM := hM.p4
              obtain ⟨r382, h383, hx⟩ := bind_some' hx
              refine w_call rfl rfl (hM.callO (l := [oC (cSl 3 fDPart r274.1) s277.v]) fun X S oL hS hR hO => ct_laws_markPartS _ X S r274.1 s277 (1 : Int) hS  oL h383) ?_
              rintro _ w384 ⟨_, rfl, hM⟩
              replace hM : St ⟨w, X, S⟩ [oC (cSl 3 fDPart r382.2) s277.v, oC (cSl 1 fI r341.2) s268.v, oC (cSl 1 fI r335.2) s261.v, oC (cSl 1 fI r320) s323.v, oC (cSl 1 fI r306) s309.v, oC (cSl 3 fDPart r247.1) s250.v, oC (cSl 1 fI r242) s245.v, oC (cSl 1 fI r235) s238.v] [rV s_aL.v (cSl 1 fI aL), rV s_aT.v (cSl 1 fI aT)] _ := hM
              refine wv rfl (r_assign rfl) ?_
              refine wl_nil ?_
              refine sq_n ?_
              refine wc_seq ?_
              refine wc_region ?_
              refine wv rfl (r_assign rfl) ?_
              refine wl_nil ?_
              refine sq_n ?_
              refine wc_seq ?_
              refine wc_region ?_
              refine wv rfl (r_move rfl) ?_
              refine wv rfl (r_move rfl) ?_
              obtain ⟨r389, h390, hx⟩ := bind_some' hx
              refine w_call rfl rfl (hM.callV fun X S oL hS hR hO => ct_laws_heldPartS _ X S r382.2 s277 (1 : Int) hS (seeA hO (.head _)) oL h390) ?_
              rintro _ w391 ⟨rfl, hR392⟩
              have hM := hM.call hR392
              refine wv rfl (r_assign rfl) ?_
              refine wl_nil ?_
              refine sq_n ?_
              refine wc_seq ?_
              refine wc_seq ?_
              refine wc_region ?_
              refine wv rfl (r_move rfl) ?_
              refine wv rfl (r_lss rfl rfl) ?_
              refine wl_nil ?_
              refine sq_n ?_
              refine wc_cond rfl (fun hc396 => ?_) (fun hc396 => ?_)
              · replace hx := xif_t hc396 hx
                refine wc_seq ?_
                refine wc_region ?_
                refine wv rfl (r_assign rfl) ?_
                refine wl_nil ?_
                refine sq_n ?_
                refine wc_ret ?_
                refine sq_ret ?_
                obtain rfl := Option.some.inj hx
                refine fin_ret [(.bool false)] ⟨rfl, trivial⟩ ?_
                replace hM := hM.t0
                have hM := hM.fewer rsN
                exact ⟨(), rfl, hM.gives⟩
              · replace hx := xif_f hc396 hx
                refine wc_skip ?_
                refine sq_n ?_
                refine wc_seq ?_
                refine wc_seq ?_
                refine wc_region ?_
                refine wv rfl (r_move rfl) ?_
                refine wv rfl (r_move rfl) ?_
                refine wv rfl (r_neq rfl rfl) ?_
                refine wl_nil ?_
                refine sq_n ?_
                refine wc_cond rfl (fun hc401 => ?_) (fun hc401 => ?_)
                · replace hx := xif_t hc401 hx
                  refine wc_seq ?_
                  refine wc_region ?_
                  refine wv rfl (r_assign rfl) ?_
                  refine wl_nil ?_
                  refine sq_n ?_
                  refine wc_ret ?_
                  refine sq_ret ?_
                  obtain rfl := Option.some.inj hx
                  refine fin_ret [(.bool false)] ⟨rfl, trivial⟩ ?_
                  replace hM := hM.t0
                  have hM := hM.fewer rsN
                  exact ⟨(), rfl, hM.gives⟩
                · replace hx := xif_f hc401 hx
                  refine wc_skip ?_
                  refine sq_n ?_
                  refine wc_seq ?_
                  refine wc_region ?_
                  refine wv rfl (r_move rfl) ?_
                  obtain ⟨r404, h405, hx⟩ := bind_some' hx
                  refine w_call rfl rfl (hM.callO (l := []) fun X S oL hS hR hO => ct_laws_toIntS _ X S aT s_aT hS (hR _ (.tail _ (.head _))) oL h405) ?_
                  rintro _ w406 ⟨s407, rfl, hM⟩
                  replace hM : St ⟨w, X, S⟩ [oC (cSl 1 fI r404) s407.v, oC (cSl 3 fDPart r382.2) s277.v, oC (cSl 1 fI r341.2) s268.v, oC (cSl 1 fI r335.2) s261.v, oC (cSl 1 fI r320) s323.v, oC (cSl 1 fI r306) s309.v, oC (cSl 3 fDPart r247.1) s250.v, oC (cSl 1 fI r242) s245.v, oC (cSl 1 fI r235) s238.v] [rV s_aL.v (cSl 1 fI aL), rV s_aT.v (cSl 1 fI aT)] _ := hM
                  refine wv rfl (r_move rfl) ?_
                  refine wv rfl (r_move rfl) ?_
                  obtain ⟨r411, h412, hx⟩ := bind_some' hx
                  refine w_call rfl rfl (hM.callO (l := []) fun X S oL hS hR hO => ct_laws_toIntS _ X S aL s_aL hS (hR _ (.head _)) oL h412) ?_
                  rintro _ w413 ⟨s414, rfl, hM⟩
                  replace hM : St ⟨w, X, S⟩ [oC (cSl 1 fI r411) s414.v, oC (cSl 1 fI r404) s407.v, oC (cSl 3 fDPart r382.2) s277.v, oC (cSl 1 fI r341.2) s268.v, oC (cSl 1 fI r335.2) s261.v, oC (cSl 1 fI r320) s323.v, oC (cSl 1 fI r306) s309.v, oC (cSl 3 fDPart r247.1) s250.v, oC (cSl 1 fI r242) s245.v, oC (cSl 1 fI r235) s238.v] [rV s_aL.v (cSl 1 fI aL), rV s_aT.v (cSl 1 fI aT)] _ := hM
                  obtain ⟨r416, h417, hx⟩ := bind_some' hx
                  refine w_call rfl rfl (hM.callO (l := []) fun X S oL hS hR hO => ct_impl_RowsPut _ X S r404 s407 aRow r411 s414 hS (seeA hO (.tail _ (.head _))) (seeA hO (.head _)) oL h417) ?_
                  rintro _ w418 ⟨s419, rfl, hM⟩
                  replace hM : St ⟨w, X, S⟩ [oC (cSl 3 fDPart r416.1) s419.v, oC (cSl 1 fI r411) s414.v, oC (cSl 1 fI r404) s407.v, oC (cSl 3 fDPart r382.2) s277.v, oC (cSl 1 fI r341.2) s268.v, oC (cSl 1 fI r335.2) s261.v, oC (cSl 1 fI r320) s323.v, oC (cSl 1 fI r306) s309.v, oC (cSl 3 fDPart r247.1) s250.v, oC (cSl 1 fI r242) s245.v, oC (cSl 1 fI r235) s238.v] [rV s_aL.v (cSl 1 fI aL), rV s_aT.v (cSl 1 fI aT)] _ := hM
                  refine wv rfl (r_move rfl) ?_
                  refine wv rfl (r_extract rfl rfl) ?_
                  refine wv rfl (r_extract rfl rfl) ?_
                  refine wv rfl (r_assign rfl) ?_
                  refine wv rfl (r_assign rfl) ?_
                  refine wl_nil ?_
                  refine sq_n ?_
                  refine wc_seq ?_
                  refine wc_seq ?_
                  refine wc_region ?_
                  refine wv rfl (r_move rfl) ?_
                  refine wv rfl (r_move rfl) ?_
                  obtain ⟨r428, h429, hx⟩ := bind_some' hx
                  refine w_call rfl rfl (hM.callV fun X S oL hS hR hO => ct_laws_eqPartS _ X S r416.1 s419 r247.1 s250 hS (seeA hO (.head _)) (seeA hO (.tail _ (.tail _ (.tail _ (.tail _ (.tail _ (.tail _ (.tail _ (.tail _ (.head _)))))))))) oL h429) ?_
                  rintro _ w430 ⟨rfl, hR431⟩
                  have hM := hM.call hR431
                  refine wv rfl (r_not rfl) ?_
                  refine wv rfl (r_move rfl) ?_
                  obtain ⟨c434, hx, hx439⟩ := bind_some' hx
                  refine wl_mid 4 (fun _ : Unit => [(110, (.bool c434)), (11, s277.v), (14, (.int .i64 r382.1))]) (fun _ w' => St ⟨w, X, S⟩ [oC (cSl 3 fDPart r416.1) s419.v, oC (cSl 1 fI r411) s414.v, oC (cSl 1 fI r404) s407.v, oC (cSl 3 fDPart r382.2) s277.v, oC (cSl 1 fI r341.2) s268.v, oC (cSl 1 fI r335.2) s261.v, oC (cSl 1 fI r320) s323.v, oC (cSl 1 fI r306) s309.v, oC (cSl 3 fDPart r247.1) s250.v, oC (cSl 1 fI r242) s245.v, oC (cSl 1 fI r235) s238.v] [rV s_aL.v (cSl 1 fI aL), rV s_aT.v (cSl 1 fI aT)] w') ?_ ?_
                  · rcases Bool.eq_false_or_eq_true (!r428) with hg435 | hg435
                    · replace hx := xif_t hg435 hx
                      refine gs rfl (isB_no hg435) rfl ?_
                      refine gs rfl (isB_no hg435) rfl ?_
                      refine gs rfl (isB_no hg435) rfl ?_
                      refine wv rfl (p_t rfl hg435 rfl) ?_
                      obtain rfl := Option.some.inj hx
                      exact mid_nil () ⟨rfl, rfl, rfl, trivial⟩ hM
                    · replace hx := xif_f hg435 hx
                      refine gv rfl hg435 rfl (r_move rfl) ?_
                      refine gv rfl hg435 rfl (r_move rfl) ?_
                      refine gv rfl hg435 rfl (r_neqb Try.underlying4 rfl rfl) ?_
                      refine wv rfl (p_f rfl hg435 rfl) ?_
                      obtain rfl := Option.some.inj hx
                      exact mid_nil () ⟨rfl, rfl, rfl, trivial⟩ hM
                  rintro _ w443 hM
                  replace hx := hx439
                  refine wl_nil ?_
                  refine sq_n ?_
                  refine wc_cond rfl (fun hc444 => ?_) (fun hc444 => ?_)
                  · replace hx := xif_t hc444 hx
                    refine wc_seq ?_
                    refine wc_region ?_
                    refine wv rfl (r_assign rfl) ?_
                    refine wl_nil ?_
                    refine sq_n ?_
                    refine wc_ret ?_
                    refine sq_ret ?_
                    obtain rfl := Option.some.inj hx
                    refine fin_ret [(.bool false)] ⟨rfl, trivial⟩ ?_
                    replace hM := hM.t0
                    have hM := hM.fewer rsN
                    exact ⟨(), rfl, hM.gives⟩
                  · replace hx := xif_f hc444 hx
                    refine wc_skip ?_
                    refine sq_n ?_
                    refine wc_seq ?_
                    refine wc_region ?_
                    refine wv rfl (r_assign rfl) ?_
                    refine wl_nil ?_
                    refine sq_n ?_
                    refine wc_seq ?_
                    refine wc_region ?_
                    refine wv rfl (r_move rfl) ?_
                    refine wv rfl (r_move rfl) ?_
                    obtain ⟨r449, h450, hx⟩ := bind_some' hx
                    refine w_call rfl rfl (hM.callV fun X S oL hS hR hO => ct_laws_heldPartS _ X S r382.2 s277 (1 : Int) hS (seeA hO (.tail _ (.tail _ (.tail _ (.head _))))) oL h450) ?_
                    rintro _ w451 ⟨rfl, hR452⟩
                    have hM := hM.call hR452
                    refine wv rfl (r_assign rfl) ?_
                    refine wl_nil ?_
                    refine sq_n ?_
                    refine wc_seq ?_
                    refine wc_seq ?_
                    refine wc_region ?_
                    refine wv rfl (r_move rfl) ?_
                    refine wv rfl (r_lss rfl rfl) ?_
                    refine wl_nil ?_
                    refine sq_n ?_
                    refine wc_cond rfl (fun hc456 => ?_) (fun hc456 => ?_)
                    · replace hx := xif_t hc456 hx
                      refine wc_seq ?_
                      refine wc_region ?_
                      refine wv rfl (r_assign rfl) ?_
                      refine wl_nil ?_
                      refine sq_n ?_
                      refine wc_ret ?_
                      refine sq_ret ?_
                      obtain rfl := Option.some.inj hx
                      refine fin_ret [(.bool false)] ⟨rfl, trivial⟩ ?_
                      replace hM := hM.t0
                      have hM := hM.fewer rsN
                      exact ⟨(), rfl, hM.gives⟩
                    · replace hx := xif_f hc456 hx
                      refine wc_skip ?_
                      refine sq_n ?_
                      refine wc_seq ?_
                      refine wc_seq ?_
                      refine wc_region ?_
                      refine wv rfl (r_move rfl) ?_
                      refine wv rfl (r_move rfl) ?_
                      refine wv rfl (r_neq rfl rfl) ?_
                      refine wl_nil ?_
                      refine sq_n ?_
                      refine wc_cond rfl (fun hc461 => ?_) (fun hc461 => ?_)
                      · replace hx := xif_t hc461 hx
                        refine wc_seq ?_
                        refine wc_region ?_
                        refine wv rfl (r_assign rfl) ?_
                        refine wl_nil ?_
                        refine sq_n ?_
                        refine wc_ret ?_
                        refine sq_ret ?_
                        obtain rfl := Option.some.inj hx
                        refine fin_ret [(.bool false)] ⟨rfl, trivial⟩ ?_
                        replace hM := hM.t0
                        have hM := hM.fewer rsN
                        exact ⟨(), rfl, hM.gives⟩
                      · replace hx := xif_f hc461 hx
                        refine wc_skip ?_
                        refine sq_n ?_
                        refine wc_seq ?_
                        refine wc_region ?_
                        refine wv rfl (r_assign rfl) ?_
                        refine wl_nil ?_
                        refine sq_n ?_
                        refine wc_ret ?_
                        obtain rfl := Option.some.inj hx
                        refine fin_ret [(.bool true)] ⟨rfl, trivial⟩ ?_
                        replace hM := hM.t0
                        have hM := hM.fewer rsN
                        exact ⟨(), rfl, hM.gives⟩

end Go.Proofs.Ytdfjkipdmeomdaa
