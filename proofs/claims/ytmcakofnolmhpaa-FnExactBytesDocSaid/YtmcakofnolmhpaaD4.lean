/- Walks of functions of this program (printed by a program of ours, by the rules of the layer). No condition. -/
import Derived.Test.YtmcakofnolmhpaaD3
import Derived.Test.YtmcakofnolmhpaaNs
namespace Go.Proofs.Ytmcakofnolmhpaa
open Go.RowKit

noncomputable def x_laws_toByteS_b0 (a : List UInt8) (i34 : Int) (l35 : List UInt8) : Option (Lr (Int × List UInt8) (List UInt8)) :=
  bif decide (i34 < (a.length : Int)) then (xg (0 ≤ i34 ∧ i34 < (a.length : Int)) <| xg (0 ≤ i34 ∧ i34 < (l35.length : Int)) <| xg (inI (i34 + 1)) <| some (Lr.go (i34 + 1, l35.set i34.toNat (el a i34.toNat)))) else (some (Lr.out l35))
noncomputable def x_laws_toByteS_f0 (a : List UInt8) (s79 : Int × List UInt8) : Option (Lr (Int × List UInt8) (List UInt8)) := x_laws_toByteS_b0 a s79.1 s79.2
noncomputable def x_laws_toByteS (a : List UInt8) : Option (List UInt8) :=
  xg (0 ≤ (a.length : Int) ∧ (a.length : Int) ≤ 1099511627776) <| Option.bind (iter (x_laws_toByteS_f0 a) (0, List.replicate ((a.length : Int).toNat) 0)) fun (y80 : List UInt8) => some y80
theorem ct_laws_toByteS (w : World) (X S : Bs) (a : List UInt8) (s_a : Sv) (hS : ∀ b, S b → b < w.heap.size ∧ ¬ X b) (a_a_0 : (cSl 1 fY a).rd S w s_a.v) (oL : Sep [] X w) {r : List UInt8} (hx : x_laws_toByteS a = some r) :
    Ret Try.prog 5 [s_a.v] w (fun u w' => ∃ y : Sv, u = y.v ∧ Gives X S w [oC (cSl 1 fY r) y.v] [] w') := by
  unfold x_laws_toByteS at hx
  refine enter Try.func5 rfl Try.ntmps5 (by kernel_rfl) rfl ?_
  have hM := St.enter oL hS
  have hM := hM.addE (r := rV s_a.v (cSl 1 fY a)) a_a_0
  refine wc_seq ?_
  refine wc_region ?_
  refine wv rfl (r_assign rfl) ?_
  refine wl_nil ?_
  refine sq_n ?_
  refine wc_seq ?_
  refine wc_region ?_
  refine wv rfl (r_move rfl) ?_
  refine wv rfl (r_lenC Try.underlying22 rfl (hM.seeR (.head _))) ?_
  obtain ⟨hg89, hx⟩ := xg_some hx
  have hk90 : (a.length : Int) = ((a.length : Int).toNat : Int) := by omega
  refine w_ex rfl (x_make (f := fY) (k := ((a.length : Int).toNat)) 0 Try.underlying22 sz5 (fun _ => rfl) (fun _ => zP (pV _ rfl) zN) (by rw [← hk90]; rfl) (by omega) rfl hM ?_); intro s88 w87 hR91 hM
  refine wv rfl (r_assign rfl) ?_
  refine wl_nil ?_
  refine sq_n ?_
  refine wc_seq ?_
  refine wc_seq ?_
  refine wc_region ?_
  refine wv rfl (r_assign rfl) ?_
  refine wl_nil ?_
  refine sq_n ?_
  refine wc_block ?_
  obtain ⟨y95, hx, hx96⟩ := bind_some' hx
  obtain ⟨m101, hx⟩ := iter_run hx
  refine wc_loop (un fun (m99 : Nat) => un fun (i97 : Int) => fun (l98 : List UInt8) => [(0, s_a.v), (3, s88.v), (4, (.int .i64 i97))]) (un fun (m99 : Nat) => un fun (i97 : Int) => fun (l98 : List UInt8) w' => St ⟨w, X, S⟩ [oC (cSl 1 fY l98) s88.v] [rV s_a.v (cSl 1 fY a)] w' ∧ iterN _ m99 (i97, l98) = some y95) (fun p => p.1) (m101, 0, List.replicate ((a.length : Int).toNat) 0) ⟨rfl, rfl, rfl, trivial⟩ ⟨hM, hx⟩ ?_
  rintro ⟨m99, i97, l98⟩ w102 ⟨hM, hx⟩
  obtain ⟨m103, z104, rfl, hx, hx105⟩ := iterN_step hx
  unfold x_laws_toByteS_f0 x_laws_toByteS_b0 at hx
  try dsimp only at hx
  refine wc_seq ?_
  refine wc_seq ?_
  refine wc_region ?_
  refine wv rfl (r_move rfl) ?_
  refine wv rfl (r_move rfl) ?_
  refine wv rfl (r_lenC Try.underlying22 rfl (hM.seeR (.head _))) ?_
  refine wv rfl (r_lss rfl rfl) ?_
  refine wl_nil ?_
  refine sq_n ?_
  refine wc_cond rfl (fun hc110 => ?_) (fun hc110 => ?_)
  · replace hx := xif_t hc110 hx
    refine wc_skip ?_
    refine sq_n ?_
    refine wc_seq ?_
    refine wc_block ?_
    refine wc_region ?_
    refine wv rfl (r_move rfl) ?_
    refine wv rfl (r_move rfl) ?_
    refine wv rfl (r_move rfl) ?_
    refine wv rfl (r_move rfl) ?_
    obtain ⟨hg117, hx⟩ := xg_some hx
    have hi116 : i97.toNat < a.length := by omega
    refine wv rfl (r_ixC Try.underlying22 sz5 rfl rfl (hM.seeR (.head _)) hg117) ?_
    refine wv rfl (r_ld Try.underlying5 rfl rfl (Cs.get (i := i97.toNat) (j := 0) (hM.seeR (.head _)) (fun _ => rfl) hi116 rfl)) ?_
    obtain ⟨hg121, hx⟩ := xg_some hx
    have hi120 : i97.toNat < l98.length := by omega
    refine wv rfl (r_ixC Try.underlying22 sz5 rfl rfl (hM.seeO (.head _)) hg121) ?_
    refine w_exu (x_stE (f := fY) (k := 1) (L := l98) (i := i97.toNat) (j := 0) (el a i97.toNat) [cY (el a i97.toNat)] sz5 (fun _ => rfl) rfl rfl hi120 rfl rfl rfl rfl rfl (fun _ => zP (pV _ rfl) zN) hM ?_); intro w122 hM
    refine wl_nil ?_
    refine bk_n ?_
    refine sq_n ?_
    refine wc_region ?_
    refine wv rfl (r_move rfl) ?_
    obtain ⟨hg126, hx⟩ := xg_some hx
    refine wv rfl (r_add rfl rfl hg126) ?_
    refine wv rfl (r_assign rfl) ?_
    refine wl_nil ?_
    obtain rfl := Option.some.inj hx
    exact lp_end (m103, i97 + 1, l98.set i97.toNat (el a i97.toNat)) (Nat.lt_succ_self _) ⟨rfl, rfl, rfl, trivial⟩ ⟨hM, hx105⟩
  · replace hx := xif_f hc110 hx
    refine wc_exit ?_
    refine sq_exit ?_
    refine lp1_exit ?_
    obtain rfl := Option.some.inj hx
    obtain rfl := Option.some.inj hx105
    replace hx := hx96
    try dsimp only [Sum.elim_inl, Sum.elim_inr] at hx
    refine bk_here ?_
    refine sq_n ?_
    refine wc_seq ?_
    refine wc_region ?_
    refine wv rfl (r_move rfl) ?_
    refine wv rfl (r_assign rfl) ?_
    refine wl_nil ?_
    refine sq_n ?_
    refine wc_ret ?_
    obtain rfl := Option.some.inj hx
    refine fin_ret [s88.v] ⟨rfl, trivial⟩ ?_
    replace hM := hM.t1
    have hM := hM.fewer rsN
    exact ⟨s88, rfl, hM.gives⟩

noncomputable def x_laws_eqIntS_b0 (a : List Int) (b : List Int) (i9 : Int) : Option (Lr Int (Sum Unit Unit)) :=
  bif decide (i9 < (a.length : Int)) then (xg (0 ≤ i9 ∧ i9 < (a.length : Int)) <| xg (0 ≤ i9 ∧ i9 < (b.length : Int)) <| bif !decide ((el a i9.toNat) = (el b i9.toNat)) then (some (Lr.out (Sum.inr (())))) else (xg (inI (i9 + 1)) <| some (Lr.go (i9 + 1)))) else (some (Lr.out (Sum.inl ())))
noncomputable def x_laws_eqIntS_f0 (a : List Int) (b : List Int) (s58 : Int) : Option (Lr Int (Sum Unit Unit)) := x_laws_eqIntS_b0 a b s58
noncomputable def x_laws_eqIntS (a : List Int) (b : List Int) : Option Bool :=
  bif !decide ((a.length : Int) = (b.length : Int)) then (some false) else (Option.bind (iter (x_laws_eqIntS_f0 a b) 0) fun (y59 : Sum Unit Unit) => Sum.elim (fun _y60 => some true) (fun _y61 => some false) y59)
theorem ct_laws_eqIntS (w : World) (X S : Bs) (a : List Int) (s_a : Sv) (b : List Int) (s_b : Sv) (hS : ∀ b, S b → b < w.heap.size ∧ ¬ X b) (a_a_0 : (cSl 1 fI a).rd S w s_a.v) (a_b_0 : (cSl 1 fI b).rd S w s_b.v) (oL : Sep [] X w) {r : Bool} (hx : x_laws_eqIntS a b = some r) :
    Ret Try.prog 22 [s_a.v, s_b.v] w (fun u w' => ∃ _ : Unit, u = (.bool r) ∧ Gives X S w [] [] w') := by
  unfold x_laws_eqIntS at hx
  refine enter Try.func22 rfl Try.ntmps22 (by kernel_rfl) rfl ?_
  have hM := St.enter oL hS
  have hM := hM.addE (r := rV s_a.v (cSl 1 fI a)) a_a_0
  have hM := hM.addE (r := rV s_b.v (cSl 1 fI b)) a_b_0
  refine wc_seq ?_
  refine wc_region ?_
  refine wv rfl (r_assign rfl) ?_
  refine wl_nil ?_
  refine sq_n ?_
  refine wc_seq ?_
  refine wc_seq ?_
  refine wc_region ?_
  refine wv rfl (r_move rfl) ?_
  refine wv rfl (r_lenC Try.underlying23 rfl (hM.seeR (.tail _ (.head _)))) ?_
  refine wv rfl (r_move rfl) ?_
  refine wv rfl (r_lenC Try.underlying23 rfl (hM.seeR (.head _))) ?_
  refine wv rfl (r_neq rfl rfl) ?_
  refine wl_nil ?_
  refine sq_n ?_
  refine wc_cond rfl (fun hc69 => ?_) (fun hc69 => ?_)
  · replace hx := xif_t hc69 hx
    refine wc_seq ?_
    refine wc_region ?_
    refine wv rfl (r_assign rfl) ?_
    refine wl_nil ?_
    refine sq_n ?_
    refine wc_ret ?_
    refine sq_ret ?_
    obtain rfl := Option.some.inj hx
    refine fin_ret [(.bool false)] ⟨rfl, trivial⟩ ?_
    replace hM := hM.t0
    have hM := hM.fewer rsN
    exact ⟨(), rfl, hM.gives⟩
  · replace hx := xif_f hc69 hx
    refine wc_skip ?_
    refine sq_n ?_
    refine wc_seq ?_
    refine wc_seq ?_
    refine wc_region ?_
    refine wv rfl (r_assign rfl) ?_
    refine wl_nil ?_
    refine sq_n ?_
    refine wc_block ?_
    obtain ⟨y72, hx, hx73⟩ := bind_some' hx
    have hM := hM.fewer (rsC (.tail _ (.head _)) (rsC (.head _) rsN))
    replace hM : St ⟨w, X, S⟩ [] [rV s_a.v (cSl 1 fI a), rV s_b.v (cSl 1 fI b)] _ := hM
    obtain ⟨m77, hx⟩ := iter_run hx
    refine wc_loop (un fun (m75 : Nat) => fun (i74 : Int) => [(0, s_a.v), (1, s_b.v), (5, (.int .i64 i74))]) (un fun (m75 : Nat) => fun (i74 : Int) w' => St ⟨w, X, S⟩ [] [rV s_a.v (cSl 1 fI a), rV s_b.v (cSl 1 fI b)] w' ∧ iterN _ m75 i74 = some y72) (fun p => p.1) (m77, 0) ⟨rfl, rfl, rfl, trivial⟩ ⟨hM, hx⟩ ?_
    rintro ⟨m75, i74⟩ w78 ⟨hM, hx⟩
    obtain ⟨m79, z80, rfl, hx, hx81⟩ := iterN_step hx
    unfold x_laws_eqIntS_f0 x_laws_eqIntS_b0 at hx
    try dsimp only at hx
    refine wc_seq ?_
    refine wc_seq ?_
    refine wc_region ?_
    refine wv rfl (r_move rfl) ?_
    refine wv rfl (r_move rfl) ?_
    refine wv rfl (r_lenC Try.underlying23 rfl (hM.seeR (.head _))) ?_
    refine wv rfl (r_lss rfl rfl) ?_
    refine wl_nil ?_
    refine sq_n ?_
    refine wc_cond rfl (fun hc86 => ?_) (fun hc86 => ?_)
    · replace hx := xif_t hc86 hx
      refine wc_skip ?_
      refine sq_n ?_
      refine wc_seq ?_
      refine wc_block ?_
      refine wc_seq ?_
      refine wc_draw [(0, 0), (1, 0), (2, 0), (3, 0), (4, 0), (5, 0), (6, 0), (7, 0), (8, 0)] Try_mixed (by kernel_rfl) rfl (by kernel_rfl) rfl ?_
      refine ov rfl (fun w' h' => r_move rfl) ?_
      refine ov rfl (fun w' h' => r_move rfl) ?_
      obtain ⟨hg91, hx⟩ := xg_some hx
      have hi90 : i74.toNat < a.length := by omega
      refine ov rfl (fun w' h' => r_ixC Try.underlying23 sz3 rfl rfl ((hM.call h').seeR (.head _)) hg91) ?_
      refine ov rfl (fun w' h' => r_ld Try.underlying3 rfl rfl (Cs.get (i := i74.toNat) (j := 0) ((hM.call h').seeR (.head _)) (fun _ => rfl) hi90 rfl)) ?_
      refine ov rfl (fun w' h' => r_move rfl) ?_
      refine ov rfl (fun w' h' => r_move rfl) ?_
      obtain ⟨hg97, hx⟩ := xg_some hx
      have hi96 : i74.toNat < b.length := by omega
      refine ov rfl (fun w' h' => r_ixC Try.underlying23 sz3 rfl rfl ((hM.call h').seeR (.tail _ (.head _))) hg97) ?_
      refine ov rfl (fun w' h' => r_ld Try.underlying3 rfl rfl (Cs.get (i := i74.toNat) (j := 0) ((hM.call h').seeR (.tail _ (.head _))) (fun _ => rfl) hi96 rfl)) ?_
      refine ov rfl (fun w' h' => r_neq rfl rfl) ?_
      refine o_nil fun w100 hw101 => ?_
      have hM := hM.call hw101
      refine sq_n ?_
      refine wc_cond rfl (fun hc102 => ?_) (fun hc102 => ?_)
      · replace hx := xif_t hc102 hx
        refine wc_seq ?_
        refine wc_region ?_
        refine wv rfl (r_assign rfl) ?_
        refine wl_nil ?_
        refine sq_n ?_
        refine wc_ret ?_
        refine bk_ret ?_
        refine sq_ret ?_
        refine lp1_ret ?_
        obtain rfl := Option.some.inj hx
        obtain rfl := Option.some.inj hx81
        replace hx := hx73
        try dsimp only [Sum.elim_inl, Sum.elim_inr] at hx
        refine bk_ret ?_
        refine sq_ret ?_
        obtain rfl := Option.some.inj hx
        refine fin_ret [(.bool false)] ⟨rfl, trivial⟩ ?_
        replace hM := hM.t0
        have hM := hM.fewer rsN
        exact ⟨(), rfl, hM.gives⟩
      · replace hx := xif_f hc102 hx
        refine wc_skip ?_
        refine bk_n ?_
        refine sq_n ?_
        refine wc_region ?_
        refine wv rfl (r_move rfl) ?_
        obtain ⟨hg106, hx⟩ := xg_some hx
        refine wv rfl (r_add rfl rfl hg106) ?_
        refine wv rfl (r_assign rfl) ?_
        refine wl_nil ?_
        obtain rfl := Option.some.inj hx
        exact lp_end (m79, i74 + 1) (Nat.lt_succ_self _) ⟨rfl, rfl, rfl, trivial⟩ ⟨hM, hx81⟩
    · replace hx := xif_f hc86 hx
      refine wc_exit ?_
      refine sq_exit ?_
      refine lp1_exit ?_
      obtain rfl := Option.some.inj hx
      obtain rfl := Option.some.inj hx81
      replace hx := hx73
      try dsimp only [Sum.elim_inl, Sum.elim_inr] at hx
      refine bk_here ?_
      refine sq_n ?_
      refine wc_seq ?_
      refine wc_region ?_
      refine wv rfl (r_assign rfl) ?_
      refine wl_nil ?_
      refine sq_n ?_
      refine wc_ret ?_
      obtain rfl := Option.some.inj hx
      refine fin_ret [(.bool true)] ⟨rfl, trivial⟩ ?_
      replace hM := hM.t0
      have hM := hM.fewer rsN
      exact ⟨(), rfl, hM.gives⟩

noncomputable def x_laws_eqPart (a : DPart) (b : DPart) : Option Bool :=
  bif !decide (a.kind = b.kind) then (some false) else (bif !decide (a.n = b.n) then (some false) else (Option.bind (x_laws_eqIntS a.signs b.signs) fun r26 => bif !r26 then (some false) else (some true)))
theorem ct_laws_eqPart (w : World) (X S : Bs) (a : DPart) (s_a_2 : Sv) (b : DPart) (s_b_2 : Sv) (hS : ∀ b, S b → b < w.heap.size ∧ ¬ X b) (a_a_2 : (cSl 1 fI a.signs).rd S w s_a_2.v) (a_b_2 : (cSl 1 fI b.signs).rd S w s_b_2.v) (oL : Sep [] X w) {r : Bool} (hx : x_laws_eqPart a b = some r) :
    Ret Try.prog 83 [(.agg #[(.int .i64 a.kind), (.int .i64 a.n), s_a_2.v]), (.agg #[(.int .i64 b.kind), (.int .i64 b.n), s_b_2.v])] w (fun u w' => ∃ _ : Unit, u = (.bool r) ∧ Gives X S w [] [] w') := by
  unfold x_laws_eqPart at hx
  refine enter Try.func83 rfl Try.ntmps83 (by kernel_rfl) rfl ?_
  have hM := St.enter oL hS
  have hM := hM.addE (r := rV s_a_2.v (cSl 1 fI a.signs)) a_a_2
  have hM := hM.addE (r := rV s_b_2.v (cSl 1 fI b.signs)) a_b_2
  refine wc_seq ?_
  refine wc_region ?_
  refine w_ex rfl (x_box rfl hM ?_); intro b34 w33 hR35 hM
  replace hM : St ⟨w, X, S⟩ [oBox b34 #[(.int .i64 a.kind), (.int .i64 a.n), s_a_2.v] 65] [rV s_b_2.v (cSl 1 fI b.signs), rV s_a_2.v (cSl 1 fI a.signs)] _ := hM
  refine w_ex rfl (x_box rfl hM ?_); intro b38 w37 hR39 hM
  replace hM : St ⟨w, X, S⟩ [oBox b38 #[(.int .i64 b.kind), (.int .i64 b.n), s_b_2.v] 65, oBox b34 #[(.int .i64 a.kind), (.int .i64 a.n), s_a_2.v] 65] [rV s_b_2.v (cSl 1 fI b.signs), rV s_a_2.v (cSl 1 fI a.signs)] _ := hM
  refine wv rfl (r_assign rfl) ?_
  refine wl_nil ?_
  refine sq_n ?_
  refine wc_seq ?_
  refine wc_seq ?_
  refine wc_region ?_
  refine wv rfl (r_fld Try.underlying65 rfl rfl sz3 rfl) ?_
  refine wv rfl (r_ldB Try.underlying3 rfl rfl hM (.tail _ (.head _)) rfl) ?_
  refine wv rfl (r_fld Try.underlying65 rfl rfl sz3 rfl) ?_
  refine wv rfl (r_ldB Try.underlying3 rfl rfl hM (.head _) rfl) ?_
  refine wv rfl (r_neq rfl rfl) ?_
  refine wl_nil ?_
  refine sq_n ?_
  refine wc_cond rfl (fun hc47 => ?_) (fun hc47 => ?_)
  · replace hx := xif_t hc47 hx
    refine wc_seq ?_
    refine wc_region ?_
    refine wv rfl (r_assign rfl) ?_
    refine wl_nil ?_
    refine sq_n ?_
    refine wc_ret ?_
    refine sq_ret ?_
    obtain rfl := Option.some.inj hx
    refine fin_ret [(.bool false)] ⟨rfl, trivial⟩ ?_
    replace hM := hM.t0
    have hM := hM.fewer rsN
    exact ⟨(), rfl, hM.gives⟩
  · replace hx := xif_f hc47 hx
    refine wc_skip ?_
    refine sq_n ?_
    refine wc_seq ?_
    refine wc_seq ?_
    refine wc_region ?_
    refine wv rfl (r_fld Try.underlying65 rfl rfl sz3 rfl) ?_
    refine wv rfl (r_ldB Try.underlying3 rfl rfl hM (.tail _ (.head _)) rfl) ?_
    refine wv rfl (r_fld Try.underlying65 rfl rfl sz3 rfl) ?_
    refine wv rfl (r_ldB Try.underlying3 rfl rfl hM (.head _) rfl) ?_
    refine wv rfl (r_neq rfl rfl) ?_
    refine wl_nil ?_
    refine sq_n ?_
    refine wc_cond rfl (fun hc54 => ?_) (fun hc54 => ?_)
    · replace hx := xif_t hc54 hx
      refine wc_seq ?_
      refine wc_region ?_
      refine wv rfl (r_assign rfl) ?_
      refine wl_nil ?_
      refine sq_n ?_
      refine wc_ret ?_
      refine sq_ret ?_
      obtain rfl := Option.some.inj hx
      refine fin_ret [(.bool false)] ⟨rfl, trivial⟩ ?_
      replace hM := hM.t0
      have hM := hM.fewer rsN
      exact ⟨(), rfl, hM.gives⟩
    · replace hx := xif_f hc54 hx
      refine wc_skip ?_
      refine sq_n ?_
      refine wc_seq ?_
      refine wc_seq ?_
      refine wc_region ?_
      refine wv rfl (r_fld Try.underlying65 rfl rfl sz23 rfl) ?_
      refine wv rfl (r_ldB Try.underlying23 rfl rfl hM (.tail _ (.head _)) rfl) ?_
      refine wv rfl (r_fld Try.underlying65 rfl rfl sz23 rfl) ?_
      refine wv rfl (r_ldB Try.underlying23 rfl rfl hM (.head _) rfl) ?_
      obtain ⟨r60, h61, hx⟩ := bind_some' hx
      refine w_call rfl rfl (hM.callV fun X S oL hS hR hO => ct_laws_eqIntS _ X S a.signs s_a_2 b.signs s_b_2 hS (hR _ (.tail _ (.head _))) (hR _ (.head _)) oL h61) ?_
      rintro _ w62 ⟨rfl, hR63⟩
      have hM := hM.call hR63
      refine wv rfl (r_not rfl) ?_
      refine wl_nil ?_
      refine sq_n ?_
      refine wc_cond rfl (fun hc65 => ?_) (fun hc65 => ?_)
      · replace hx := xif_t hc65 hx
        refine wc_seq ?_
        refine wc_region ?_
        refine wv rfl (r_assign rfl) ?_
        refine wl_nil ?_
        refine sq_n ?_
        refine wc_ret ?_
        refine sq_ret ?_
        obtain rfl := Option.some.inj hx
        refine fin_ret [(.bool false)] ⟨rfl, trivial⟩ ?_
        replace hM := hM.t0
        have hM := hM.fewer rsN
        exact ⟨(), rfl, hM.gives⟩
      · replace hx := xif_f hc65 hx
        refine wc_skip ?_
        refine sq_n ?_
        refine wc_seq ?_
        refine wc_region ?_
        refine wv rfl (r_assign rfl) ?_
        refine wl_nil ?_
        refine sq_n ?_
        refine wc_ret ?_
        obtain rfl := Option.some.inj hx
        refine fin_ret [(.bool true)] ⟨rfl, trivial⟩ ?_
        replace hM := hM.t0
        have hM := hM.fewer rsN
        exact ⟨(), rfl, hM.gives⟩

noncomputable def x_laws_eqPartS_b0 (a : List DPart) (b : List DPart) (i9 : Int) : Option (Lr Int (Sum Unit Unit)) :=
  bif decide (i9 < (a.length : Int)) then (xg (0 ≤ i9 ∧ i9 < (a.length : Int)) <| xg (0 ≤ i9 ∧ i9 < (b.length : Int)) <| Option.bind (x_laws_eqPart (el a i9.toNat) (el b i9.toNat)) fun r61 => bif !r61 then (some (Lr.out (Sum.inr (())))) else (xg (inI (i9 + 1)) <| some (Lr.go (i9 + 1)))) else (some (Lr.out (Sum.inl ())))
noncomputable def x_laws_eqPartS_f0 (a : List DPart) (b : List DPart) (s72 : Int) : Option (Lr Int (Sum Unit Unit)) := x_laws_eqPartS_b0 a b s72
noncomputable def x_laws_eqPartS (a : List DPart) (b : List DPart) : Option Bool :=
  bif !decide ((a.length : Int) = (b.length : Int)) then (some false) else (Option.bind (iter (x_laws_eqPartS_f0 a b) 0) fun (y73 : Sum Unit Unit) => Sum.elim (fun _y74 => some true) (fun _y75 => some false) y73)
theorem ct_laws_eqPartS (w : World) (X S : Bs) (a : List DPart) (s_a : Sv) (b : List DPart) (s_b : Sv) (hS : ∀ b, S b → b < w.heap.size ∧ ¬ X b) (a_a_0 : (cSl 3 fDPart a).rd S w s_a.v) (a_b_0 : (cSl 3 fDPart b).rd S w s_b.v) (oL : Sep [] X w) {r : Bool} (hx : x_laws_eqPartS a b = some r) :
    Ret Try.prog 63 [s_a.v, s_b.v] w (fun u w' => ∃ _ : Unit, u = (.bool r) ∧ Gives X S w [] [] w') := by
  unfold x_laws_eqPartS at hx
  refine enter Try.func63 rfl Try.ntmps63 (by kernel_rfl) rfl ?_
  have hM := St.enter oL hS
  have hM := hM.addE (r := rV s_a.v (cSl 3 fDPart a)) a_a_0
  have hM := hM.addE (r := rV s_b.v (cSl 3 fDPart b)) a_b_0
  refine wc_seq ?_
  refine wc_region ?_
  refine wv rfl (r_assign rfl) ?_
  refine wl_nil ?_
  refine sq_n ?_
  refine wc_seq ?_
  refine wc_seq ?_
  refine wc_region ?_
  refine wv rfl (r_move rfl) ?_
  refine wv rfl (r_lenC Try.underlying42 rfl (hM.seeR (.tail _ (.head _)))) ?_
  refine wv rfl (r_move rfl) ?_
  refine wv rfl (r_lenC Try.underlying42 rfl (hM.seeR (.head _))) ?_
  refine wv rfl (r_neq rfl rfl) ?_
  refine wl_nil ?_
  refine sq_n ?_
  refine wc_cond rfl (fun hc83 => ?_) (fun hc83 => ?_)
  · replace hx := xif_t hc83 hx
    refine wc_seq ?_
    refine wc_region ?_
    refine wv rfl (r_assign rfl) ?_
    refine wl_nil ?_
    refine sq_n ?_
    refine wc_ret ?_
    refine sq_ret ?_
    obtain rfl := Option.some.inj hx
    refine fin_ret [(.bool false)] ⟨rfl, trivial⟩ ?_
    replace hM := hM.t0
    have hM := hM.fewer rsN
    exact ⟨(), rfl, hM.gives⟩
  · replace hx := xif_f hc83 hx
    refine wc_skip ?_
    refine sq_n ?_
    refine wc_seq ?_
    refine wc_seq ?_
    refine wc_region ?_
    refine wv rfl (r_assign rfl) ?_
    refine wl_nil ?_
    refine sq_n ?_
    refine wc_block ?_
    obtain ⟨y86, hx, hx87⟩ := bind_some' hx
    have hM := hM.fewer (rsC (.tail _ (.head _)) (rsC (.head _) rsN))
    replace hM : St ⟨w, X, S⟩ [] [rV s_a.v (cSl 3 fDPart a), rV s_b.v (cSl 3 fDPart b)] _ := hM
    obtain ⟨m91, hx⟩ := iter_run hx
    refine wc_loop (un fun (m89 : Nat) => fun (i88 : Int) => [(0, s_a.v), (1, s_b.v), (5, (.int .i64 i88))]) (un fun (m89 : Nat) => fun (i88 : Int) w' => St ⟨w, X, S⟩ [] [rV s_a.v (cSl 3 fDPart a), rV s_b.v (cSl 3 fDPart b)] w' ∧ iterN _ m89 i88 = some y86) (fun p => p.1) (m91, 0) ⟨rfl, rfl, rfl, trivial⟩ ⟨hM, hx⟩ ?_
    rintro ⟨m89, i88⟩ w92 ⟨hM, hx⟩
    obtain ⟨m93, z94, rfl, hx, hx95⟩ := iterN_step hx
    unfold x_laws_eqPartS_f0 x_laws_eqPartS_b0 at hx
    try dsimp only at hx
    refine wc_seq ?_
    refine wc_seq ?_
    refine wc_region ?_
    refine wv rfl (r_move rfl) ?_
    refine wv rfl (r_move rfl) ?_
    refine wv rfl (r_lenC Try.underlying42 rfl (hM.seeR (.head _))) ?_
    refine wv rfl (r_lss rfl rfl) ?_
    refine wl_nil ?_
    refine sq_n ?_
    refine wc_cond rfl (fun hc100 => ?_) (fun hc100 => ?_)
    · replace hx := xif_t hc100 hx
      refine wc_skip ?_
      refine sq_n ?_
      refine wc_seq ?_
      refine wc_block ?_
      refine wc_seq ?_
      refine wc_draw [(0, 0), (1, 0), (2, 0), (3, 0), (4, 0), (5, 0), (6, 0), (7, 0), (8, 0), (9, 0)] Try_mixed (by kernel_rfl) rfl (by kernel_rfl) rfl ?_
      refine ov rfl (fun w' h' => r_move rfl) ?_
      refine ov rfl (fun w' h' => r_move rfl) ?_
      obtain ⟨hg105, hx⟩ := xg_some hx
      have hi104 : i88.toNat < a.length := by omega
      refine ov rfl (fun w' h' => r_ixC Try.underlying42 sz65 rfl rfl ((hM.call h').seeR (.head _)) hg105) ?_
      obtain ⟨s107, hM, hc108⟩ := hM.leaf (i := i88.toNat) (j := 2) (.head _) (fun _ => rfl) hi104 rfl
      refine ov rfl (fun w' h' => r_ldC (o := i88.toNat * 3) Try.underlying65 sz65 rfl (us := [(.int .i64 ((el a i88.toNat).kind)), (.int .i64 ((el a i88.toNat).n)), s107.v]) rfl ((hM.call h').seeR (.tail _ (.head _))) hi104 ⟨(Cs.get (i := i88.toNat) (j := 0) ((hM.call h').seeR (.tail _ (.head _))) (fun _ => rfl) hi104 rfl), (Cs.get (i := i88.toNat) (j := 1) ((hM.call h').seeR (.tail _ (.head _))) (fun _ => rfl) hi104 rfl), (hc108 w' h'), trivial⟩) ?_
      refine ov rfl (fun w' h' => r_move rfl) ?_
      refine ov rfl (fun w' h' => r_move rfl) ?_
      obtain ⟨hg113, hx⟩ := xg_some hx
      have hi112 : i88.toNat < b.length := by omega
      refine ov rfl (fun w' h' => r_ixC Try.underlying42 sz65 rfl rfl ((hM.call h').seeR (.tail _ (.tail _ (.head _)))) hg113) ?_
      obtain ⟨s115, hM, hc116⟩ := hM.leaf (i := i88.toNat) (j := 2) (.tail _ (.tail _ (.head _))) (fun _ => rfl) hi112 rfl
      refine ov rfl (fun w' h' => r_ldC (o := i88.toNat * 3) Try.underlying65 sz65 rfl (us := [(.int .i64 ((el b i88.toNat).kind)), (.int .i64 ((el b i88.toNat).n)), s115.v]) rfl ((hM.call h').seeR (.tail _ (.tail _ (.tail _ (.head _))))) hi112 ⟨(Cs.get (i := i88.toNat) (j := 0) ((hM.call h').seeR (.tail _ (.tail _ (.tail _ (.head _))))) (fun _ => rfl) hi112 rfl), (Cs.get (i := i88.toNat) (j := 1) ((hM.call h').seeR (.tail _ (.tail _ (.tail _ (.head _))))) (fun _ => rfl) hi112 rfl), (hc116 w' h'), trivial⟩) ?_
      obtain ⟨r117, h118, hx⟩ := bind_some' hx
      refine oc rfl rfl (fun w' h' => (hM.call h').callV fun X S oL hS hR hO => ct_laws_eqPart _ X S (el a i88.toNat) s107 (el b i88.toNat) s115 hS (hR _ (.tail _ (.head _))) (hR _ (.head _)) oL h118) ?_
      refine ov rfl (fun w' h' => r_not rfl) ?_
      refine o_nil fun w121 hw122 => ?_
      have hM := hM.call hw122
      refine sq_n ?_
      refine wc_cond rfl (fun hc123 => ?_) (fun hc123 => ?_)
      · replace hx := xif_t hc123 hx
        refine wc_seq ?_
        refine wc_region ?_
        refine wv rfl (r_assign rfl) ?_
        refine wl_nil ?_
        refine sq_n ?_
        refine wc_ret ?_
        refine bk_ret ?_
        refine sq_ret ?_
        refine lp1_ret ?_
        obtain rfl := Option.some.inj hx
        obtain rfl := Option.some.inj hx95
        replace hx := hx87
        try dsimp only [Sum.elim_inl, Sum.elim_inr] at hx
        refine bk_ret ?_
        refine sq_ret ?_
        obtain rfl := Option.some.inj hx
        refine fin_ret [(.bool false)] ⟨rfl, trivial⟩ ?_
        replace hM := hM.t0
        have hM := hM.fewer rsN
        exact ⟨(), rfl, hM.gives⟩
      · replace hx := xif_f hc123 hx
        refine wc_skip ?_
        refine bk_n ?_
        refine sq_n ?_
        refine wc_region ?_
        refine wv rfl (r_move rfl) ?_
        obtain ⟨hg127, hx⟩ := xg_some hx
        refine wv rfl (r_add rfl rfl hg127) ?_
        refine wv rfl (r_assign rfl) ?_
        refine wl_nil ?_
        obtain rfl := Option.some.inj hx
        have hM := hM.fewer (rsC (.tail _ (.tail _ (.head _))) (rsC (.tail _ (.tail _ (.tail _ (.head _)))) rsN))
        replace hM : St ⟨w, X, S⟩ [] [rV s_a.v (cSl 3 fDPart a), rV s_b.v (cSl 3 fDPart b)] _ := hM
        exact lp_end (m93, i88 + 1) (Nat.lt_succ_self _) ⟨rfl, rfl, rfl, trivial⟩ ⟨hM, hx95⟩
    · replace hx := xif_f hc100 hx
      refine wc_exit ?_
      refine sq_exit ?_
      refine lp1_exit ?_
      obtain rfl := Option.some.inj hx
      obtain rfl := Option.some.inj hx95
      replace hx := hx87
      try dsimp only [Sum.elim_inl, Sum.elim_inr] at hx
      refine bk_here ?_
      refine sq_n ?_
      refine wc_seq ?_
      refine wc_region ?_
      refine wv rfl (r_assign rfl) ?_
      refine wl_nil ?_
      refine sq_n ?_
      refine wc_ret ?_
      obtain rfl := Option.some.inj hx
      refine fin_ret [(.bool true)] ⟨rfl, trivial⟩ ?_
      replace hM := hM.t0
      have hM := hM.fewer rsN
      exact ⟨(), rfl, hM.gives⟩

noncomputable def x_laws_eqEntry (a : DEntry) (b : DEntry) : Option Bool :=
  bif !decide (a.client = b.client) then (some false) else (bif !decide (a.seq = b.seq) then (some false) else (Option.bind (x_laws_eqPartS a.o b.o) fun r26 => bif !r26 then (some false) else (some true)))
theorem ct_laws_eqEntry (w : World) (X S : Bs) (a : DEntry) (s_a_2 : Sv) (b : DEntry) (s_b_2 : Sv) (hS : ∀ b, S b → b < w.heap.size ∧ ¬ X b) (a_a_2 : (cSl 3 fDPart a.o).rd S w s_a_2.v) (a_b_2 : (cSl 3 fDPart b.o).rd S w s_b_2.v) (oL : Sep [] X w) {r : Bool} (hx : x_laws_eqEntry a b = some r) :
    Ret Try.prog 39 [(.agg #[(.int .i64 a.client), (.int .i64 a.seq), s_a_2.v]), (.agg #[(.int .i64 b.client), (.int .i64 b.seq), s_b_2.v])] w (fun u w' => ∃ _ : Unit, u = (.bool r) ∧ Gives X S w [] [] w') := by
  unfold x_laws_eqEntry at hx
  refine enter Try.func39 rfl Try.ntmps39 (by kernel_rfl) rfl ?_
  have hM := St.enter oL hS
  have hM := hM.addE (r := rV s_a_2.v (cSl 3 fDPart a.o)) a_a_2
  have hM := hM.addE (r := rV s_b_2.v (cSl 3 fDPart b.o)) a_b_2
  refine wc_seq ?_
  refine wc_region ?_
  refine w_ex rfl (x_box rfl hM ?_); intro b34 w33 hR35 hM
  replace hM : St ⟨w, X, S⟩ [oBox b34 #[(.int .i64 a.client), (.int .i64 a.seq), s_a_2.v] 44] [rV s_b_2.v (cSl 3 fDPart b.o), rV s_a_2.v (cSl 3 fDPart a.o)] _ := hM
  refine w_ex rfl (x_box rfl hM ?_); intro b38 w37 hR39 hM
  replace hM : St ⟨w, X, S⟩ [oBox b38 #[(.int .i64 b.client), (.int .i64 b.seq), s_b_2.v] 44, oBox b34 #[(.int .i64 a.client), (.int .i64 a.seq), s_a_2.v] 44] [rV s_b_2.v (cSl 3 fDPart b.o), rV s_a_2.v (cSl 3 fDPart a.o)] _ := hM
  refine wv rfl (r_assign rfl) ?_
  refine wl_nil ?_
  refine sq_n ?_
  refine wc_seq ?_
  refine wc_seq ?_
  refine wc_region ?_
  refine wv rfl (r_fld Try.underlying44 rfl rfl sz3 rfl) ?_
  refine wv rfl (r_ldB Try.underlying3 rfl rfl hM (.tail _ (.head _)) rfl) ?_
  refine wv rfl (r_fld Try.underlying44 rfl rfl sz3 rfl) ?_
  refine wv rfl (r_ldB Try.underlying3 rfl rfl hM (.head _) rfl) ?_
  refine wv rfl (r_neq rfl rfl) ?_
  refine wl_nil ?_
  refine sq_n ?_
  refine wc_cond rfl (fun hc47 => ?_) (fun hc47 => ?_)
  · replace hx := xif_t hc47 hx
    refine wc_seq ?_
    refine wc_region ?_
    refine wv rfl (r_assign rfl) ?_
    refine wl_nil ?_
    refine sq_n ?_
    refine wc_ret ?_
    refine sq_ret ?_
    obtain rfl := Option.some.inj hx
    refine fin_ret [(.bool false)] ⟨rfl, trivial⟩ ?_
    replace hM := hM.t0
    have hM := hM.fewer rsN
    exact ⟨(), rfl, hM.gives⟩
  · replace hx := xif_f hc47 hx
    refine wc_skip ?_
    refine sq_n ?_
    refine wc_seq ?_
    refine wc_seq ?_
    refine wc_region ?_
    refine wv rfl (r_fld Try.underlying44 rfl rfl sz3 rfl) ?_
    refine wv rfl (r_ldB Try.underlying3 rfl rfl hM (.tail _ (.head _)) rfl) ?_
    refine wv rfl (r_fld Try.underlying44 rfl rfl sz3 rfl) ?_
    refine wv rfl (r_ldB Try.underlying3 rfl rfl hM (.head _) rfl) ?_
    refine wv rfl (r_neq rfl rfl) ?_
    refine wl_nil ?_
    refine sq_n ?_
    refine wc_cond rfl (fun hc54 => ?_) (fun hc54 => ?_)
    · replace hx := xif_t hc54 hx
      refine wc_seq ?_
      refine wc_region ?_
      refine wv rfl (r_assign rfl) ?_
      refine wl_nil ?_
      refine sq_n ?_
      refine wc_ret ?_
      refine sq_ret ?_
      obtain rfl := Option.some.inj hx
      refine fin_ret [(.bool false)] ⟨rfl, trivial⟩ ?_
      replace hM := hM.t0
      have hM := hM.fewer rsN
      exact ⟨(), rfl, hM.gives⟩
    · replace hx := xif_f hc54 hx
      refine wc_skip ?_
      refine sq_n ?_
      refine wc_seq ?_
      refine wc_seq ?_
      refine wc_region ?_
      refine wv rfl (r_fld Try.underlying44 rfl rfl sz42 rfl) ?_
      refine wv rfl (r_ldB Try.underlying42 rfl rfl hM (.tail _ (.head _)) rfl) ?_
      refine wv rfl (r_fld Try.underlying44 rfl rfl sz42 rfl) ?_
      refine wv rfl (r_ldB Try.underlying42 rfl rfl hM (.head _) rfl) ?_
      obtain ⟨r60, h61, hx⟩ := bind_some' hx
      refine w_call rfl rfl (hM.callV fun X S oL hS hR hO => ct_laws_eqPartS _ X S a.o s_a_2 b.o s_b_2 hS (hR _ (.tail _ (.head _))) (hR _ (.head _)) oL h61) ?_
      rintro _ w62 ⟨rfl, hR63⟩
      have hM := hM.call hR63
      refine wv rfl (r_not rfl) ?_
      refine wl_nil ?_
      refine sq_n ?_
      refine wc_cond rfl (fun hc65 => ?_) (fun hc65 => ?_)
      · replace hx := xif_t hc65 hx
        refine wc_seq ?_
        refine wc_region ?_
        refine wv rfl (r_assign rfl) ?_
        refine wl_nil ?_
        refine sq_n ?_
        refine wc_ret ?_
        refine sq_ret ?_
        obtain rfl := Option.some.inj hx
        refine fin_ret [(.bool false)] ⟨rfl, trivial⟩ ?_
        replace hM := hM.t0
        have hM := hM.fewer rsN
        exact ⟨(), rfl, hM.gives⟩
      · replace hx := xif_f hc65 hx
        refine wc_skip ?_
        refine sq_n ?_
        refine wc_seq ?_
        refine wc_region ?_
        refine wv rfl (r_assign rfl) ?_
        refine wl_nil ?_
        refine sq_n ?_
        refine wc_ret ?_
        obtain rfl := Option.some.inj hx
        refine fin_ret [(.bool true)] ⟨rfl, trivial⟩ ?_
        replace hM := hM.t0
        have hM := hM.fewer rsN
        exact ⟨(), rfl, hM.gives⟩

noncomputable def x_laws_eqEntryS_b0 (a : List DEntry) (b : List DEntry) (i9 : Int) : Option (Lr Int (Sum Unit Unit)) :=
  bif decide (i9 < (a.length : Int)) then (xg (0 ≤ i9 ∧ i9 < (a.length : Int)) <| xg (0 ≤ i9 ∧ i9 < (b.length : Int)) <| Option.bind (x_laws_eqEntry (el a i9.toNat) (el b i9.toNat)) fun r61 => bif !r61 then (some (Lr.out (Sum.inr (())))) else (xg (inI (i9 + 1)) <| some (Lr.go (i9 + 1)))) else (some (Lr.out (Sum.inl ())))
noncomputable def x_laws_eqEntryS_f0 (a : List DEntry) (b : List DEntry) (s72 : Int) : Option (Lr Int (Sum Unit Unit)) := x_laws_eqEntryS_b0 a b s72
noncomputable def x_laws_eqEntryS (a : List DEntry) (b : List DEntry) : Option Bool :=
  bif !decide ((a.length : Int) = (b.length : Int)) then (some false) else (Option.bind (iter (x_laws_eqEntryS_f0 a b) 0) fun (y73 : Sum Unit Unit) => Sum.elim (fun _y74 => some true) (fun _y75 => some false) y73)
theorem ct_laws_eqEntryS (w : World) (X S : Bs) (a : List DEntry) (s_a : Sv) (b : List DEntry) (s_b : Sv) (hS : ∀ b, S b → b < w.heap.size ∧ ¬ X b) (a_a_0 : (cSl 3 fDEntry a).rd S w s_a.v) (a_b_0 : (cSl 3 fDEntry b).rd S w s_b.v) (oL : Sep [] X w) {r : Bool} (hx : x_laws_eqEntryS a b = some r) :
    Ret Try.prog 23 [s_a.v, s_b.v] w (fun u w' => ∃ _ : Unit, u = (.bool r) ∧ Gives X S w [] [] w') := by
  unfold x_laws_eqEntryS at hx
  refine enter Try.func23 rfl Try.ntmps23 (by kernel_rfl) rfl ?_
  have hM := St.enter oL hS
  have hM := hM.addE (r := rV s_a.v (cSl 3 fDEntry a)) a_a_0
  have hM := hM.addE (r := rV s_b.v (cSl 3 fDEntry b)) a_b_0
  refine wc_seq ?_
  refine wc_region ?_
  refine wv rfl (r_assign rfl) ?_
  refine wl_nil ?_
  refine sq_n ?_
  refine wc_seq ?_
  refine wc_seq ?_
  refine wc_region ?_
  refine wv rfl (r_move rfl) ?_
  refine wv rfl (r_lenC Try.underlying24 rfl (hM.seeR (.tail _ (.head _)))) ?_
  refine wv rfl (r_move rfl) ?_
  refine wv rfl (r_lenC Try.underlying24 rfl (hM.seeR (.head _))) ?_
  refine wv rfl (r_neq rfl rfl) ?_
  refine wl_nil ?_
  refine sq_n ?_
  refine wc_cond rfl (fun hc83 => ?_) (fun hc83 => ?_)
  · replace hx := xif_t hc83 hx
    refine wc_seq ?_
    refine wc_region ?_
    refine wv rfl (r_assign rfl) ?_
    refine wl_nil ?_
    refine sq_n ?_
    refine wc_ret ?_
    refine sq_ret ?_
    obtain rfl := Option.some.inj hx
    refine fin_ret [(.bool false)] ⟨rfl, trivial⟩ ?_
    replace hM := hM.t0
    have hM := hM.fewer rsN
    exact ⟨(), rfl, hM.gives⟩
  · replace hx := xif_f hc83 hx
    refine wc_skip ?_
    refine sq_n ?_
    refine wc_seq ?_
    refine wc_seq ?_
    refine wc_region ?_
    refine wv rfl (r_assign rfl) ?_
    refine wl_nil ?_
    refine sq_n ?_
    refine wc_block ?_
    obtain ⟨y86, hx, hx87⟩ := bind_some' hx
    have hM := hM.fewer (rsC (.tail _ (.head _)) (rsC (.head _) rsN))
    replace hM : St ⟨w, X, S⟩ [] [rV s_a.v (cSl 3 fDEntry a), rV s_b.v (cSl 3 fDEntry b)] _ := hM
    obtain ⟨m91, hx⟩ := iter_run hx
    refine wc_loop (un fun (m89 : Nat) => fun (i88 : Int) => [(0, s_a.v), (1, s_b.v), (5, (.int .i64 i88))]) (un fun (m89 : Nat) => fun (i88 : Int) w' => St ⟨w, X, S⟩ [] [rV s_a.v (cSl 3 fDEntry a), rV s_b.v (cSl 3 fDEntry b)] w' ∧ iterN _ m89 i88 = some y86) (fun p => p.1) (m91, 0) ⟨rfl, rfl, rfl, trivial⟩ ⟨hM, hx⟩ ?_
    rintro ⟨m89, i88⟩ w92 ⟨hM, hx⟩
    obtain ⟨m93, z94, rfl, hx, hx95⟩ := iterN_step hx
    unfold x_laws_eqEntryS_f0 x_laws_eqEntryS_b0 at hx
    try dsimp only at hx
    refine wc_seq ?_
    refine wc_seq ?_
    refine wc_region ?_
    refine wv rfl (r_move rfl) ?_
    refine wv rfl (r_move rfl) ?_
    refine wv rfl (r_lenC Try.underlying24 rfl (hM.seeR (.head _))) ?_
    refine wv rfl (r_lss rfl rfl) ?_
    refine wl_nil ?_
    refine sq_n ?_
    refine wc_cond rfl (fun hc100 => ?_) (fun hc100 => ?_)
    · replace hx := xif_t hc100 hx
      refine wc_skip ?_
      refine sq_n ?_
      refine wc_seq ?_
      refine wc_block ?_
      refine wc_seq ?_
      refine wc_draw [(0, 0), (1, 0), (2, 0), (3, 0), (4, 0), (5, 0), (6, 0), (7, 0), (8, 0), (9, 0)] Try_mixed (by kernel_rfl) rfl (by kernel_rfl) rfl ?_
      refine ov rfl (fun w' h' => r_move rfl) ?_
      refine ov rfl (fun w' h' => r_move rfl) ?_
      obtain ⟨hg105, hx⟩ := xg_some hx
      have hi104 : i88.toNat < a.length := by omega
      refine ov rfl (fun w' h' => r_ixC Try.underlying24 sz44 rfl rfl ((hM.call h').seeR (.head _)) hg105) ?_
      obtain ⟨s107, hM, hc108⟩ := hM.leaf (i := i88.toNat) (j := 2) (.head _) (fun _ => rfl) hi104 rfl
      refine ov rfl (fun w' h' => r_ldC (o := i88.toNat * 3) Try.underlying44 sz44 rfl (us := [(.int .i64 ((el a i88.toNat).client)), (.int .i64 ((el a i88.toNat).seq)), s107.v]) rfl ((hM.call h').seeR (.tail _ (.head _))) hi104 ⟨(Cs.get (i := i88.toNat) (j := 0) ((hM.call h').seeR (.tail _ (.head _))) (fun _ => rfl) hi104 rfl), (Cs.get (i := i88.toNat) (j := 1) ((hM.call h').seeR (.tail _ (.head _))) (fun _ => rfl) hi104 rfl), (hc108 w' h'), trivial⟩) ?_
      refine ov rfl (fun w' h' => r_move rfl) ?_
      refine ov rfl (fun w' h' => r_move rfl) ?_
      obtain ⟨hg113, hx⟩ := xg_some hx
      have hi112 : i88.toNat < b.length := by omega
      refine ov rfl (fun w' h' => r_ixC Try.underlying24 sz44 rfl rfl ((hM.call h').seeR (.tail _ (.tail _ (.head _)))) hg113) ?_
      obtain ⟨s115, hM, hc116⟩ := hM.leaf (i := i88.toNat) (j := 2) (.tail _ (.tail _ (.head _))) (fun _ => rfl) hi112 rfl
      refine ov rfl (fun w' h' => r_ldC (o := i88.toNat * 3) Try.underlying44 sz44 rfl (us := [(.int .i64 ((el b i88.toNat).client)), (.int .i64 ((el b i88.toNat).seq)), s115.v]) rfl ((hM.call h').seeR (.tail _ (.tail _ (.tail _ (.head _))))) hi112 ⟨(Cs.get (i := i88.toNat) (j := 0) ((hM.call h').seeR (.tail _ (.tail _ (.tail _ (.head _))))) (fun _ => rfl) hi112 rfl), (Cs.get (i := i88.toNat) (j := 1) ((hM.call h').seeR (.tail _ (.tail _ (.tail _ (.head _))))) (fun _ => rfl) hi112 rfl), (hc116 w' h'), trivial⟩) ?_
      obtain ⟨r117, h118, hx⟩ := bind_some' hx
      refine oc rfl rfl (fun w' h' => (hM.call h').callV fun X S oL hS hR hO => ct_laws_eqEntry _ X S (el a i88.toNat) s107 (el b i88.toNat) s115 hS (hR _ (.tail _ (.head _))) (hR _ (.head _)) oL h118) ?_
      refine ov rfl (fun w' h' => r_not rfl) ?_
      refine o_nil fun w121 hw122 => ?_
      have hM := hM.call hw122
      refine sq_n ?_
      refine wc_cond rfl (fun hc123 => ?_) (fun hc123 => ?_)
      · replace hx := xif_t hc123 hx
        refine wc_seq ?_
        refine wc_region ?_
        refine wv rfl (r_assign rfl) ?_
        refine wl_nil ?_
        refine sq_n ?_
        refine wc_ret ?_
        refine bk_ret ?_
        refine sq_ret ?_
        refine lp1_ret ?_
        obtain rfl := Option.some.inj hx
        obtain rfl := Option.some.inj hx95
        replace hx := hx87
        try dsimp only [Sum.elim_inl, Sum.elim_inr] at hx
        refine bk_ret ?_
        refine sq_ret ?_
        obtain rfl := Option.some.inj hx
        refine fin_ret [(.bool false)] ⟨rfl, trivial⟩ ?_
        replace hM := hM.t0
        have hM := hM.fewer rsN
        exact ⟨(), rfl, hM.gives⟩
      · replace hx := xif_f hc123 hx
        refine wc_skip ?_
        refine bk_n ?_
        refine sq_n ?_
        refine wc_region ?_
        refine wv rfl (r_move rfl) ?_
        obtain ⟨hg127, hx⟩ := xg_some hx
        refine wv rfl (r_add rfl rfl hg127) ?_
        refine wv rfl (r_assign rfl) ?_
        refine wl_nil ?_
        obtain rfl := Option.some.inj hx
        have hM := hM.fewer (rsC (.tail _ (.tail _ (.head _))) (rsC (.tail _ (.tail _ (.tail _ (.head _)))) rsN))
        replace hM : St ⟨w, X, S⟩ [] [rV s_a.v (cSl 3 fDEntry a), rV s_b.v (cSl 3 fDEntry b)] _ := hM
        exact lp_end (m93, i88 + 1) (Nat.lt_succ_self _) ⟨rfl, rfl, rfl, trivial⟩ ⟨hM, hx95⟩
    · replace hx := xif_f hc100 hx
      refine wc_exit ?_
      refine sq_exit ?_
      refine lp1_exit ?_
      obtain rfl := Option.some.inj hx
      obtain rfl := Option.some.inj hx95
      replace hx := hx87
      try dsimp only [Sum.elim_inl, Sum.elim_inr] at hx
      refine bk_here ?_
      refine sq_n ?_
      refine wc_seq ?_
      refine wc_region ?_
      refine wv rfl (r_assign rfl) ?_
      refine wl_nil ?_
      refine sq_n ?_
      refine wc_ret ?_
      obtain rfl := Option.some.inj hx
      refine fin_ret [(.bool true)] ⟨rfl, trivial⟩ ?_
      replace hM := hM.t0
      have hM := hM.fewer rsN
      exact ⟨(), rfl, hM.gives⟩

noncomputable def x_laws_eqSeen (a : DSeen) (b : DSeen) : Option Bool :=
  bif !decide (a.client = b.client) then (some false) else (bif !decide (a.seq = b.seq) then (some false) else (bif !decide (a.rev = b.rev) then (some false) else (some true)))
theorem ct_laws_eqSeen (w : World) (X S : Bs) (a : DSeen) (b : DSeen) (hS : ∀ b, S b → b < w.heap.size ∧ ¬ X b)  (oL : Sep [] X w) {r : Bool} (hx : x_laws_eqSeen a b = some r) :
    Ret Try.prog 40 [(.agg #[(.int .i64 a.client), (.int .i64 a.seq), (.int .i64 a.rev)]), (.agg #[(.int .i64 b.client), (.int .i64 b.seq), (.int .i64 b.rev)])] w (fun u w' => ∃ _ : Unit, u = (.bool r) ∧ Gives X S w [] [] w') := by
  unfold x_laws_eqSeen at hx
  refine enter Try.func40 rfl Try.ntmps40 (by kernel_rfl) rfl ?_
  have hM := St.enter oL hS
  refine wc_seq ?_
  refine wc_region ?_
  refine w_ex rfl (x_box rfl hM ?_); intro b30 w29 hR31 hM
  replace hM : St ⟨w, X, S⟩ [oBox b30 #[(.int .i64 a.client), (.int .i64 a.seq), (.int .i64 a.rev)] 47] [] _ := hM
  refine w_ex rfl (x_box rfl hM ?_); intro b34 w33 hR35 hM
  replace hM : St ⟨w, X, S⟩ [oBox b34 #[(.int .i64 b.client), (.int .i64 b.seq), (.int .i64 b.rev)] 47, oBox b30 #[(.int .i64 a.client), (.int .i64 a.seq), (.int .i64 a.rev)] 47] [] _ := hM
  refine wv rfl (r_assign rfl) ?_
  refine wl_nil ?_
  refine sq_n ?_
  refine wc_seq ?_
  refine wc_seq ?_
  refine wc_region ?_
  refine wv rfl (r_fld Try.underlying47 rfl rfl sz3 rfl) ?_
  refine wv rfl (r_ldB Try.underlying3 rfl rfl hM (.tail _ (.head _)) rfl) ?_
  refine wv rfl (r_fld Try.underlying47 rfl rfl sz3 rfl) ?_
  refine wv rfl (r_ldB Try.underlying3 rfl rfl hM (.head _) rfl) ?_
  refine wv rfl (r_neq rfl rfl) ?_
  refine wl_nil ?_
  refine sq_n ?_
  refine wc_cond rfl (fun hc43 => ?_) (fun hc43 => ?_)
  · replace hx := xif_t hc43 hx
    refine wc_seq ?_
    refine wc_region ?_
    refine wv rfl (r_assign rfl) ?_
    refine wl_nil ?_
    refine sq_n ?_
    refine wc_ret ?_
    refine sq_ret ?_
    obtain rfl := Option.some.inj hx
    refine fin_ret [(.bool false)] ⟨rfl, trivial⟩ ?_
    replace hM := hM.t0
    have hM := hM.fewer rsN
    exact ⟨(), rfl, hM.gives⟩
  · replace hx := xif_f hc43 hx
    refine wc_skip ?_
    refine sq_n ?_
    refine wc_seq ?_
    refine wc_seq ?_
    refine wc_region ?_
    refine wv rfl (r_fld Try.underlying47 rfl rfl sz3 rfl) ?_
    refine wv rfl (r_ldB Try.underlying3 rfl rfl hM (.tail _ (.head _)) rfl) ?_
    refine wv rfl (r_fld Try.underlying47 rfl rfl sz3 rfl) ?_
    refine wv rfl (r_ldB Try.underlying3 rfl rfl hM (.head _) rfl) ?_
    refine wv rfl (r_neq rfl rfl) ?_
    refine wl_nil ?_
    refine sq_n ?_
    refine wc_cond rfl (fun hc50 => ?_) (fun hc50 => ?_)
    · replace hx := xif_t hc50 hx
      refine wc_seq ?_
      refine wc_region ?_
      refine wv rfl (r_assign rfl) ?_
      refine wl_nil ?_
      refine sq_n ?_
      refine wc_ret ?_
      refine sq_ret ?_
      obtain rfl := Option.some.inj hx
      refine fin_ret [(.bool false)] ⟨rfl, trivial⟩ ?_
      replace hM := hM.t0
      have hM := hM.fewer rsN
      exact ⟨(), rfl, hM.gives⟩
    · replace hx := xif_f hc50 hx
      refine wc_skip ?_
      refine sq_n ?_
      refine wc_seq ?_
      refine wc_seq ?_
      refine wc_region ?_
      refine wv rfl (r_fld Try.underlying47 rfl rfl sz3 rfl) ?_
      refine wv rfl (r_ldB Try.underlying3 rfl rfl hM (.tail _ (.head _)) rfl) ?_
      refine wv rfl (r_fld Try.underlying47 rfl rfl sz3 rfl) ?_
      refine wv rfl (r_ldB Try.underlying3 rfl rfl hM (.head _) rfl) ?_
      refine wv rfl (r_neq rfl rfl) ?_
      refine wl_nil ?_
      refine sq_n ?_
      refine wc_cond rfl (fun hc57 => ?_) (fun hc57 => ?_)
      · replace hx := xif_t hc57 hx
        refine wc_seq ?_
        refine wc_region ?_
        refine wv rfl (r_assign rfl) ?_
        refine wl_nil ?_
        refine sq_n ?_
        refine wc_ret ?_
        refine sq_ret ?_
        obtain rfl := Option.some.inj hx
        refine fin_ret [(.bool false)] ⟨rfl, trivial⟩ ?_
        replace hM := hM.t0
        have hM := hM.fewer rsN
        exact ⟨(), rfl, hM.gives⟩
      · replace hx := xif_f hc57 hx
        refine wc_skip ?_
        refine sq_n ?_
        refine wc_seq ?_
        refine wc_region ?_
        refine wv rfl (r_assign rfl) ?_
        refine wl_nil ?_
        refine sq_n ?_
        refine wc_ret ?_
        obtain rfl := Option.some.inj hx
        refine fin_ret [(.bool true)] ⟨rfl, trivial⟩ ?_
        replace hM := hM.t0
        have hM := hM.fewer rsN
        exact ⟨(), rfl, hM.gives⟩

noncomputable def x_laws_eqSeenS_b0 (a : List DSeen) (b : List DSeen) (i9 : Int) : Option (Lr Int (Sum Unit Unit)) :=
  bif decide (i9 < (a.length : Int)) then (xg (0 ≤ i9 ∧ i9 < (a.length : Int)) <| xg (0 ≤ i9 ∧ i9 < (b.length : Int)) <| Option.bind (x_laws_eqSeen (el a i9.toNat) (el b i9.toNat)) fun r53 => bif !r53 then (some (Lr.out (Sum.inr (())))) else (xg (inI (i9 + 1)) <| some (Lr.go (i9 + 1)))) else (some (Lr.out (Sum.inl ())))
noncomputable def x_laws_eqSeenS_f0 (a : List DSeen) (b : List DSeen) (s64 : Int) : Option (Lr Int (Sum Unit Unit)) := x_laws_eqSeenS_b0 a b s64
noncomputable def x_laws_eqSeenS (a : List DSeen) (b : List DSeen) : Option Bool :=
  bif !decide ((a.length : Int) = (b.length : Int)) then (some false) else (Option.bind (iter (x_laws_eqSeenS_f0 a b) 0) fun (y65 : Sum Unit Unit) => Sum.elim (fun _y66 => some true) (fun _y67 => some false) y65)
theorem ct_laws_eqSeenS (w : World) (X S : Bs) (a : List DSeen) (s_a : Sv) (b : List DSeen) (s_b : Sv) (hS : ∀ b, S b → b < w.heap.size ∧ ¬ X b) (a_a_0 : (cSl 3 fDSeen a).rd S w s_a.v) (a_b_0 : (cSl 3 fDSeen b).rd S w s_b.v) (oL : Sep [] X w) {r : Bool} (hx : x_laws_eqSeenS a b = some r) :
    Ret Try.prog 24 [s_a.v, s_b.v] w (fun u w' => ∃ _ : Unit, u = (.bool r) ∧ Gives X S w [] [] w') := by
  unfold x_laws_eqSeenS at hx
  refine enter Try.func24 rfl Try.ntmps24 (by kernel_rfl) rfl ?_
  have hM := St.enter oL hS
  have hM := hM.addE (r := rV s_a.v (cSl 3 fDSeen a)) a_a_0
  have hM := hM.addE (r := rV s_b.v (cSl 3 fDSeen b)) a_b_0
  refine wc_seq ?_
  refine wc_region ?_
  refine wv rfl (r_assign rfl) ?_
  refine wl_nil ?_
  refine sq_n ?_
  refine wc_seq ?_
  refine wc_seq ?_
  refine wc_region ?_
  refine wv rfl (r_move rfl) ?_
  refine wv rfl (r_lenC Try.underlying25 rfl (hM.seeR (.tail _ (.head _)))) ?_
  refine wv rfl (r_move rfl) ?_
  refine wv rfl (r_lenC Try.underlying25 rfl (hM.seeR (.head _))) ?_
  refine wv rfl (r_neq rfl rfl) ?_
  refine wl_nil ?_
  refine sq_n ?_
  refine wc_cond rfl (fun hc75 => ?_) (fun hc75 => ?_)
  · replace hx := xif_t hc75 hx
    refine wc_seq ?_
    refine wc_region ?_
    refine wv rfl (r_assign rfl) ?_
    refine wl_nil ?_
    refine sq_n ?_
    refine wc_ret ?_
    refine sq_ret ?_
    obtain rfl := Option.some.inj hx
    refine fin_ret [(.bool false)] ⟨rfl, trivial⟩ ?_
    replace hM := hM.t0
    have hM := hM.fewer rsN
    exact ⟨(), rfl, hM.gives⟩
  · replace hx := xif_f hc75 hx
    refine wc_skip ?_
    refine sq_n ?_
    refine wc_seq ?_
    refine wc_seq ?_
    refine wc_region ?_
    refine wv rfl (r_assign rfl) ?_
    refine wl_nil ?_
    refine sq_n ?_
    refine wc_block ?_
    obtain ⟨y78, hx, hx79⟩ := bind_some' hx
    have hM := hM.fewer (rsC (.tail _ (.head _)) (rsC (.head _) rsN))
    replace hM : St ⟨w, X, S⟩ [] [rV s_a.v (cSl 3 fDSeen a), rV s_b.v (cSl 3 fDSeen b)] _ := hM
    obtain ⟨m83, hx⟩ := iter_run hx
    refine wc_loop (un fun (m81 : Nat) => fun (i80 : Int) => [(0, s_a.v), (1, s_b.v), (5, (.int .i64 i80))]) (un fun (m81 : Nat) => fun (i80 : Int) w' => St ⟨w, X, S⟩ [] [rV s_a.v (cSl 3 fDSeen a), rV s_b.v (cSl 3 fDSeen b)] w' ∧ iterN _ m81 i80 = some y78) (fun p => p.1) (m83, 0) ⟨rfl, rfl, rfl, trivial⟩ ⟨hM, hx⟩ ?_
    rintro ⟨m81, i80⟩ w84 ⟨hM, hx⟩
    obtain ⟨m85, z86, rfl, hx, hx87⟩ := iterN_step hx
    unfold x_laws_eqSeenS_f0 x_laws_eqSeenS_b0 at hx
    try dsimp only at hx
    refine wc_seq ?_
    refine wc_seq ?_
    refine wc_region ?_
    refine wv rfl (r_move rfl) ?_
    refine wv rfl (r_move rfl) ?_
    refine wv rfl (r_lenC Try.underlying25 rfl (hM.seeR (.head _))) ?_
    refine wv rfl (r_lss rfl rfl) ?_
    refine wl_nil ?_
    refine sq_n ?_
    refine wc_cond rfl (fun hc92 => ?_) (fun hc92 => ?_)
    · replace hx := xif_t hc92 hx
      refine wc_skip ?_
      refine sq_n ?_
      refine wc_seq ?_
      refine wc_block ?_
      refine wc_seq ?_
      refine wc_draw [(0, 0), (1, 0), (2, 0), (3, 0), (4, 0), (5, 0), (6, 0), (7, 0), (8, 0), (9, 0)] Try_mixed (by kernel_rfl) rfl (by kernel_rfl) rfl ?_
      refine ov rfl (fun w' h' => r_move rfl) ?_
      refine ov rfl (fun w' h' => r_move rfl) ?_
      obtain ⟨hg97, hx⟩ := xg_some hx
      have hi96 : i80.toNat < a.length := by omega
      refine ov rfl (fun w' h' => r_ixC Try.underlying25 sz47 rfl rfl ((hM.call h').seeR (.head _)) hg97) ?_
      refine ov rfl (fun w' h' => r_ldC (o := i80.toNat * 3) Try.underlying47 sz47 rfl (us := [(.int .i64 ((el a i80.toNat).client)), (.int .i64 ((el a i80.toNat).seq)), (.int .i64 ((el a i80.toNat).rev))]) rfl ((hM.call h').seeR (.head _)) hi96 ⟨(Cs.get (i := i80.toNat) (j := 0) ((hM.call h').seeR (.head _)) (fun _ => rfl) hi96 rfl), (Cs.get (i := i80.toNat) (j := 1) ((hM.call h').seeR (.head _)) (fun _ => rfl) hi96 rfl), (Cs.get (i := i80.toNat) (j := 2) ((hM.call h').seeR (.head _)) (fun _ => rfl) hi96 rfl), trivial⟩) ?_
      refine ov rfl (fun w' h' => r_move rfl) ?_
      refine ov rfl (fun w' h' => r_move rfl) ?_
      obtain ⟨hg103, hx⟩ := xg_some hx
      have hi102 : i80.toNat < b.length := by omega
      refine ov rfl (fun w' h' => r_ixC Try.underlying25 sz47 rfl rfl ((hM.call h').seeR (.tail _ (.head _))) hg103) ?_
      refine ov rfl (fun w' h' => r_ldC (o := i80.toNat * 3) Try.underlying47 sz47 rfl (us := [(.int .i64 ((el b i80.toNat).client)), (.int .i64 ((el b i80.toNat).seq)), (.int .i64 ((el b i80.toNat).rev))]) rfl ((hM.call h').seeR (.tail _ (.head _))) hi102 ⟨(Cs.get (i := i80.toNat) (j := 0) ((hM.call h').seeR (.tail _ (.head _))) (fun _ => rfl) hi102 rfl), (Cs.get (i := i80.toNat) (j := 1) ((hM.call h').seeR (.tail _ (.head _))) (fun _ => rfl) hi102 rfl), (Cs.get (i := i80.toNat) (j := 2) ((hM.call h').seeR (.tail _ (.head _))) (fun _ => rfl) hi102 rfl), trivial⟩) ?_
      obtain ⟨r105, h106, hx⟩ := bind_some' hx
      refine oc rfl rfl (fun w' h' => (hM.call h').callV fun X S oL hS hR hO => ct_laws_eqSeen _ X S (el a i80.toNat) (el b i80.toNat) hS  oL h106) ?_
      refine ov rfl (fun w' h' => r_not rfl) ?_
      refine o_nil fun w109 hw110 => ?_
      have hM := hM.call hw110
      refine sq_n ?_
      refine wc_cond rfl (fun hc111 => ?_) (fun hc111 => ?_)
      · replace hx := xif_t hc111 hx
        refine wc_seq ?_
        refine wc_region ?_
        refine wv rfl (r_assign rfl) ?_
        refine wl_nil ?_
        refine sq_n ?_
        refine wc_ret ?_
        refine bk_ret ?_
        refine sq_ret ?_
        refine lp1_ret ?_
        obtain rfl := Option.some.inj hx
        obtain rfl := Option.some.inj hx87
        replace hx := hx79
        try dsimp only [Sum.elim_inl, Sum.elim_inr] at hx
        refine bk_ret ?_
        refine sq_ret ?_
        obtain rfl := Option.some.inj hx
        refine fin_ret [(.bool false)] ⟨rfl, trivial⟩ ?_
        replace hM := hM.t0
        have hM := hM.fewer rsN
        exact ⟨(), rfl, hM.gives⟩
      · replace hx := xif_f hc111 hx
        refine wc_skip ?_
        refine bk_n ?_
        refine sq_n ?_
        refine wc_region ?_
        refine wv rfl (r_move rfl) ?_
        obtain ⟨hg115, hx⟩ := xg_some hx
        refine wv rfl (r_add rfl rfl hg115) ?_
        refine wv rfl (r_assign rfl) ?_
        refine wl_nil ?_
        obtain rfl := Option.some.inj hx
        exact lp_end (m85, i80 + 1) (Nat.lt_succ_self _) ⟨rfl, rfl, rfl, trivial⟩ ⟨hM, hx87⟩
    · replace hx := xif_f hc92 hx
      refine wc_exit ?_
      refine sq_exit ?_
      refine lp1_exit ?_
      obtain rfl := Option.some.inj hx
      obtain rfl := Option.some.inj hx87
      replace hx := hx79
      try dsimp only [Sum.elim_inl, Sum.elim_inr] at hx
      refine bk_here ?_
      refine sq_n ?_
      refine wc_seq ?_
      refine wc_region ?_
      refine wv rfl (r_assign rfl) ?_
      refine wl_nil ?_
      refine sq_n ?_
      refine wc_ret ?_
      obtain rfl := Option.some.inj hx
      refine fin_ret [(.bool true)] ⟨rfl, trivial⟩ ?_
      replace hM := hM.t0
      have hM := hM.fewer rsN
      exact ⟨(), rfl, hM.gives⟩

noncomputable def x_laws_eqDoc (a : DDoc) (b : DDoc) : Option Bool :=
  bif !decide (a.name = b.name) then (some false) else (bif !decide (a.from_ = b.from_) then (some false) else (Option.bind (x_laws_eqIntS a.text b.text) fun r26 => bif !r26 then (some false) else (Option.bind (x_laws_eqEntryS a.list b.list) fun r36 => bif !r36 then (some false) else (Option.bind (x_laws_eqSeenS a.seen b.seen) fun r46 => bif !r46 then (some false) else (some true)))))
theorem ct_laws_eqDoc (w : World) (X S : Bs) (a : DDoc) (s_a_2 : Sv) (s_a_3 : Sv) (s_a_4 : Sv) (b : DDoc) (s_b_2 : Sv) (s_b_3 : Sv) (s_b_4 : Sv) (hS : ∀ b, S b → b < w.heap.size ∧ ¬ X b) (a_a_2 : (cSl 1 fI a.text).rd S w s_a_2.v) (a_a_3 : (cSl 3 fDEntry a.list).rd S w s_a_3.v) (a_a_4 : (cSl 3 fDSeen a.seen).rd S w s_a_4.v) (a_b_2 : (cSl 1 fI b.text).rd S w s_b_2.v) (a_b_3 : (cSl 3 fDEntry b.list).rd S w s_b_3.v) (a_b_4 : (cSl 3 fDSeen b.seen).rd S w s_b_4.v) (oL : Sep [] X w) {r : Bool} (hx : x_laws_eqDoc a b = some r) :
    Ret Try.prog 7 [(.agg #[(.string a.name), (.int .i64 a.from_), s_a_2.v, s_a_3.v, s_a_4.v]), (.agg #[(.string b.name), (.int .i64 b.from_), s_b_2.v, s_b_3.v, s_b_4.v])] w (fun u w' => ∃ _ : Unit, u = (.bool r) ∧ Gives X S w [] [] w') := by
  unfold x_laws_eqDoc at hx
  refine enter Try.func7 rfl Try.ntmps7 (by kernel_rfl) rfl ?_
  have hM := St.enter oL hS
  have hM := hM.addE (r := rV s_a_2.v (cSl 1 fI a.text)) a_a_2
  have hM := hM.addE (r := rV s_a_3.v (cSl 3 fDEntry a.list)) a_a_3
  have hM := hM.addE (r := rV s_a_4.v (cSl 3 fDSeen a.seen)) a_a_4
  have hM := hM.addE (r := rV s_b_2.v (cSl 1 fI b.text)) a_b_2
  have hM := hM.addE (r := rV s_b_3.v (cSl 3 fDEntry b.list)) a_b_3
  have hM := hM.addE (r := rV s_b_4.v (cSl 3 fDSeen b.seen)) a_b_4
  refine wc_seq ?_
  refine wc_region ?_
  refine w_ex rfl (x_box rfl hM ?_); intro b54 w53 hR55 hM
  replace hM : St ⟨w, X, S⟩ [oBox b54 #[(.string a.name), (.int .i64 a.from_), s_a_2.v, s_a_3.v, s_a_4.v] 27] [rV s_b_4.v (cSl 3 fDSeen b.seen), rV s_b_3.v (cSl 3 fDEntry b.list), rV s_b_2.v (cSl 1 fI b.text), rV s_a_4.v (cSl 3 fDSeen a.seen), rV s_a_3.v (cSl 3 fDEntry a.list), rV s_a_2.v (cSl 1 fI a.text)] _ := hM
  refine w_ex rfl (x_box rfl hM ?_); intro b58 w57 hR59 hM
  replace hM : St ⟨w, X, S⟩ [oBox b58 #[(.string b.name), (.int .i64 b.from_), s_b_2.v, s_b_3.v, s_b_4.v] 27, oBox b54 #[(.string a.name), (.int .i64 a.from_), s_a_2.v, s_a_3.v, s_a_4.v] 27] [rV s_b_4.v (cSl 3 fDSeen b.seen), rV s_b_3.v (cSl 3 fDEntry b.list), rV s_b_2.v (cSl 1 fI b.text), rV s_a_4.v (cSl 3 fDSeen a.seen), rV s_a_3.v (cSl 3 fDEntry a.list), rV s_a_2.v (cSl 1 fI a.text)] _ := hM
  refine wv rfl (r_assign rfl) ?_
  refine wl_nil ?_
  refine sq_n ?_
  refine wc_seq ?_
  refine wc_seq ?_
  refine wc_region ?_
  refine wv rfl (r_fld Try.underlying27 rfl rfl sz9 rfl) ?_
  refine wv rfl (r_ldB Try.underlying9 rfl rfl hM (.tail _ (.head _)) rfl) ?_
  refine wv rfl (r_fld Try.underlying27 rfl rfl sz9 rfl) ?_
  refine wv rfl (r_ldB Try.underlying9 rfl rfl hM (.head _) rfl) ?_
  refine wv rfl (r_neqs rfl rfl) ?_
  refine wl_nil ?_
  refine sq_n ?_
  refine wc_cond rfl (fun hc67 => ?_) (fun hc67 => ?_)
  · replace hx := xif_t hc67 hx
    refine wc_seq ?_
    refine wc_region ?_
    refine wv rfl (r_assign rfl) ?_
    refine wl_nil ?_
    refine sq_n ?_
    refine wc_ret ?_
    refine sq_ret ?_
    obtain rfl := Option.some.inj hx
    refine fin_ret [(.bool false)] ⟨rfl, trivial⟩ ?_
    replace hM := hM.t0
    have hM := hM.fewer rsN
    exact ⟨(), rfl, hM.gives⟩
  · replace hx := xif_f hc67 hx
    refine wc_skip ?_
    refine sq_n ?_
    refine wc_seq ?_
    refine wc_seq ?_
    refine wc_region ?_
    refine wv rfl (r_fld Try.underlying27 rfl rfl sz3 rfl) ?_
    refine wv rfl (r_ldB Try.underlying3 rfl rfl hM (.tail _ (.head _)) rfl) ?_
    refine wv rfl (r_fld Try.underlying27 rfl rfl sz3 rfl) ?_
    refine wv rfl (r_ldB Try.underlying3 rfl rfl hM (.head _) rfl) ?_
    refine wv rfl (r_neq rfl rfl) ?_
    refine wl_nil ?_
    refine sq_n ?_
    refine wc_cond rfl (fun hc74 => ?_) (fun hc74 => ?_)
    · replace hx := xif_t hc74 hx
      refine wc_seq ?_
      refine wc_region ?_
      refine wv rfl (r_assign rfl) ?_
      refine wl_nil ?_
      refine sq_n ?_
      refine wc_ret ?_
      refine sq_ret ?_
      obtain rfl := Option.some.inj hx
      refine fin_ret [(.bool false)] ⟨rfl, trivial⟩ ?_
      replace hM := hM.t0
      have hM := hM.fewer rsN
      exact ⟨(), rfl, hM.gives⟩
    · replace hx := xif_f hc74 hx
      refine wc_skip ?_
      refine sq_n ?_
      refine wc_seq ?_
      refine wc_seq ?_
      refine wc_region ?_
      refine wv rfl (r_fld Try.underlying27 rfl rfl sz23 rfl) ?_
      refine wv rfl (r_ldB Try.underlying23 rfl rfl hM (.tail _ (.head _)) rfl) ?_
      refine wv rfl (r_fld Try.underlying27 rfl rfl sz23 rfl) ?_
      refine wv rfl (r_ldB Try.underlying23 rfl rfl hM (.head _) rfl) ?_
      obtain ⟨r80, h81, hx⟩ := bind_some' hx
      refine w_call rfl rfl (hM.callV fun X S oL hS hR hO => ct_laws_eqIntS _ X S a.text s_a_2 b.text s_b_2 hS (hR _ (.tail _ (.tail _ (.tail _ (.tail _ (.tail _ (.head _))))))) (hR _ (.tail _ (.tail _ (.head _)))) oL h81) ?_
      rintro _ w82 ⟨rfl, hR83⟩
      have hM := hM.call hR83
      refine wv rfl (r_not rfl) ?_
      refine wl_nil ?_
      refine sq_n ?_
      refine wc_cond rfl (fun hc85 => ?_) (fun hc85 => ?_)
      · replace hx := xif_t hc85 hx
        refine wc_seq ?_
        refine wc_region ?_
        refine wv rfl (r_assign rfl) ?_
        refine wl_nil ?_
        refine sq_n ?_
        refine wc_ret ?_
        refine sq_ret ?_
        obtain rfl := Option.some.inj hx
        refine fin_ret [(.bool false)] ⟨rfl, trivial⟩ ?_
        replace hM := hM.t0
        have hM := hM.fewer rsN
        exact ⟨(), rfl, hM.gives⟩
      · replace hx := xif_f hc85 hx
        refine wc_skip ?_
        refine sq_n ?_
        refine wc_seq ?_
        refine wc_seq ?_
        refine wc_region ?_
        refine wv rfl (r_fld Try.underlying27 rfl rfl sz24 rfl) ?_
        refine wv rfl (r_ldB Try.underlying24 rfl rfl hM (.tail _ (.head _)) rfl) ?_
        refine wv rfl (r_fld Try.underlying27 rfl rfl sz24 rfl) ?_
        refine wv rfl (r_ldB Try.underlying24 rfl rfl hM (.head _) rfl) ?_
        obtain ⟨r91, h92, hx⟩ := bind_some' hx
        refine w_call rfl rfl (hM.callV fun X S oL hS hR hO => ct_laws_eqEntryS _ X S a.list s_a_3 b.list s_b_3 hS (hR _ (.tail _ (.tail _ (.tail _ (.tail _ (.head _)))))) (hR _ (.tail _ (.head _))) oL h92) ?_
        rintro _ w93 ⟨rfl, hR94⟩
        have hM := hM.call hR94
        refine wv rfl (r_not rfl) ?_
        refine wl_nil ?_
        refine sq_n ?_
        refine wc_cond rfl (fun hc96 => ?_) (fun hc96 => ?_)
        · replace hx := xif_t hc96 hx
          refine wc_seq ?_
          refine wc_region ?_
          refine wv rfl (r_assign rfl) ?_
          refine wl_nil ?_
          refine sq_n ?_
          refine wc_ret ?_
          refine sq_ret ?_
          obtain rfl := Option.some.inj hx
          refine fin_ret [(.bool false)] ⟨rfl, trivial⟩ ?_
          replace hM := hM.t0
          have hM := hM.fewer rsN
          exact ⟨(), rfl, hM.gives⟩
        · replace hx := xif_f hc96 hx
          refine wc_skip ?_
          refine sq_n ?_
          refine wc_seq ?_
          refine wc_seq ?_
          refine wc_region ?_
          refine wv rfl (r_fld Try.underlying27 rfl rfl sz25 rfl) ?_
          refine wv rfl (r_ldB Try.underlying25 rfl rfl hM (.tail _ (.head _)) rfl) ?_
          refine wv rfl (r_fld Try.underlying27 rfl rfl sz25 rfl) ?_
          refine wv rfl (r_ldB Try.underlying25 rfl rfl hM (.head _) rfl) ?_
          obtain ⟨r102, h103, hx⟩ := bind_some' hx
          refine w_call rfl rfl (hM.callV fun X S oL hS hR hO => ct_laws_eqSeenS _ X S a.seen s_a_4 b.seen s_b_4 hS (hR _ (.tail _ (.tail _ (.tail _ (.head _))))) (hR _ (.head _)) oL h103) ?_
          rintro _ w104 ⟨rfl, hR105⟩
          have hM := hM.call hR105
          refine wv rfl (r_not rfl) ?_
          refine wl_nil ?_
          refine sq_n ?_
          refine wc_cond rfl (fun hc107 => ?_) (fun hc107 => ?_)
          · replace hx := xif_t hc107 hx
            refine wc_seq ?_
            refine wc_region ?_
            refine wv rfl (r_assign rfl) ?_
            refine wl_nil ?_
            refine sq_n ?_
            refine wc_ret ?_
            refine sq_ret ?_
            obtain rfl := Option.some.inj hx
            refine fin_ret [(.bool false)] ⟨rfl, trivial⟩ ?_
            replace hM := hM.t0
            have hM := hM.fewer rsN
            exact ⟨(), rfl, hM.gives⟩
          · replace hx := xif_f hc107 hx
            refine wc_skip ?_
            refine sq_n ?_
            refine wc_seq ?_
            refine wc_region ?_
            refine wv rfl (r_assign rfl) ?_
            refine wl_nil ?_
            refine sq_n ?_
            refine wc_ret ?_
            obtain rfl := Option.some.inj hx
            refine fin_ret [(.bool true)] ⟨rfl, trivial⟩ ?_
            replace hM := hM.t0
            have hM := hM.fewer rsN
            exact ⟨(), rfl, hM.gives⟩

noncomputable def x_laws_eqByteS_b0 (a : List UInt8) (b : List UInt8) (i9 : Int) : Option (Lr Int (Sum Unit Unit)) :=
  bif decide (i9 < (a.length : Int)) then (xg (0 ≤ i9 ∧ i9 < (a.length : Int)) <| xg (0 ≤ i9 ∧ i9 < (b.length : Int)) <| bif !decide (((el a i9.toNat).toNat : Int) = ((el b i9.toNat).toNat : Int)) then (some (Lr.out (Sum.inr (())))) else (xg (inI (i9 + 1)) <| some (Lr.go (i9 + 1)))) else (some (Lr.out (Sum.inl ())))
noncomputable def x_laws_eqByteS_f0 (a : List UInt8) (b : List UInt8) (s58 : Int) : Option (Lr Int (Sum Unit Unit)) := x_laws_eqByteS_b0 a b s58
noncomputable def x_laws_eqByteS (a : List UInt8) (b : List UInt8) : Option Bool :=
  bif !decide ((a.length : Int) = (b.length : Int)) then (some false) else (Option.bind (iter (x_laws_eqByteS_f0 a b) 0) fun (y59 : Sum Unit Unit) => Sum.elim (fun _y60 => some true) (fun _y61 => some false) y59)
theorem ct_laws_eqByteS (w : World) (X S : Bs) (a : List UInt8) (s_a : Sv) (b : List UInt8) (s_b : Sv) (hS : ∀ b, S b → b < w.heap.size ∧ ¬ X b) (a_a_0 : (cSl 1 fY a).rd S w s_a.v) (a_b_0 : (cSl 1 fY b).rd S w s_b.v) (oL : Sep [] X w) {r : Bool} (hx : x_laws_eqByteS a b = some r) :
    Ret Try.prog 8 [s_a.v, s_b.v] w (fun u w' => ∃ _ : Unit, u = (.bool r) ∧ Gives X S w [] [] w') := by
  unfold x_laws_eqByteS at hx
  refine enter Try.func8 rfl Try.ntmps8 (by kernel_rfl) rfl ?_
  have hM := St.enter oL hS
  have hM := hM.addE (r := rV s_a.v (cSl 1 fY a)) a_a_0
  have hM := hM.addE (r := rV s_b.v (cSl 1 fY b)) a_b_0
  refine wc_seq ?_
  refine wc_region ?_
  refine wv rfl (r_assign rfl) ?_
  refine wl_nil ?_
  refine sq_n ?_
  refine wc_seq ?_
  refine wc_seq ?_
  refine wc_region ?_
  refine wv rfl (r_move rfl) ?_
  refine wv rfl (r_lenC Try.underlying22 rfl (hM.seeR (.tail _ (.head _)))) ?_
  refine wv rfl (r_move rfl) ?_
  refine wv rfl (r_lenC Try.underlying22 rfl (hM.seeR (.head _))) ?_
  refine wv rfl (r_neq rfl rfl) ?_
  refine wl_nil ?_
  refine sq_n ?_
  refine wc_cond rfl (fun hc69 => ?_) (fun hc69 => ?_)
  · replace hx := xif_t hc69 hx
    refine wc_seq ?_
    refine wc_region ?_
    refine wv rfl (r_assign rfl) ?_
    refine wl_nil ?_
    refine sq_n ?_
    refine wc_ret ?_
    refine sq_ret ?_
    obtain rfl := Option.some.inj hx
    refine fin_ret [(.bool false)] ⟨rfl, trivial⟩ ?_
    replace hM := hM.t0
    have hM := hM.fewer rsN
    exact ⟨(), rfl, hM.gives⟩
  · replace hx := xif_f hc69 hx
    refine wc_skip ?_
    refine sq_n ?_
    refine wc_seq ?_
    refine wc_seq ?_
    refine wc_region ?_
    refine wv rfl (r_assign rfl) ?_
    refine wl_nil ?_
    refine sq_n ?_
    refine wc_block ?_
    obtain ⟨y72, hx, hx73⟩ := bind_some' hx
    have hM := hM.fewer (rsC (.tail _ (.head _)) (rsC (.head _) rsN))
    replace hM : St ⟨w, X, S⟩ [] [rV s_a.v (cSl 1 fY a), rV s_b.v (cSl 1 fY b)] _ := hM
    obtain ⟨m77, hx⟩ := iter_run hx
    refine wc_loop (un fun (m75 : Nat) => fun (i74 : Int) => [(0, s_a.v), (1, s_b.v), (5, (.int .i64 i74))]) (un fun (m75 : Nat) => fun (i74 : Int) w' => St ⟨w, X, S⟩ [] [rV s_a.v (cSl 1 fY a), rV s_b.v (cSl 1 fY b)] w' ∧ iterN _ m75 i74 = some y72) (fun p => p.1) (m77, 0) ⟨rfl, rfl, rfl, trivial⟩ ⟨hM, hx⟩ ?_
    rintro ⟨m75, i74⟩ w78 ⟨hM, hx⟩
    obtain ⟨m79, z80, rfl, hx, hx81⟩ := iterN_step hx
    unfold x_laws_eqByteS_f0 x_laws_eqByteS_b0 at hx
    try dsimp only at hx
    refine wc_seq ?_
    refine wc_seq ?_
    refine wc_region ?_
    refine wv rfl (r_move rfl) ?_
    refine wv rfl (r_move rfl) ?_
    refine wv rfl (r_lenC Try.underlying22 rfl (hM.seeR (.head _))) ?_
    refine wv rfl (r_lss rfl rfl) ?_
    refine wl_nil ?_
    refine sq_n ?_
    refine wc_cond rfl (fun hc86 => ?_) (fun hc86 => ?_)
    · replace hx := xif_t hc86 hx
      refine wc_skip ?_
      refine sq_n ?_
      refine wc_seq ?_
      refine wc_block ?_
      refine wc_seq ?_
      refine wc_draw [(0, 0), (1, 0), (2, 0), (3, 0), (4, 0), (5, 0), (6, 0), (7, 0), (8, 0)] Try_mixed (by kernel_rfl) rfl (by kernel_rfl) rfl ?_
      refine ov rfl (fun w' h' => r_move rfl) ?_
      refine ov rfl (fun w' h' => r_move rfl) ?_
      obtain ⟨hg91, hx⟩ := xg_some hx
      have hi90 : i74.toNat < a.length := by omega
      refine ov rfl (fun w' h' => r_ixC Try.underlying22 sz5 rfl rfl ((hM.call h').seeR (.head _)) hg91) ?_
      refine ov rfl (fun w' h' => r_ld Try.underlying5 rfl rfl (Cs.get (i := i74.toNat) (j := 0) ((hM.call h').seeR (.head _)) (fun _ => rfl) hi90 rfl)) ?_
      refine ov rfl (fun w' h' => r_move rfl) ?_
      refine ov rfl (fun w' h' => r_move rfl) ?_
      obtain ⟨hg97, hx⟩ := xg_some hx
      have hi96 : i74.toNat < b.length := by omega
      refine ov rfl (fun w' h' => r_ixC Try.underlying22 sz5 rfl rfl ((hM.call h').seeR (.tail _ (.head _))) hg97) ?_
      refine ov rfl (fun w' h' => r_ld Try.underlying5 rfl rfl (Cs.get (i := i74.toNat) (j := 0) ((hM.call h').seeR (.tail _ (.head _))) (fun _ => rfl) hi96 rfl)) ?_
      refine ov rfl (fun w' h' => r_neq rfl rfl) ?_
      refine o_nil fun w100 hw101 => ?_
      have hM := hM.call hw101
      refine sq_n ?_
      refine wc_cond rfl (fun hc102 => ?_) (fun hc102 => ?_)
      · replace hx := xif_t hc102 hx
        refine wc_seq ?_
        refine wc_region ?_
        refine wv rfl (r_assign rfl) ?_
        refine wl_nil ?_
        refine sq_n ?_
        refine wc_ret ?_
        refine bk_ret ?_
        refine sq_ret ?_
        refine lp1_ret ?_
        obtain rfl := Option.some.inj hx
        obtain rfl := Option.some.inj hx81
        replace hx := hx73
        try dsimp only [Sum.elim_inl, Sum.elim_inr] at hx
        refine bk_ret ?_
        refine sq_ret ?_
        obtain rfl := Option.some.inj hx
        refine fin_ret [(.bool false)] ⟨rfl, trivial⟩ ?_
        replace hM := hM.t0
        have hM := hM.fewer rsN
        exact ⟨(), rfl, hM.gives⟩
      · replace hx := xif_f hc102 hx
        refine wc_skip ?_
        refine bk_n ?_
        refine sq_n ?_
        refine wc_region ?_
        refine wv rfl (r_move rfl) ?_
        obtain ⟨hg106, hx⟩ := xg_some hx
        refine wv rfl (r_add rfl rfl hg106) ?_
        refine wv rfl (r_assign rfl) ?_
        refine wl_nil ?_
        obtain rfl := Option.some.inj hx
        exact lp_end (m79, i74 + 1) (Nat.lt_succ_self _) ⟨rfl, rfl, rfl, trivial⟩ ⟨hM, hx81⟩
    · replace hx := xif_f hc86 hx
      refine wc_exit ?_
      refine sq_exit ?_
      refine lp1_exit ?_
      obtain rfl := Option.some.inj hx
      obtain rfl := Option.some.inj hx81
      replace hx := hx73
      try dsimp only [Sum.elim_inl, Sum.elim_inr] at hx
      refine bk_here ?_
      refine sq_n ?_
      refine wc_seq ?_
      refine wc_region ?_
      refine wv rfl (r_assign rfl) ?_
      refine wl_nil ?_
      refine sq_n ?_
      refine wc_ret ?_
      obtain rfl := Option.some.inj hx
      refine fin_ret [(.bool true)] ⟨rfl, trivial⟩ ?_
      replace hM := hM.t0
      have hM := hM.fewer rsN
      exact ⟨(), rfl, hM.gives⟩

noncomputable def x_laws_markByteS_b0 (k27 : Int) (i28 : Int) (l29 : List UInt8) : Option (Lr (Int × Int × List UInt8) (Int × List UInt8)) :=
  bif decide (i28 < (l29.length : Int)) then (xg (0 ≤ i28 ∧ i28 < (l29.length : Int)) <| xg (inI (k27 + 1)) <| xg (inI (i28 + 1)) <| some (Lr.go (k27 + 1, i28 + 1, l29.set i28.toNat (y8 k27)))) else (some (Lr.out (k27, l29)))
noncomputable def x_laws_markByteS_f0 (s73 : Int × Int × List UInt8) : Option (Lr (Int × Int × List UInt8) (Int × List UInt8)) := x_laws_markByteS_b0 s73.1 s73.2.1 s73.2.2
noncomputable def x_laws_markByteS (a : List UInt8) (k : Int) : Option (Int × List UInt8) :=
  Option.bind (iter (x_laws_markByteS_f0) (k, 0, a)) fun (y74 : Int × List UInt8) => some (y74.1, y74.2)
theorem ct_laws_markByteS (w : World) (X S : Bs) (a : List UInt8) (s_a : Sv) (k : Int) (hS : ∀ b, S b → b < w.heap.size ∧ ¬ X b)  (oL : Sep [oC (cSl 1 fY a) s_a.v] X w) {r : Int × List UInt8} (hx : x_laws_markByteS a k = some r) :
    Ret Try.prog 9 [s_a.v, (.int .i64 k)] w (fun u w' => ∃ _ : Unit, u = (.int .i64 r.1) ∧ Gives X S w [oC (cSl 1 fY r.2) s_a.v] [] w') := by
  unfold x_laws_markByteS at hx
  refine enter Try.func9 rfl Try.ntmps9 (by kernel_rfl) rfl ?_
  have hM := St.enter oL hS
  refine wc_seq ?_
  refine wc_region ?_
  refine wv rfl (r_assign rfl) ?_
  refine wl_nil ?_
  refine sq_n ?_
  refine wc_seq ?_
  refine wc_seq ?_
  refine wc_region ?_
  refine wv rfl (r_assign rfl) ?_
  refine wl_nil ?_
  refine sq_n ?_
  refine wc_block ?_
  obtain ⟨y80, hx, hx81⟩ := bind_some' hx
  obtain ⟨m87, hx⟩ := iter_run hx
  refine wc_loop (un fun (m85 : Nat) => un fun (k82 : Int) => un fun (i83 : Int) => fun (l84 : List UInt8) => [(0, s_a.v), (1, (.int .i64 k82)), (5, (.int .i64 i83))]) (un fun (m85 : Nat) => un fun (k82 : Int) => un fun (i83 : Int) => fun (l84 : List UInt8) w' => St ⟨w, X, S⟩ [oC (cSl 1 fY l84) s_a.v] [] w' ∧ iterN _ m85 (k82, i83, l84) = some y80) (fun p => p.1) (m87, k, 0, a) ⟨rfl, rfl, rfl, trivial⟩ ⟨hM, hx⟩ ?_
  rintro ⟨m85, k82, i83, l84⟩ w88 ⟨hM, hx⟩
  obtain ⟨m89, z90, rfl, hx, hx91⟩ := iterN_step hx
  unfold x_laws_markByteS_f0 x_laws_markByteS_b0 at hx
  try dsimp only at hx
  refine wc_seq ?_
  refine wc_seq ?_
  refine wc_region ?_
  refine wv rfl (r_move rfl) ?_
  refine wv rfl (r_move rfl) ?_
  refine wv rfl (r_lenC Try.underlying22 rfl (hM.seeO (.head _))) ?_
  refine wv rfl (r_lss rfl rfl) ?_
  refine wl_nil ?_
  refine sq_n ?_
  refine wc_cond rfl (fun hc96 => ?_) (fun hc96 => ?_)
  · replace hx := xif_t hc96 hx
    refine wc_skip ?_
    refine sq_n ?_
    refine wc_seq ?_
    refine wc_block ?_
    refine wc_seq ?_
    refine wc_region ?_
    refine wv rfl (r_move rfl) ?_
    refine wv rfl (r_move rfl) ?_
    refine wv rfl (r_move rfl) ?_
    refine wv rfl (r_cvt8 Try.underlying3 Try.underlying5 rfl) ?_
    obtain ⟨hg103, hx⟩ := xg_some hx
    have hi102 : i83.toNat < l84.length := by omega
    refine wv rfl (r_ixC Try.underlying22 sz5 rfl rfl (hM.seeO (.head _)) hg103) ?_
    refine w_exu (x_stE (f := fY) (k := 1) (L := l84) (i := i83.toNat) (j := 0) (y8 k82) [cY (y8 k82)] sz5 (fun _ => rfl) rfl rfl hi102 rfl rfl rfl rfl rfl (fun _ => zP (pV _ rfl) zN) hM ?_); intro w104 hM
    refine wl_nil ?_
    refine sq_n ?_
    refine wc_region ?_
    refine wv rfl (r_move rfl) ?_
    obtain ⟨hg108, hx⟩ := xg_some hx
    refine wv rfl (r_add rfl rfl hg108) ?_
    refine wv rfl (r_assign rfl) ?_
    refine wl_nil ?_
    refine bk_n ?_
    refine sq_n ?_
    refine wc_region ?_
    refine wv rfl (r_move rfl) ?_
    obtain ⟨hg112, hx⟩ := xg_some hx
    refine wv rfl (r_add rfl rfl hg112) ?_
    refine wv rfl (r_assign rfl) ?_
    refine wl_nil ?_
    obtain rfl := Option.some.inj hx
    exact lp_end (m89, k82 + 1, i83 + 1, l84.set i83.toNat (y8 k82)) (Nat.lt_succ_self _) ⟨rfl, rfl, rfl, trivial⟩ ⟨hM, hx91⟩
  · replace hx := xif_f hc96 hx
    refine wc_exit ?_
    refine sq_exit ?_
    refine lp1_exit ?_
    obtain rfl := Option.some.inj hx
    obtain rfl := Option.some.inj hx91
    replace hx := hx81
    try dsimp only [Sum.elim_inl, Sum.elim_inr] at hx
    refine bk_here ?_
    refine sq_n ?_
    refine wc_seq ?_
    refine wc_region ?_
    refine wv rfl (r_move rfl) ?_
    refine wv rfl (r_assign rfl) ?_
    refine wl_nil ?_
    refine sq_n ?_
    refine wc_ret ?_
    obtain rfl := Option.some.inj hx
    refine fin_ret [(.int .i64 k82)] ⟨rfl, trivial⟩ ?_
    replace hM := hM.t1
    have hM := hM.fewer rsN
    exact ⟨(), rfl, hM.gives⟩

noncomputable def x_laws_markIntS_b0 (k26 : Int) (i27 : Int) (l28 : List Int) : Option (Lr (Int × Int × List Int) (Int × List Int)) :=
  bif decide (i27 < (l28.length : Int)) then (xg (0 ≤ i27 ∧ i27 < (l28.length : Int)) <| xg (inI (k26 + 1)) <| xg (inI (i27 + 1)) <| some (Lr.go (k26 + 1, i27 + 1, l28.set i27.toNat k26))) else (some (Lr.out (k26, l28)))
noncomputable def x_laws_markIntS_f0 (s70 : Int × Int × List Int) : Option (Lr (Int × Int × List Int) (Int × List Int)) := x_laws_markIntS_b0 s70.1 s70.2.1 s70.2.2
noncomputable def x_laws_markIntS (a : List Int) (k : Int) : Option (Int × List Int) :=
  Option.bind (iter (x_laws_markIntS_f0) (k, 0, a)) fun (y71 : Int × List Int) => some (y71.1, y71.2)
theorem ct_laws_markIntS (w : World) (X S : Bs) (a : List Int) (s_a : Sv) (k : Int) (hS : ∀ b, S b → b < w.heap.size ∧ ¬ X b)  (oL : Sep [oC (cSl 1 fI a) s_a.v] X w) {r : Int × List Int} (hx : x_laws_markIntS a k = some r) :
    Ret Try.prog 25 [s_a.v, (.int .i64 k)] w (fun u w' => ∃ _ : Unit, u = (.int .i64 r.1) ∧ Gives X S w [oC (cSl 1 fI r.2) s_a.v] [] w') := by
  unfold x_laws_markIntS at hx
  refine enter Try.func25 rfl Try.ntmps25 (by kernel_rfl) rfl ?_
  have hM := St.enter oL hS
  refine wc_seq ?_
  refine wc_region ?_
  refine wv rfl (r_assign rfl) ?_
  refine wl_nil ?_
  refine sq_n ?_
  refine wc_seq ?_
  refine wc_seq ?_
  refine wc_region ?_
  refine wv rfl (r_assign rfl) ?_
  refine wl_nil ?_
  refine sq_n ?_
  refine wc_block ?_
  obtain ⟨y77, hx, hx78⟩ := bind_some' hx
  obtain ⟨m84, hx⟩ := iter_run hx
  refine wc_loop (un fun (m82 : Nat) => un fun (k79 : Int) => un fun (i80 : Int) => fun (l81 : List Int) => [(0, s_a.v), (1, (.int .i64 k79)), (5, (.int .i64 i80))]) (un fun (m82 : Nat) => un fun (k79 : Int) => un fun (i80 : Int) => fun (l81 : List Int) w' => St ⟨w, X, S⟩ [oC (cSl 1 fI l81) s_a.v] [] w' ∧ iterN _ m82 (k79, i80, l81) = some y77) (fun p => p.1) (m84, k, 0, a) ⟨rfl, rfl, rfl, trivial⟩ ⟨hM, hx⟩ ?_
  rintro ⟨m82, k79, i80, l81⟩ w85 ⟨hM, hx⟩
  obtain ⟨m86, z87, rfl, hx, hx88⟩ := iterN_step hx
  unfold x_laws_markIntS_f0 x_laws_markIntS_b0 at hx
  try dsimp only at hx
  refine wc_seq ?_
  refine wc_seq ?_
  refine wc_region ?_
  refine wv rfl (r_move rfl) ?_
  refine wv rfl (r_move rfl) ?_
  refine wv rfl (r_lenC Try.underlying23 rfl (hM.seeO (.head _))) ?_
  refine wv rfl (r_lss rfl rfl) ?_
  refine wl_nil ?_
  refine sq_n ?_
  refine wc_cond rfl (fun hc93 => ?_) (fun hc93 => ?_)
  · replace hx := xif_t hc93 hx
    refine wc_skip ?_
    refine sq_n ?_
    refine wc_seq ?_
    refine wc_block ?_
    refine wc_seq ?_
    refine wc_region ?_
    refine wv rfl (r_move rfl) ?_
    refine wv rfl (r_move rfl) ?_
    refine wv rfl (r_move rfl) ?_
    obtain ⟨hg99, hx⟩ := xg_some hx
    have hi98 : i80.toNat < l81.length := by omega
    refine wv rfl (r_ixC Try.underlying23 sz3 rfl rfl (hM.seeO (.head _)) hg99) ?_
    refine w_exu (x_stE (f := fI) (k := 1) (L := l81) (i := i80.toNat) (j := 0) k79 [cI k79] sz3 (fun _ => rfl) rfl rfl hi98 rfl rfl rfl rfl rfl (fun _ => zP (pV _ rfl) zN) hM ?_); intro w100 hM
    refine wl_nil ?_
    refine sq_n ?_
    refine wc_region ?_
    refine wv rfl (r_move rfl) ?_
    obtain ⟨hg104, hx⟩ := xg_some hx
    refine wv rfl (r_add rfl rfl hg104) ?_
    refine wv rfl (r_assign rfl) ?_
    refine wl_nil ?_
    refine bk_n ?_
    refine sq_n ?_
    refine wc_region ?_
    refine wv rfl (r_move rfl) ?_
    obtain ⟨hg108, hx⟩ := xg_some hx
    refine wv rfl (r_add rfl rfl hg108) ?_
    refine wv rfl (r_assign rfl) ?_
    refine wl_nil ?_
    obtain rfl := Option.some.inj hx
    exact lp_end (m86, k79 + 1, i80 + 1, l81.set i80.toNat k79) (Nat.lt_succ_self _) ⟨rfl, rfl, rfl, trivial⟩ ⟨hM, hx88⟩
  · replace hx := xif_f hc93 hx
    refine wc_exit ?_
    refine sq_exit ?_
    refine lp1_exit ?_
    obtain rfl := Option.some.inj hx
    obtain rfl := Option.some.inj hx88
    replace hx := hx78
    try dsimp only [Sum.elim_inl, Sum.elim_inr] at hx
    refine bk_here ?_
    refine sq_n ?_
    refine wc_seq ?_
    refine wc_region ?_
    refine wv rfl (r_move rfl) ?_
    refine wv rfl (r_assign rfl) ?_
    refine wl_nil ?_
    refine sq_n ?_
    refine wc_ret ?_
    obtain rfl := Option.some.inj hx
    refine fin_ret [(.int .i64 k79)] ⟨rfl, trivial⟩ ?_
    replace hM := hM.t1
    have hM := hM.fewer rsN
    exact ⟨(), rfl, hM.gives⟩

noncomputable def x_laws_markPartS_b0 (k56 : Int) (i57 : Int) (l58 : List DPart) : Option (Lr (Int × Int × List DPart) (Int × List DPart)) :=
  bif decide (i57 < (l58.length : Int)) then (xg (0 ≤ i57 ∧ i57 < (l58.length : Int)) <| xg (inI (k56 + 1)) <| xg (0 ≤ i57 ∧ i57 < ((l58.set i57.toNat (⟨k56, (el l58 i57.toNat).n, (el l58 i57.toNat).signs⟩ : DPart)).length : Int)) <| xg (inI ((k56 + 1) + 1)) <| xg (0 ≤ i57 ∧ i57 < (((l58.set i57.toNat (⟨k56, (el l58 i57.toNat).n, (el l58 i57.toNat).signs⟩ : DPart)).set i57.toNat (⟨(el (l58.set i57.toNat (⟨k56, (el l58 i57.toNat).n, (el l58 i57.toNat).signs⟩ : DPart)) i57.toNat).kind, k56 + 1, (el (l58.set i57.toNat (⟨k56, (el l58 i57.toNat).n, (el l58 i57.toNat).signs⟩ : DPart)) i57.toNat).signs⟩ : DPart)).length : Int)) <| Option.bind (x_laws_markIntS ((el ((l58.set i57.toNat (⟨k56, (el l58 i57.toNat).n, (el l58 i57.toNat).signs⟩ : DPart)).set i57.toNat (⟨(el (l58.set i57.toNat (⟨k56, (el l58 i57.toNat).n, (el l58 i57.toNat).signs⟩ : DPart)) i57.toNat).kind, k56 + 1, (el (l58.set i57.toNat (⟨k56, (el l58 i57.toNat).n, (el l58 i57.toNat).signs⟩ : DPart)) i57.toNat).signs⟩ : DPart)) i57.toNat).signs) ((k56 + 1) + 1)) fun r152 => xg (inI (i57 + 1)) <| some (Lr.go (r152.1, i57 + 1, ((l58.set i57.toNat (⟨k56, (el l58 i57.toNat).n, (el l58 i57.toNat).signs⟩ : DPart)).set i57.toNat (⟨(el (l58.set i57.toNat (⟨k56, (el l58 i57.toNat).n, (el l58 i57.toNat).signs⟩ : DPart)) i57.toNat).kind, k56 + 1, (el (l58.set i57.toNat (⟨k56, (el l58 i57.toNat).n, (el l58 i57.toNat).signs⟩ : DPart)) i57.toNat).signs⟩ : DPart)).set i57.toNat (⟨(el ((l58.set i57.toNat (⟨k56, (el l58 i57.toNat).n, (el l58 i57.toNat).signs⟩ : DPart)).set i57.toNat (⟨(el (l58.set i57.toNat (⟨k56, (el l58 i57.toNat).n, (el l58 i57.toNat).signs⟩ : DPart)) i57.toNat).kind, k56 + 1, (el (l58.set i57.toNat (⟨k56, (el l58 i57.toNat).n, (el l58 i57.toNat).signs⟩ : DPart)) i57.toNat).signs⟩ : DPart)) i57.toNat).kind, (el ((l58.set i57.toNat (⟨k56, (el l58 i57.toNat).n, (el l58 i57.toNat).signs⟩ : DPart)).set i57.toNat (⟨(el (l58.set i57.toNat (⟨k56, (el l58 i57.toNat).n, (el l58 i57.toNat).signs⟩ : DPart)) i57.toNat).kind, k56 + 1, (el (l58.set i57.toNat (⟨k56, (el l58 i57.toNat).n, (el l58 i57.toNat).signs⟩ : DPart)) i57.toNat).signs⟩ : DPart)) i57.toNat).n, r152.2⟩ : DPart)))) else (some (Lr.out (k56, l58)))
noncomputable def x_laws_markPartS_f0 (s160 : Int × Int × List DPart) : Option (Lr (Int × Int × List DPart) (Int × List DPart)) := x_laws_markPartS_b0 s160.1 s160.2.1 s160.2.2
noncomputable def x_laws_markPartS (a : List DPart) (k : Int) : Option (Int × List DPart) :=
  Option.bind (iter (x_laws_markPartS_f0) (k, 0, a)) fun (y161 : Int × List DPart) => some (y161.1, y161.2)
theorem ct_laws_markPartS (w : World) (X S : Bs) (a : List DPart) (s_a : Sv) (k : Int) (hS : ∀ b, S b → b < w.heap.size ∧ ¬ X b)  (oL : Sep [oC (cSl 3 fDPart a) s_a.v] X w) {r : Int × List DPart} (hx : x_laws_markPartS a k = some r) :
    Ret Try.prog 41 [s_a.v, (.int .i64 k)] w (fun u w' => ∃ _ : Unit, u = (.int .i64 r.1) ∧ Gives X S w [oC (cSl 3 fDPart r.2) s_a.v] [] w') := by
  unfold x_laws_markPartS at hx
  refine enter Try.func41 rfl Try.ntmps41 (by kernel_rfl) rfl ?_
  have hM := St.enter oL hS
  refine wc_seq ?_
  refine wc_region ?_
  refine wv rfl (r_assign rfl) ?_
  refine wl_nil ?_
  refine sq_n ?_
  refine wc_seq ?_
  refine wc_seq ?_
  refine wc_region ?_
  refine wv rfl (r_assign rfl) ?_
  refine wl_nil ?_
  refine sq_n ?_
  refine wc_block ?_
  obtain ⟨y167, hx, hx168⟩ := bind_some' hx
  obtain ⟨m174, hx⟩ := iter_run hx
  refine wc_loop (un fun (m172 : Nat) => un fun (k169 : Int) => un fun (i170 : Int) => fun (l171 : List DPart) => [(0, s_a.v), (1, (.int .i64 k169)), (5, (.int .i64 i170))]) (un fun (m172 : Nat) => un fun (k169 : Int) => un fun (i170 : Int) => fun (l171 : List DPart) w' => St ⟨w, X, S⟩ [oC (cSl 3 fDPart l171) s_a.v] [] w' ∧ iterN _ m172 (k169, i170, l171) = some y167) (fun p => p.1) (m174, k, 0, a) ⟨rfl, rfl, rfl, trivial⟩ ⟨hM, hx⟩ ?_
  rintro ⟨m172, k169, i170, l171⟩ w175 ⟨hM, hx⟩
  obtain ⟨m176, z177, rfl, hx, hx178⟩ := iterN_step hx
  unfold x_laws_markPartS_f0 x_laws_markPartS_b0 at hx
  try dsimp only at hx
  refine wc_seq ?_
  refine wc_seq ?_
  refine wc_region ?_
  refine wv rfl (r_move rfl) ?_
  refine wv rfl (r_move rfl) ?_
  refine wv rfl (r_lenC Try.underlying42 rfl (hM.seeO (.head _))) ?_
  refine wv rfl (r_lss rfl rfl) ?_
  refine wl_nil ?_
  refine sq_n ?_
  refine wc_cond rfl (fun hc183 => ?_) (fun hc183 => ?_)
  · replace hx := xif_t hc183 hx
    refine wc_skip ?_
    refine sq_n ?_
    refine wc_seq ?_
    refine wc_block ?_
    refine wc_seq ?_
    refine wc_region ?_
    refine wv rfl (r_move rfl) ?_
    refine wv rfl (r_move rfl) ?_
    refine wv rfl (r_move rfl) ?_
    obtain ⟨hg189, hx⟩ := xg_some hx
    have hi188 : i170.toNat < l171.length := by omega
    refine wv rfl (r_ixC Try.underlying42 sz65 rfl rfl (hM.seeO (.head _)) hg189) ?_
    refine wv rfl (r_fldC (i := i170.toNat) Try.underlying65 rfl rfl sz3 rfl (hM.seeO (.head _)) hi188) ?_
    refine w_exu (x_stE (f := fDPart) (k := 3) (L := l171) (i := i170.toNat) (j := 0) (⟨k169, (el l171 i170.toNat).n, (el l171 i170.toNat).signs⟩ : DPart) [cI k169] sz3 (fun _ => rfl) rfl rfl hi188 rfl rfl rfl rfl rfl (fun _ => zP (pV _ rfl) zN) hM ?_); intro w191 hM
    refine wl_nil ?_
    refine sq_n ?_
    refine wc_seq ?_
    refine wc_region ?_
    refine wv rfl (r_move rfl) ?_
    obtain ⟨hg195, hx⟩ := xg_some hx
    refine wv rfl (r_add rfl rfl hg195) ?_
    refine wv rfl (r_assign rfl) ?_
    refine wl_nil ?_
    refine sq_n ?_
    refine wc_seq ?_
    refine wc_region ?_
    refine wv rfl (r_move rfl) ?_
    refine wv rfl (r_move rfl) ?_
    refine wv rfl (r_move rfl) ?_
    obtain ⟨hg202, hx⟩ := xg_some hx
    have hi201 : i170.toNat < (l171.set i170.toNat (⟨k169, (el l171 i170.toNat).n, (el l171 i170.toNat).signs⟩ : DPart)).length := by omega
    refine wv rfl (r_ixC Try.underlying42 sz65 rfl rfl (hM.seeO (.head _)) hg202) ?_
    refine wv rfl (r_fldC (i := i170.toNat) Try.underlying65 rfl rfl sz3 rfl (hM.seeO (.head _)) hi201) ?_
    refine w_exu (x_stE (f := fDPart) (k := 3) (L := (l171.set i170.toNat (⟨k169, (el l171 i170.toNat).n, (el l171 i170.toNat).signs⟩ : DPart))) (i := i170.toNat) (j := 1) (⟨(el (l171.set i170.toNat (⟨k169, (el l171 i170.toNat).n, (el l171 i170.toNat).signs⟩ : DPart)) i170.toNat).kind, k169 + 1, (el (l171.set i170.toNat (⟨k169, (el l171 i170.toNat).n, (el l171 i170.toNat).signs⟩ : DPart)) i170.toNat).signs⟩ : DPart) [cI (k169 + 1)] sz3 (fun _ => rfl) rfl rfl hi201 rfl rfl rfl rfl rfl (fun _ => zP (pV _ rfl) zN) hM ?_); intro w204 hM
    refine wl_nil ?_
    refine sq_n ?_
    refine wc_seq ?_
    refine wc_region ?_
    refine wv rfl (r_move rfl) ?_
    obtain ⟨hg208, hx⟩ := xg_some hx
    refine wv rfl (r_add rfl rfl hg208) ?_
    refine wv rfl (r_assign rfl) ?_
    refine wl_nil ?_
    refine sq_n ?_
    refine wc_region ?_
    refine wv rfl (r_move rfl) ?_
    refine wv rfl (r_move rfl) ?_
    obtain ⟨hg214, hx⟩ := xg_some hx
    have hi213 : i170.toNat < ((l171.set i170.toNat (⟨k169, (el l171 i170.toNat).n, (el l171 i170.toNat).signs⟩ : DPart)).set i170.toNat (⟨(el (l171.set i170.toNat (⟨k169, (el l171 i170.toNat).n, (el l171 i170.toNat).signs⟩ : DPart)) i170.toNat).kind, k169 + 1, (el (l171.set i170.toNat (⟨k169, (el l171 i170.toNat).n, (el l171 i170.toNat).signs⟩ : DPart)) i170.toNat).signs⟩ : DPart)).length := by omega
    refine wv rfl (r_ixC Try.underlying42 sz65 rfl rfl (hM.seeO (.head _)) hg214) ?_
    refine wv rfl (r_fldC (i := i170.toNat) Try.underlying65 rfl rfl sz23 rfl (hM.seeO (.head _)) hi213) ?_
    obtain ⟨s217, hM, hc218⟩ := hM.leafO (i := i170.toNat) (j := 2) (fun _ => rfl) hi213 rfl
    refine wv rfl (r_ld Try.underlying23 rfl rfl (hc218 _ (Rel.refl _))) ?_
    refine wv rfl (r_move rfl) ?_
    have hM := hM.open (i := i170.toNat) (j := 2) (.tail _ (.head _)) (fun _ => rfl) hi213 rfl
    obtain ⟨r222, h223, hx⟩ := bind_some' hx
    refine w_call rfl rfl (hM.callO (l := [oC (cSl 1 fI ((el ((l171.set i170.toNat (⟨k169, (el l171 i170.toNat).n, (el l171 i170.toNat).signs⟩ : DPart)).set i170.toNat (⟨(el (l171.set i170.toNat (⟨k169, (el l171 i170.toNat).n, (el l171 i170.toNat).signs⟩ : DPart)) i170.toNat).kind, k169 + 1, (el (l171.set i170.toNat (⟨k169, (el l171 i170.toNat).n, (el l171 i170.toNat).signs⟩ : DPart)) i170.toNat).signs⟩ : DPart)) i170.toNat).signs)) s217.v]) fun X S oL hS hR hO => ct_laws_markIntS _ X S ((el ((l171.set i170.toNat (⟨k169, (el l171 i170.toNat).n, (el l171 i170.toNat).signs⟩ : DPart)).set i170.toNat (⟨(el (l171.set i170.toNat (⟨k169, (el l171 i170.toNat).n, (el l171 i170.toNat).signs⟩ : DPart)) i170.toNat).kind, k169 + 1, (el (l171.set i170.toNat (⟨k169, (el l171 i170.toNat).n, (el l171 i170.toNat).signs⟩ : DPart)) i170.toNat).signs⟩ : DPart)) i170.toNat).signs) s217 ((k169 + 1) + 1) hS  oL h223) ?_
    rintro _ w224 ⟨_, rfl, hM⟩
    replace hM : St ⟨w, X, S⟩ [oC (cSl 1 fI r222.2) s217.v, oHo 3 fDPart ((l171.set i170.toNat (⟨k169, (el l171 i170.toNat).n, (el l171 i170.toNat).signs⟩ : DPart)).set i170.toNat (⟨(el (l171.set i170.toNat (⟨k169, (el l171 i170.toNat).n, (el l171 i170.toNat).signs⟩ : DPart)) i170.toNat).kind, k169 + 1, (el (l171.set i170.toNat (⟨k169, (el l171 i170.toNat).n, (el l171 i170.toNat).signs⟩ : DPart)) i170.toNat).signs⟩ : DPart)) s_a.v (i170.toNat * 3 + 2) s217.v] [] _ := hM
    have hM := hM.close (i := i170.toNat) (j := 2) (⟨(el ((l171.set i170.toNat (⟨k169, (el l171 i170.toNat).n, (el l171 i170.toNat).signs⟩ : DPart)).set i170.toNat (⟨(el (l171.set i170.toNat (⟨k169, (el l171 i170.toNat).n, (el l171 i170.toNat).signs⟩ : DPart)) i170.toNat).kind, k169 + 1, (el (l171.set i170.toNat (⟨k169, (el l171 i170.toNat).n, (el l171 i170.toNat).signs⟩ : DPart)) i170.toNat).signs⟩ : DPart)) i170.toNat).kind, (el ((l171.set i170.toNat (⟨k169, (el l171 i170.toNat).n, (el l171 i170.toNat).signs⟩ : DPart)).set i170.toNat (⟨(el (l171.set i170.toNat (⟨k169, (el l171 i170.toNat).n, (el l171 i170.toNat).signs⟩ : DPart)) i170.toNat).kind, k169 + 1, (el (l171.set i170.toNat (⟨k169, (el l171 i170.toNat).n, (el l171 i170.toNat).signs⟩ : DPart)) i170.toNat).signs⟩ : DPart)) i170.toNat).n, r222.2⟩ : DPart) (fun _ => rfl) hi213 rfl rfl
    refine wv rfl (r_assign rfl) ?_
    refine wl_nil ?_
    refine bk_n ?_
    refine sq_n ?_
    refine wc_region ?_
    refine wv rfl (r_move rfl) ?_
    obtain ⟨hg228, hx⟩ := xg_some hx
    refine wv rfl (r_add rfl rfl hg228) ?_
    refine wv rfl (r_assign rfl) ?_
    refine wl_nil ?_
    obtain rfl := Option.some.inj hx
    exact lp_end (m176, r222.1, i170 + 1, ((l171.set i170.toNat (⟨k169, (el l171 i170.toNat).n, (el l171 i170.toNat).signs⟩ : DPart)).set i170.toNat (⟨(el (l171.set i170.toNat (⟨k169, (el l171 i170.toNat).n, (el l171 i170.toNat).signs⟩ : DPart)) i170.toNat).kind, k169 + 1, (el (l171.set i170.toNat (⟨k169, (el l171 i170.toNat).n, (el l171 i170.toNat).signs⟩ : DPart)) i170.toNat).signs⟩ : DPart)).set i170.toNat (⟨(el ((l171.set i170.toNat (⟨k169, (el l171 i170.toNat).n, (el l171 i170.toNat).signs⟩ : DPart)).set i170.toNat (⟨(el (l171.set i170.toNat (⟨k169, (el l171 i170.toNat).n, (el l171 i170.toNat).signs⟩ : DPart)) i170.toNat).kind, k169 + 1, (el (l171.set i170.toNat (⟨k169, (el l171 i170.toNat).n, (el l171 i170.toNat).signs⟩ : DPart)) i170.toNat).signs⟩ : DPart)) i170.toNat).kind, (el ((l171.set i170.toNat (⟨k169, (el l171 i170.toNat).n, (el l171 i170.toNat).signs⟩ : DPart)).set i170.toNat (⟨(el (l171.set i170.toNat (⟨k169, (el l171 i170.toNat).n, (el l171 i170.toNat).signs⟩ : DPart)) i170.toNat).kind, k169 + 1, (el (l171.set i170.toNat (⟨k169, (el l171 i170.toNat).n, (el l171 i170.toNat).signs⟩ : DPart)) i170.toNat).signs⟩ : DPart)) i170.toNat).n, r222.2⟩ : DPart)) (Nat.lt_succ_self _) ⟨rfl, rfl, rfl, trivial⟩ ⟨hM, hx178⟩
  · replace hx := xif_f hc183 hx
    refine wc_exit ?_
    refine sq_exit ?_
    refine lp1_exit ?_
    obtain rfl := Option.some.inj hx
    obtain rfl := Option.some.inj hx178
    replace hx := hx168
    try dsimp only [Sum.elim_inl, Sum.elim_inr] at hx
    refine bk_here ?_
    refine sq_n ?_
    refine wc_seq ?_
    refine wc_region ?_
    refine wv rfl (r_move rfl) ?_
    refine wv rfl (r_assign rfl) ?_
    refine wl_nil ?_
    refine sq_n ?_
    refine wc_ret ?_
    obtain rfl := Option.some.inj hx
    refine fin_ret [(.int .i64 k169)] ⟨rfl, trivial⟩ ?_
    replace hM := hM.t1
    have hM := hM.fewer rsN
    exact ⟨(), rfl, hM.gives⟩

noncomputable def x_laws_markEntryS_b0 (k56 : Int) (i57 : Int) (l58 : List DEntry) : Option (Lr (Int × Int × List DEntry) (Int × List DEntry)) :=
  bif decide (i57 < (l58.length : Int)) then (xg (0 ≤ i57 ∧ i57 < (l58.length : Int)) <| xg (inI (k56 + 1)) <| xg (0 ≤ i57 ∧ i57 < ((l58.set i57.toNat (⟨k56, (el l58 i57.toNat).seq, (el l58 i57.toNat).o⟩ : DEntry)).length : Int)) <| xg (inI ((k56 + 1) + 1)) <| xg (0 ≤ i57 ∧ i57 < (((l58.set i57.toNat (⟨k56, (el l58 i57.toNat).seq, (el l58 i57.toNat).o⟩ : DEntry)).set i57.toNat (⟨(el (l58.set i57.toNat (⟨k56, (el l58 i57.toNat).seq, (el l58 i57.toNat).o⟩ : DEntry)) i57.toNat).client, k56 + 1, (el (l58.set i57.toNat (⟨k56, (el l58 i57.toNat).seq, (el l58 i57.toNat).o⟩ : DEntry)) i57.toNat).o⟩ : DEntry)).length : Int)) <| Option.bind (x_laws_markPartS ((el ((l58.set i57.toNat (⟨k56, (el l58 i57.toNat).seq, (el l58 i57.toNat).o⟩ : DEntry)).set i57.toNat (⟨(el (l58.set i57.toNat (⟨k56, (el l58 i57.toNat).seq, (el l58 i57.toNat).o⟩ : DEntry)) i57.toNat).client, k56 + 1, (el (l58.set i57.toNat (⟨k56, (el l58 i57.toNat).seq, (el l58 i57.toNat).o⟩ : DEntry)) i57.toNat).o⟩ : DEntry)) i57.toNat).o) ((k56 + 1) + 1)) fun r152 => xg (inI (i57 + 1)) <| some (Lr.go (r152.1, i57 + 1, ((l58.set i57.toNat (⟨k56, (el l58 i57.toNat).seq, (el l58 i57.toNat).o⟩ : DEntry)).set i57.toNat (⟨(el (l58.set i57.toNat (⟨k56, (el l58 i57.toNat).seq, (el l58 i57.toNat).o⟩ : DEntry)) i57.toNat).client, k56 + 1, (el (l58.set i57.toNat (⟨k56, (el l58 i57.toNat).seq, (el l58 i57.toNat).o⟩ : DEntry)) i57.toNat).o⟩ : DEntry)).set i57.toNat (⟨(el ((l58.set i57.toNat (⟨k56, (el l58 i57.toNat).seq, (el l58 i57.toNat).o⟩ : DEntry)).set i57.toNat (⟨(el (l58.set i57.toNat (⟨k56, (el l58 i57.toNat).seq, (el l58 i57.toNat).o⟩ : DEntry)) i57.toNat).client, k56 + 1, (el (l58.set i57.toNat (⟨k56, (el l58 i57.toNat).seq, (el l58 i57.toNat).o⟩ : DEntry)) i57.toNat).o⟩ : DEntry)) i57.toNat).client, (el ((l58.set i57.toNat (⟨k56, (el l58 i57.toNat).seq, (el l58 i57.toNat).o⟩ : DEntry)).set i57.toNat (⟨(el (l58.set i57.toNat (⟨k56, (el l58 i57.toNat).seq, (el l58 i57.toNat).o⟩ : DEntry)) i57.toNat).client, k56 + 1, (el (l58.set i57.toNat (⟨k56, (el l58 i57.toNat).seq, (el l58 i57.toNat).o⟩ : DEntry)) i57.toNat).o⟩ : DEntry)) i57.toNat).seq, r152.2⟩ : DEntry)))) else (some (Lr.out (k56, l58)))
noncomputable def x_laws_markEntryS_f0 (s160 : Int × Int × List DEntry) : Option (Lr (Int × Int × List DEntry) (Int × List DEntry)) := x_laws_markEntryS_b0 s160.1 s160.2.1 s160.2.2
noncomputable def x_laws_markEntryS (a : List DEntry) (k : Int) : Option (Int × List DEntry) :=
  Option.bind (iter (x_laws_markEntryS_f0) (k, 0, a)) fun (y161 : Int × List DEntry) => some (y161.1, y161.2)
theorem ct_laws_markEntryS (w : World) (X S : Bs) (a : List DEntry) (s_a : Sv) (k : Int) (hS : ∀ b, S b → b < w.heap.size ∧ ¬ X b)  (oL : Sep [oC (cSl 3 fDEntry a) s_a.v] X w) {r : Int × List DEntry} (hx : x_laws_markEntryS a k = some r) :
    Ret Try.prog 26 [s_a.v, (.int .i64 k)] w (fun u w' => ∃ _ : Unit, u = (.int .i64 r.1) ∧ Gives X S w [oC (cSl 3 fDEntry r.2) s_a.v] [] w') := by
  unfold x_laws_markEntryS at hx
  refine enter Try.func26 rfl Try.ntmps26 (by kernel_rfl) rfl ?_
  have hM := St.enter oL hS
  refine wc_seq ?_
  refine wc_region ?_
  refine wv rfl (r_assign rfl) ?_
  refine wl_nil ?_
  refine sq_n ?_
  refine wc_seq ?_
  refine wc_seq ?_
  refine wc_region ?_
  refine wv rfl (r_assign rfl) ?_
  refine wl_nil ?_
  refine sq_n ?_
  refine wc_block ?_
  obtain ⟨y167, hx, hx168⟩ := bind_some' hx
  obtain ⟨m174, hx⟩ := iter_run hx
  refine wc_loop (un fun (m172 : Nat) => un fun (k169 : Int) => un fun (i170 : Int) => fun (l171 : List DEntry) => [(0, s_a.v), (1, (.int .i64 k169)), (5, (.int .i64 i170))]) (un fun (m172 : Nat) => un fun (k169 : Int) => un fun (i170 : Int) => fun (l171 : List DEntry) w' => St ⟨w, X, S⟩ [oC (cSl 3 fDEntry l171) s_a.v] [] w' ∧ iterN _ m172 (k169, i170, l171) = some y167) (fun p => p.1) (m174, k, 0, a) ⟨rfl, rfl, rfl, trivial⟩ ⟨hM, hx⟩ ?_
  rintro ⟨m172, k169, i170, l171⟩ w175 ⟨hM, hx⟩
  obtain ⟨m176, z177, rfl, hx, hx178⟩ := iterN_step hx
  unfold x_laws_markEntryS_f0 x_laws_markEntryS_b0 at hx
  try dsimp only at hx
  refine wc_seq ?_
  refine wc_seq ?_
  refine wc_region ?_
  refine wv rfl (r_move rfl) ?_
  refine wv rfl (r_move rfl) ?_
  refine wv rfl (r_lenC Try.underlying24 rfl (hM.seeO (.head _))) ?_
  refine wv rfl (r_lss rfl rfl) ?_
  refine wl_nil ?_
  refine sq_n ?_
  refine wc_cond rfl (fun hc183 => ?_) (fun hc183 => ?_)
  · replace hx := xif_t hc183 hx
    refine wc_skip ?_
    refine sq_n ?_
    refine wc_seq ?_
    refine wc_block ?_
    refine wc_seq ?_
    refine wc_region ?_
    refine wv rfl (r_move rfl) ?_
    refine wv rfl (r_move rfl) ?_
    refine wv rfl (r_move rfl) ?_
    obtain ⟨hg189, hx⟩ := xg_some hx
    have hi188 : i170.toNat < l171.length := by omega
    refine wv rfl (r_ixC Try.underlying24 sz44 rfl rfl (hM.seeO (.head _)) hg189) ?_
    refine wv rfl (r_fldC (i := i170.toNat) Try.underlying44 rfl rfl sz3 rfl (hM.seeO (.head _)) hi188) ?_
    refine w_exu (x_stE (f := fDEntry) (k := 3) (L := l171) (i := i170.toNat) (j := 0) (⟨k169, (el l171 i170.toNat).seq, (el l171 i170.toNat).o⟩ : DEntry) [cI k169] sz3 (fun _ => rfl) rfl rfl hi188 rfl rfl rfl rfl rfl (fun _ => zP (pV _ rfl) zN) hM ?_); intro w191 hM
    refine wl_nil ?_
    refine sq_n ?_
    refine wc_seq ?_
    refine wc_region ?_
    refine wv rfl (r_move rfl) ?_
    obtain ⟨hg195, hx⟩ := xg_some hx
    refine wv rfl (r_add rfl rfl hg195) ?_
    refine wv rfl (r_assign rfl) ?_
    refine wl_nil ?_
    refine sq_n ?_
    refine wc_seq ?_
    refine wc_region ?_
    refine wv rfl (r_move rfl) ?_
    refine wv rfl (r_move rfl) ?_
    refine wv rfl (r_move rfl) ?_
    obtain ⟨hg202, hx⟩ := xg_some hx
    have hi201 : i170.toNat < (l171.set i170.toNat (⟨k169, (el l171 i170.toNat).seq, (el l171 i170.toNat).o⟩ : DEntry)).length := by omega
    refine wv rfl (r_ixC Try.underlying24 sz44 rfl rfl (hM.seeO (.head _)) hg202) ?_
    refine wv rfl (r_fldC (i := i170.toNat) Try.underlying44 rfl rfl sz3 rfl (hM.seeO (.head _)) hi201) ?_
    refine w_exu (x_stE (f := fDEntry) (k := 3) (L := (l171.set i170.toNat (⟨k169, (el l171 i170.toNat).seq, (el l171 i170.toNat).o⟩ : DEntry))) (i := i170.toNat) (j := 1) (⟨(el (l171.set i170.toNat (⟨k169, (el l171 i170.toNat).seq, (el l171 i170.toNat).o⟩ : DEntry)) i170.toNat).client, k169 + 1, (el (l171.set i170.toNat (⟨k169, (el l171 i170.toNat).seq, (el l171 i170.toNat).o⟩ : DEntry)) i170.toNat).o⟩ : DEntry) [cI (k169 + 1)] sz3 (fun _ => rfl) rfl rfl hi201 rfl rfl rfl rfl rfl (fun _ => zP (pV _ rfl) zN) hM ?_); intro w204 hM
    refine wl_nil ?_
    refine sq_n ?_
    refine wc_seq ?_
    refine wc_region ?_
    refine wv rfl (r_move rfl) ?_
    obtain ⟨hg208, hx⟩ := xg_some hx
    refine wv rfl (r_add rfl rfl hg208) ?_
    refine wv rfl (r_assign rfl) ?_
    refine wl_nil ?_
    refine sq_n ?_
    refine wc_region ?_
    refine wv rfl (r_move rfl) ?_
    refine wv rfl (r_move rfl) ?_
    obtain ⟨hg214, hx⟩ := xg_some hx
    have hi213 : i170.toNat < ((l171.set i170.toNat (⟨k169, (el l171 i170.toNat).seq, (el l171 i170.toNat).o⟩ : DEntry)).set i170.toNat (⟨(el (l171.set i170.toNat (⟨k169, (el l171 i170.toNat).seq, (el l171 i170.toNat).o⟩ : DEntry)) i170.toNat).client, k169 + 1, (el (l171.set i170.toNat (⟨k169, (el l171 i170.toNat).seq, (el l171 i170.toNat).o⟩ : DEntry)) i170.toNat).o⟩ : DEntry)).length := by omega
    refine wv rfl (r_ixC Try.underlying24 sz44 rfl rfl (hM.seeO (.head _)) hg214) ?_
    refine wv rfl (r_fldC (i := i170.toNat) Try.underlying44 rfl rfl sz42 rfl (hM.seeO (.head _)) hi213) ?_
    obtain ⟨s217, hM, hc218⟩ := hM.leafO (i := i170.toNat) (j := 2) (fun _ => rfl) hi213 rfl
    refine wv rfl (r_ld Try.underlying42 rfl rfl (hc218 _ (Rel.refl _))) ?_
    refine wv rfl (r_move rfl) ?_
    have hM := hM.open (i := i170.toNat) (j := 2) (.tail _ (.head _)) (fun _ => rfl) hi213 rfl
    obtain ⟨r222, h223, hx⟩ := bind_some' hx
    refine w_call rfl rfl (hM.callO (l := [oC (cSl 3 fDPart ((el ((l171.set i170.toNat (⟨k169, (el l171 i170.toNat).seq, (el l171 i170.toNat).o⟩ : DEntry)).set i170.toNat (⟨(el (l171.set i170.toNat (⟨k169, (el l171 i170.toNat).seq, (el l171 i170.toNat).o⟩ : DEntry)) i170.toNat).client, k169 + 1, (el (l171.set i170.toNat (⟨k169, (el l171 i170.toNat).seq, (el l171 i170.toNat).o⟩ : DEntry)) i170.toNat).o⟩ : DEntry)) i170.toNat).o)) s217.v]) fun X S oL hS hR hO => ct_laws_markPartS _ X S ((el ((l171.set i170.toNat (⟨k169, (el l171 i170.toNat).seq, (el l171 i170.toNat).o⟩ : DEntry)).set i170.toNat (⟨(el (l171.set i170.toNat (⟨k169, (el l171 i170.toNat).seq, (el l171 i170.toNat).o⟩ : DEntry)) i170.toNat).client, k169 + 1, (el (l171.set i170.toNat (⟨k169, (el l171 i170.toNat).seq, (el l171 i170.toNat).o⟩ : DEntry)) i170.toNat).o⟩ : DEntry)) i170.toNat).o) s217 ((k169 + 1) + 1) hS  oL h223) ?_
    rintro _ w224 ⟨_, rfl, hM⟩
    replace hM : St ⟨w, X, S⟩ [oC (cSl 3 fDPart r222.2) s217.v, oHo 3 fDEntry ((l171.set i170.toNat (⟨k169, (el l171 i170.toNat).seq, (el l171 i170.toNat).o⟩ : DEntry)).set i170.toNat (⟨(el (l171.set i170.toNat (⟨k169, (el l171 i170.toNat).seq, (el l171 i170.toNat).o⟩ : DEntry)) i170.toNat).client, k169 + 1, (el (l171.set i170.toNat (⟨k169, (el l171 i170.toNat).seq, (el l171 i170.toNat).o⟩ : DEntry)) i170.toNat).o⟩ : DEntry)) s_a.v (i170.toNat * 3 + 2) s217.v] [] _ := hM
    have hM := hM.close (i := i170.toNat) (j := 2) (⟨(el ((l171.set i170.toNat (⟨k169, (el l171 i170.toNat).seq, (el l171 i170.toNat).o⟩ : DEntry)).set i170.toNat (⟨(el (l171.set i170.toNat (⟨k169, (el l171 i170.toNat).seq, (el l171 i170.toNat).o⟩ : DEntry)) i170.toNat).client, k169 + 1, (el (l171.set i170.toNat (⟨k169, (el l171 i170.toNat).seq, (el l171 i170.toNat).o⟩ : DEntry)) i170.toNat).o⟩ : DEntry)) i170.toNat).client, (el ((l171.set i170.toNat (⟨k169, (el l171 i170.toNat).seq, (el l171 i170.toNat).o⟩ : DEntry)).set i170.toNat (⟨(el (l171.set i170.toNat (⟨k169, (el l171 i170.toNat).seq, (el l171 i170.toNat).o⟩ : DEntry)) i170.toNat).client, k169 + 1, (el (l171.set i170.toNat (⟨k169, (el l171 i170.toNat).seq, (el l171 i170.toNat).o⟩ : DEntry)) i170.toNat).o⟩ : DEntry)) i170.toNat).seq, r222.2⟩ : DEntry) (fun _ => rfl) hi213 rfl rfl
    refine wv rfl (r_assign rfl) ?_
    refine wl_nil ?_
    refine bk_n ?_
    refine sq_n ?_
    refine wc_region ?_
    refine wv rfl (r_move rfl) ?_
    obtain ⟨hg228, hx⟩ := xg_some hx
    refine wv rfl (r_add rfl rfl hg228) ?_
    refine wv rfl (r_assign rfl) ?_
    refine wl_nil ?_
    obtain rfl := Option.some.inj hx
    exact lp_end (m176, r222.1, i170 + 1, ((l171.set i170.toNat (⟨k169, (el l171 i170.toNat).seq, (el l171 i170.toNat).o⟩ : DEntry)).set i170.toNat (⟨(el (l171.set i170.toNat (⟨k169, (el l171 i170.toNat).seq, (el l171 i170.toNat).o⟩ : DEntry)) i170.toNat).client, k169 + 1, (el (l171.set i170.toNat (⟨k169, (el l171 i170.toNat).seq, (el l171 i170.toNat).o⟩ : DEntry)) i170.toNat).o⟩ : DEntry)).set i170.toNat (⟨(el ((l171.set i170.toNat (⟨k169, (el l171 i170.toNat).seq, (el l171 i170.toNat).o⟩ : DEntry)).set i170.toNat (⟨(el (l171.set i170.toNat (⟨k169, (el l171 i170.toNat).seq, (el l171 i170.toNat).o⟩ : DEntry)) i170.toNat).client, k169 + 1, (el (l171.set i170.toNat (⟨k169, (el l171 i170.toNat).seq, (el l171 i170.toNat).o⟩ : DEntry)) i170.toNat).o⟩ : DEntry)) i170.toNat).client, (el ((l171.set i170.toNat (⟨k169, (el l171 i170.toNat).seq, (el l171 i170.toNat).o⟩ : DEntry)).set i170.toNat (⟨(el (l171.set i170.toNat (⟨k169, (el l171 i170.toNat).seq, (el l171 i170.toNat).o⟩ : DEntry)) i170.toNat).client, k169 + 1, (el (l171.set i170.toNat (⟨k169, (el l171 i170.toNat).seq, (el l171 i170.toNat).o⟩ : DEntry)) i170.toNat).o⟩ : DEntry)) i170.toNat).seq, r222.2⟩ : DEntry)) (Nat.lt_succ_self _) ⟨rfl, rfl, rfl, trivial⟩ ⟨hM, hx178⟩
  · replace hx := xif_f hc183 hx
    refine wc_exit ?_
    refine sq_exit ?_
    refine lp1_exit ?_
    obtain rfl := Option.some.inj hx
    obtain rfl := Option.some.inj hx178
    replace hx := hx168
    try dsimp only [Sum.elim_inl, Sum.elim_inr] at hx
    refine bk_here ?_
    refine sq_n ?_
    refine wc_seq ?_
    refine wc_region ?_
    refine wv rfl (r_move rfl) ?_
    refine wv rfl (r_assign rfl) ?_
    refine wl_nil ?_
    refine sq_n ?_
    refine wc_ret ?_
    obtain rfl := Option.some.inj hx
    refine fin_ret [(.int .i64 k169)] ⟨rfl, trivial⟩ ?_
    replace hM := hM.t1
    have hM := hM.fewer rsN
    exact ⟨(), rfl, hM.gives⟩

noncomputable def x_laws_markSeenS_b0 (k53 : Int) (i54 : Int) (l55 : List DSeen) : Option (Lr (Int × Int × List DSeen) (Int × List DSeen)) :=
  bif decide (i54 < (l55.length : Int)) then (xg (0 ≤ i54 ∧ i54 < (l55.length : Int)) <| xg (inI (k53 + 1)) <| xg (0 ≤ i54 ∧ i54 < ((l55.set i54.toNat (⟨k53, (el l55 i54.toNat).seq, (el l55 i54.toNat).rev⟩ : DSeen)).length : Int)) <| xg (inI ((k53 + 1) + 1)) <| xg (0 ≤ i54 ∧ i54 < (((l55.set i54.toNat (⟨k53, (el l55 i54.toNat).seq, (el l55 i54.toNat).rev⟩ : DSeen)).set i54.toNat (⟨(el (l55.set i54.toNat (⟨k53, (el l55 i54.toNat).seq, (el l55 i54.toNat).rev⟩ : DSeen)) i54.toNat).client, k53 + 1, (el (l55.set i54.toNat (⟨k53, (el l55 i54.toNat).seq, (el l55 i54.toNat).rev⟩ : DSeen)) i54.toNat).rev⟩ : DSeen)).length : Int)) <| xg (inI (((k53 + 1) + 1) + 1)) <| xg (inI (i54 + 1)) <| some (Lr.go (((k53 + 1) + 1) + 1, i54 + 1, ((l55.set i54.toNat (⟨k53, (el l55 i54.toNat).seq, (el l55 i54.toNat).rev⟩ : DSeen)).set i54.toNat (⟨(el (l55.set i54.toNat (⟨k53, (el l55 i54.toNat).seq, (el l55 i54.toNat).rev⟩ : DSeen)) i54.toNat).client, k53 + 1, (el (l55.set i54.toNat (⟨k53, (el l55 i54.toNat).seq, (el l55 i54.toNat).rev⟩ : DSeen)) i54.toNat).rev⟩ : DSeen)).set i54.toNat (⟨(el ((l55.set i54.toNat (⟨k53, (el l55 i54.toNat).seq, (el l55 i54.toNat).rev⟩ : DSeen)).set i54.toNat (⟨(el (l55.set i54.toNat (⟨k53, (el l55 i54.toNat).seq, (el l55 i54.toNat).rev⟩ : DSeen)) i54.toNat).client, k53 + 1, (el (l55.set i54.toNat (⟨k53, (el l55 i54.toNat).seq, (el l55 i54.toNat).rev⟩ : DSeen)) i54.toNat).rev⟩ : DSeen)) i54.toNat).client, (el ((l55.set i54.toNat (⟨k53, (el l55 i54.toNat).seq, (el l55 i54.toNat).rev⟩ : DSeen)).set i54.toNat (⟨(el (l55.set i54.toNat (⟨k53, (el l55 i54.toNat).seq, (el l55 i54.toNat).rev⟩ : DSeen)) i54.toNat).client, k53 + 1, (el (l55.set i54.toNat (⟨k53, (el l55 i54.toNat).seq, (el l55 i54.toNat).rev⟩ : DSeen)) i54.toNat).rev⟩ : DSeen)) i54.toNat).seq, (k53 + 1) + 1⟩ : DSeen)))) else (some (Lr.out (k53, l55)))
noncomputable def x_laws_markSeenS_f0 (s151 : Int × Int × List DSeen) : Option (Lr (Int × Int × List DSeen) (Int × List DSeen)) := x_laws_markSeenS_b0 s151.1 s151.2.1 s151.2.2
noncomputable def x_laws_markSeenS (a : List DSeen) (k : Int) : Option (Int × List DSeen) :=
  Option.bind (iter (x_laws_markSeenS_f0) (k, 0, a)) fun (y152 : Int × List DSeen) => some (y152.1, y152.2)
theorem ct_laws_markSeenS (w : World) (X S : Bs) (a : List DSeen) (s_a : Sv) (k : Int) (hS : ∀ b, S b → b < w.heap.size ∧ ¬ X b)  (oL : Sep [oC (cSl 3 fDSeen a) s_a.v] X w) {r : Int × List DSeen} (hx : x_laws_markSeenS a k = some r) :
    Ret Try.prog 27 [s_a.v, (.int .i64 k)] w (fun u w' => ∃ _ : Unit, u = (.int .i64 r.1) ∧ Gives X S w [oC (cSl 3 fDSeen r.2) s_a.v] [] w') := by
  unfold x_laws_markSeenS at hx
  refine enter Try.func27 rfl Try.ntmps27 (by kernel_rfl) rfl ?_
  have hM := St.enter oL hS
  refine wc_seq ?_
  refine wc_region ?_
  refine wv rfl (r_assign rfl) ?_
  refine wl_nil ?_
  refine sq_n ?_
  refine wc_seq ?_
  refine wc_seq ?_
  refine wc_region ?_
  refine wv rfl (r_assign rfl) ?_
  refine wl_nil ?_
  refine sq_n ?_
  refine wc_block ?_
  obtain ⟨y158, hx, hx159⟩ := bind_some' hx
  obtain ⟨m165, hx⟩ := iter_run hx
  refine wc_loop (un fun (m163 : Nat) => un fun (k160 : Int) => un fun (i161 : Int) => fun (l162 : List DSeen) => [(0, s_a.v), (1, (.int .i64 k160)), (5, (.int .i64 i161))]) (un fun (m163 : Nat) => un fun (k160 : Int) => un fun (i161 : Int) => fun (l162 : List DSeen) w' => St ⟨w, X, S⟩ [oC (cSl 3 fDSeen l162) s_a.v] [] w' ∧ iterN _ m163 (k160, i161, l162) = some y158) (fun p => p.1) (m165, k, 0, a) ⟨rfl, rfl, rfl, trivial⟩ ⟨hM, hx⟩ ?_
  rintro ⟨m163, k160, i161, l162⟩ w166 ⟨hM, hx⟩
  obtain ⟨m167, z168, rfl, hx, hx169⟩ := iterN_step hx
  unfold x_laws_markSeenS_f0 x_laws_markSeenS_b0 at hx
  try dsimp only at hx
  refine wc_seq ?_
  refine wc_seq ?_
  refine wc_region ?_
  refine wv rfl (r_move rfl) ?_
  refine wv rfl (r_move rfl) ?_
  refine wv rfl (r_lenC Try.underlying25 rfl (hM.seeO (.head _))) ?_
  refine wv rfl (r_lss rfl rfl) ?_
  refine wl_nil ?_
  refine sq_n ?_
  refine wc_cond rfl (fun hc174 => ?_) (fun hc174 => ?_)
  · replace hx := xif_t hc174 hx
    refine wc_skip ?_
    refine sq_n ?_
    refine wc_seq ?_
    refine wc_block ?_
    refine wc_seq ?_
    refine wc_region ?_
    refine wv rfl (r_move rfl) ?_
    refine wv rfl (r_move rfl) ?_
    refine wv rfl (r_move rfl) ?_
    obtain ⟨hg180, hx⟩ := xg_some hx
    have hi179 : i161.toNat < l162.length := by omega
    refine wv rfl (r_ixC Try.underlying25 sz47 rfl rfl (hM.seeO (.head _)) hg180) ?_
    refine wv rfl (r_fldC (i := i161.toNat) Try.underlying47 rfl rfl sz3 rfl (hM.seeO (.head _)) hi179) ?_
    refine w_exu (x_stE (f := fDSeen) (k := 3) (L := l162) (i := i161.toNat) (j := 0) (⟨k160, (el l162 i161.toNat).seq, (el l162 i161.toNat).rev⟩ : DSeen) [cI k160] sz3 (fun _ => rfl) rfl rfl hi179 rfl rfl rfl rfl rfl (fun _ => zP (pV _ rfl) zN) hM ?_); intro w182 hM
    refine wl_nil ?_
    refine sq_n ?_
    refine wc_seq ?_
    refine wc_region ?_
    refine wv rfl (r_move rfl) ?_
    obtain ⟨hg186, hx⟩ := xg_some hx
    refine wv rfl (r_add rfl rfl hg186) ?_
    refine wv rfl (r_assign rfl) ?_
    refine wl_nil ?_
    refine sq_n ?_
    refine wc_seq ?_
    refine wc_region ?_
    refine wv rfl (r_move rfl) ?_
    refine wv rfl (r_move rfl) ?_
    refine wv rfl (r_move rfl) ?_
    obtain ⟨hg193, hx⟩ := xg_some hx
    have hi192 : i161.toNat < (l162.set i161.toNat (⟨k160, (el l162 i161.toNat).seq, (el l162 i161.toNat).rev⟩ : DSeen)).length := by omega
    refine wv rfl (r_ixC Try.underlying25 sz47 rfl rfl (hM.seeO (.head _)) hg193) ?_
    refine wv rfl (r_fldC (i := i161.toNat) Try.underlying47 rfl rfl sz3 rfl (hM.seeO (.head _)) hi192) ?_
    refine w_exu (x_stE (f := fDSeen) (k := 3) (L := (l162.set i161.toNat (⟨k160, (el l162 i161.toNat).seq, (el l162 i161.toNat).rev⟩ : DSeen))) (i := i161.toNat) (j := 1) (⟨(el (l162.set i161.toNat (⟨k160, (el l162 i161.toNat).seq, (el l162 i161.toNat).rev⟩ : DSeen)) i161.toNat).client, k160 + 1, (el (l162.set i161.toNat (⟨k160, (el l162 i161.toNat).seq, (el l162 i161.toNat).rev⟩ : DSeen)) i161.toNat).rev⟩ : DSeen) [cI (k160 + 1)] sz3 (fun _ => rfl) rfl rfl hi192 rfl rfl rfl rfl rfl (fun _ => zP (pV _ rfl) zN) hM ?_); intro w195 hM
    refine wl_nil ?_
    refine sq_n ?_
    refine wc_seq ?_
    refine wc_region ?_
    refine wv rfl (r_move rfl) ?_
    obtain ⟨hg199, hx⟩ := xg_some hx
    refine wv rfl (r_add rfl rfl hg199) ?_
    refine wv rfl (r_assign rfl) ?_
    refine wl_nil ?_
    refine sq_n ?_
    refine wc_seq ?_
    refine wc_region ?_
    refine wv rfl (r_move rfl) ?_
    refine wv rfl (r_move rfl) ?_
    refine wv rfl (r_move rfl) ?_
    obtain ⟨hg206, hx⟩ := xg_some hx
    have hi205 : i161.toNat < ((l162.set i161.toNat (⟨k160, (el l162 i161.toNat).seq, (el l162 i161.toNat).rev⟩ : DSeen)).set i161.toNat (⟨(el (l162.set i161.toNat (⟨k160, (el l162 i161.toNat).seq, (el l162 i161.toNat).rev⟩ : DSeen)) i161.toNat).client, k160 + 1, (el (l162.set i161.toNat (⟨k160, (el l162 i161.toNat).seq, (el l162 i161.toNat).rev⟩ : DSeen)) i161.toNat).rev⟩ : DSeen)).length := by omega
    refine wv rfl (r_ixC Try.underlying25 sz47 rfl rfl (hM.seeO (.head _)) hg206) ?_
    refine wv rfl (r_fldC (i := i161.toNat) Try.underlying47 rfl rfl sz3 rfl (hM.seeO (.head _)) hi205) ?_
    refine w_exu (x_stE (f := fDSeen) (k := 3) (L := ((l162.set i161.toNat (⟨k160, (el l162 i161.toNat).seq, (el l162 i161.toNat).rev⟩ : DSeen)).set i161.toNat (⟨(el (l162.set i161.toNat (⟨k160, (el l162 i161.toNat).seq, (el l162 i161.toNat).rev⟩ : DSeen)) i161.toNat).client, k160 + 1, (el (l162.set i161.toNat (⟨k160, (el l162 i161.toNat).seq, (el l162 i161.toNat).rev⟩ : DSeen)) i161.toNat).rev⟩ : DSeen))) (i := i161.toNat) (j := 2) (⟨(el ((l162.set i161.toNat (⟨k160, (el l162 i161.toNat).seq, (el l162 i161.toNat).rev⟩ : DSeen)).set i161.toNat (⟨(el (l162.set i161.toNat (⟨k160, (el l162 i161.toNat).seq, (el l162 i161.toNat).rev⟩ : DSeen)) i161.toNat).client, k160 + 1, (el (l162.set i161.toNat (⟨k160, (el l162 i161.toNat).seq, (el l162 i161.toNat).rev⟩ : DSeen)) i161.toNat).rev⟩ : DSeen)) i161.toNat).client, (el ((l162.set i161.toNat (⟨k160, (el l162 i161.toNat).seq, (el l162 i161.toNat).rev⟩ : DSeen)).set i161.toNat (⟨(el (l162.set i161.toNat (⟨k160, (el l162 i161.toNat).seq, (el l162 i161.toNat).rev⟩ : DSeen)) i161.toNat).client, k160 + 1, (el (l162.set i161.toNat (⟨k160, (el l162 i161.toNat).seq, (el l162 i161.toNat).rev⟩ : DSeen)) i161.toNat).rev⟩ : DSeen)) i161.toNat).seq, (k160 + 1) + 1⟩ : DSeen) [cI ((k160 + 1) + 1)] sz3 (fun _ => rfl) rfl rfl hi205 rfl rfl rfl rfl rfl (fun _ => zP (pV _ rfl) zN) hM ?_); intro w208 hM
    refine wl_nil ?_
    refine sq_n ?_
    refine wc_region ?_
    refine wv rfl (r_move rfl) ?_
    obtain ⟨hg212, hx⟩ := xg_some hx
    refine wv rfl (r_add rfl rfl hg212) ?_
    refine wv rfl (r_assign rfl) ?_
    refine wl_nil ?_
    refine bk_n ?_
    refine sq_n ?_
    refine wc_region ?_
    refine wv rfl (r_move rfl) ?_
    obtain ⟨hg216, hx⟩ := xg_some hx
    refine wv rfl (r_add rfl rfl hg216) ?_
    refine wv rfl (r_assign rfl) ?_
    refine wl_nil ?_
    obtain rfl := Option.some.inj hx
    exact lp_end (m167, ((k160 + 1) + 1) + 1, i161 + 1, ((l162.set i161.toNat (⟨k160, (el l162 i161.toNat).seq, (el l162 i161.toNat).rev⟩ : DSeen)).set i161.toNat (⟨(el (l162.set i161.toNat (⟨k160, (el l162 i161.toNat).seq, (el l162 i161.toNat).rev⟩ : DSeen)) i161.toNat).client, k160 + 1, (el (l162.set i161.toNat (⟨k160, (el l162 i161.toNat).seq, (el l162 i161.toNat).rev⟩ : DSeen)) i161.toNat).rev⟩ : DSeen)).set i161.toNat (⟨(el ((l162.set i161.toNat (⟨k160, (el l162 i161.toNat).seq, (el l162 i161.toNat).rev⟩ : DSeen)).set i161.toNat (⟨(el (l162.set i161.toNat (⟨k160, (el l162 i161.toNat).seq, (el l162 i161.toNat).rev⟩ : DSeen)) i161.toNat).client, k160 + 1, (el (l162.set i161.toNat (⟨k160, (el l162 i161.toNat).seq, (el l162 i161.toNat).rev⟩ : DSeen)) i161.toNat).rev⟩ : DSeen)) i161.toNat).client, (el ((l162.set i161.toNat (⟨k160, (el l162 i161.toNat).seq, (el l162 i161.toNat).rev⟩ : DSeen)).set i161.toNat (⟨(el (l162.set i161.toNat (⟨k160, (el l162 i161.toNat).seq, (el l162 i161.toNat).rev⟩ : DSeen)) i161.toNat).client, k160 + 1, (el (l162.set i161.toNat (⟨k160, (el l162 i161.toNat).seq, (el l162 i161.toNat).rev⟩ : DSeen)) i161.toNat).rev⟩ : DSeen)) i161.toNat).seq, (k160 + 1) + 1⟩ : DSeen)) (Nat.lt_succ_self _) ⟨rfl, rfl, rfl, trivial⟩ ⟨hM, hx169⟩
  · replace hx := xif_f hc174 hx
    refine wc_exit ?_
    refine sq_exit ?_
    refine lp1_exit ?_
    obtain rfl := Option.some.inj hx
    obtain rfl := Option.some.inj hx169
    replace hx := hx159
    try dsimp only [Sum.elim_inl, Sum.elim_inr] at hx
    refine bk_here ?_
    refine sq_n ?_
    refine wc_seq ?_
    refine wc_region ?_
    refine wv rfl (r_move rfl) ?_
    refine wv rfl (r_assign rfl) ?_
    refine wl_nil ?_
    refine sq_n ?_
    refine wc_ret ?_
    obtain rfl := Option.some.inj hx
    refine fin_ret [(.int .i64 k160)] ⟨rfl, trivial⟩ ?_
    replace hM := hM.t1
    have hM := hM.fewer rsN
    exact ⟨(), rfl, hM.gives⟩

noncomputable def x_laws_markDoc (a : DDoc) (k : Int) : Option (Int × DDoc) :=
  Option.bind (x_laws_markIntS a.text k) fun r12 => Option.bind (x_laws_markEntryS a.list r12.1) fun r19 => Option.bind (x_laws_markSeenS a.seen r19.1) fun r26 => some (r26.1, (⟨a.name, a.from_, r12.2, r19.2, r26.2⟩ : DDoc))
theorem ct_laws_markDoc (w : World) (X S : Bs) (a : DDoc) (s_a_2 : Sv) (s_a_3 : Sv) (s_a_4 : Sv) (k : Int) (hS : ∀ b, S b → b < w.heap.size ∧ ¬ X b)  (oL : Sep [oC (cSl 1 fI a.text) s_a_2.v, oC (cSl 3 fDEntry a.list) s_a_3.v, oC (cSl 3 fDSeen a.seen) s_a_4.v] X w) {r : Int × DDoc} (hx : x_laws_markDoc a k = some r) :
    Ret Try.prog 10 [(.agg #[(.string a.name), (.int .i64 a.from_), s_a_2.v, s_a_3.v, s_a_4.v]), (.int .i64 k)] w (fun u w' => ∃ _ : Unit, u = (.int .i64 r.1) ∧ Gives X S w [oC (cSl 1 fI r.2.text) s_a_2.v, oC (cSl 3 fDEntry r.2.list) s_a_3.v, oC (cSl 3 fDSeen r.2.seen) s_a_4.v] [] w') := by
  unfold x_laws_markDoc at hx
  refine enter Try.func10 rfl Try.ntmps10 (by kernel_rfl) rfl ?_
  have hM := St.enter oL hS
  refine wc_seq ?_
  refine wc_region ?_
  refine w_ex rfl (x_box rfl hM ?_); intro b33 w32 hR34 hM
  replace hM : St ⟨w, X, S⟩ [oBox b33 #[(.string a.name), (.int .i64 a.from_), s_a_2.v, s_a_3.v, s_a_4.v] 27, oC (cSl 1 fI a.text) s_a_2.v, oC (cSl 3 fDEntry a.list) s_a_3.v, oC (cSl 3 fDSeen a.seen) s_a_4.v] [] _ := hM
  refine wv rfl (r_assign rfl) ?_
  refine wl_nil ?_
  refine sq_n ?_
  refine wc_seq ?_
  refine wc_region ?_
  refine wv rfl (r_fld Try.underlying27 rfl rfl sz23 rfl) ?_
  refine wv rfl (r_ldB Try.underlying23 rfl rfl hM (.head _) rfl) ?_
  refine wv rfl (r_move rfl) ?_
  replace hM := hM.p1
  obtain ⟨r40, h41, hx⟩ := bind_some' hx
  refine w_call rfl rfl (hM.callO (l := [oC (cSl 1 fI a.text) s_a_2.v]) fun X S oL hS hR hO => ct_laws_markIntS _ X S a.text s_a_2 k hS  oL h41) ?_
  rintro _ w42 ⟨_, rfl, hM⟩
  replace hM : St ⟨w, X, S⟩ [oC (cSl 1 fI r40.2) s_a_2.v, oBox b33 #[(.string a.name), (.int .i64 a.from_), s_a_2.v, s_a_3.v, s_a_4.v] 27, oC (cSl 3 fDEntry a.list) s_a_3.v, oC (cSl 3 fDSeen a.seen) s_a_4.v] [] _ := hM
  refine wv rfl (r_assign rfl) ?_
  refine wl_nil ?_
  refine sq_n ?_
  refine wc_seq ?_
  refine wc_region ?_
  refine wv rfl (r_fld Try.underlying27 rfl rfl sz24 rfl) ?_
  refine wv rfl (r_ldB Try.underlying24 rfl rfl hM (.tail _ (.head _)) rfl) ?_
  refine wv rfl (r_move rfl) ?_
  replace hM := hM.p2
  obtain ⟨r47, h48, hx⟩ := bind_some' hx
  refine w_call rfl rfl (hM.callO (l := [oC (cSl 3 fDEntry a.list) s_a_3.v]) fun X S oL hS hR hO => ct_laws_markEntryS _ X S a.list s_a_3 r40.1 hS  oL h48) ?_
  rintro _ w49 ⟨_, rfl, hM⟩
  replace hM : St ⟨w, X, S⟩ [oC (cSl 3 fDEntry r47.2) s_a_3.v, oC (cSl 1 fI r40.2) s_a_2.v, oBox b33 #[(.string a.name), (.int .i64 a.from_), s_a_2.v, s_a_3.v, s_a_4.v] 27, oC (cSl 3 fDSeen a.seen) s_a_4.v] [] _ := hM
  refine wv rfl (r_assign rfl) ?_
  refine wl_nil ?_
  refine sq_n ?_
  refine wc_seq ?_
  refine wc_region ?_
  refine wv rfl (r_fld Try.underlying27 rfl rfl sz25 rfl) ?_
  refine wv rfl (r_ldB Try.underlying25 rfl rfl hM (.tail _ (.tail _ (.head _))) rfl) ?_
  refine wv rfl (r_move rfl) ?_
  replace hM := hM.p3
  obtain ⟨r54, h55, hx⟩ := bind_some' hx
  refine w_call rfl rfl (hM.callO (l := [oC (cSl 3 fDSeen a.seen) s_a_4.v]) fun X S oL hS hR hO => ct_laws_markSeenS _ X S a.seen s_a_4 r47.1 hS  oL h55) ?_
  rintro _ w56 ⟨_, rfl, hM⟩
  replace hM : St ⟨w, X, S⟩ [oC (cSl 3 fDSeen r54.2) s_a_4.v, oC (cSl 3 fDEntry r47.2) s_a_3.v, oC (cSl 1 fI r40.2) s_a_2.v, oBox b33 #[(.string a.name), (.int .i64 a.from_), s_a_2.v, s_a_3.v, s_a_4.v] 27] [] _ := hM
  refine wv rfl (r_assign rfl) ?_
  refine wl_nil ?_
  refine sq_n ?_
  refine wc_seq ?_
  refine wc_region ?_
  refine wv rfl (r_move rfl) ?_
  refine wv rfl (r_assign rfl) ?_
  refine wl_nil ?_
  refine sq_n ?_
  refine wc_ret ?_
  obtain rfl := Option.some.inj hx
  refine fin_ret [(.int .i64 r54.1)] ⟨rfl, trivial⟩ ?_
  replace hM := hM.p1.p2
  replace hM := hM.t3
  have hM := hM.fewer rsN
  exact ⟨(), rfl, hM.gives⟩

noncomputable def x_laws_heldIntS_b0 (a : List Int) (k3 : Int) (i4 : Int) : Option (Lr (Int × Int) (Sum Int Int)) :=
  bif decide (i4 < (a.length : Int)) then (xg (0 ≤ i4 ∧ i4 < (a.length : Int)) <| bif !decide ((el a i4.toNat) = k3) then (some (Lr.out (Sum.inr (-1)))) else (xg (inI (k3 + 1)) <| xg (inI (i4 + 1)) <| some (Lr.go (k3 + 1, i4 + 1)))) else (some (Lr.out (Sum.inl k3)))
noncomputable def x_laws_heldIntS_f0 (a : List Int) (s47 : Int × Int) : Option (Lr (Int × Int) (Sum Int Int)) := x_laws_heldIntS_b0 a s47.1 s47.2
noncomputable def x_laws_heldIntS (a : List Int) (k : Int) : Option Int :=
  Option.bind (iter (x_laws_heldIntS_f0 a) (k, 0)) fun (y48 : Sum Int Int) => Sum.elim (fun y49 => some y49) (fun y50 => some y50) y48
theorem ct_laws_heldIntS (w : World) (X S : Bs) (a : List Int) (s_a : Sv) (k : Int) (hS : ∀ b, S b → b < w.heap.size ∧ ¬ X b) (a_a_0 : (cSl 1 fI a).rd S w s_a.v) (oL : Sep [] X w) {r : Int} (hx : x_laws_heldIntS a k = some r) :
    Ret Try.prog 28 [s_a.v, (.int .i64 k)] w (fun u w' => ∃ _ : Unit, u = (.int .i64 r) ∧ Gives X S w [] [] w') := by
  unfold x_laws_heldIntS at hx
  refine enter Try.func28 rfl Try.ntmps28 (by kernel_rfl) rfl ?_
  have hM := St.enter oL hS
  have hM := hM.addE (r := rV s_a.v (cSl 1 fI a)) a_a_0
  refine wc_seq ?_
  refine wc_region ?_
  refine wv rfl (r_assign rfl) ?_
  refine wl_nil ?_
  refine sq_n ?_
  refine wc_seq ?_
  refine wc_seq ?_
  refine wc_region ?_
  refine wv rfl (r_assign rfl) ?_
  refine wl_nil ?_
  refine sq_n ?_
  refine wc_block ?_
  obtain ⟨y55, hx, hx56⟩ := bind_some' hx
  obtain ⟨m61, hx⟩ := iter_run hx
  refine wc_loop (un fun (m59 : Nat) => un fun (k57 : Int) => fun (i58 : Int) => [(0, s_a.v), (1, (.int .i64 k57)), (5, (.int .i64 i58))]) (un fun (m59 : Nat) => un fun (k57 : Int) => fun (i58 : Int) w' => St ⟨w, X, S⟩ [] [rV s_a.v (cSl 1 fI a)] w' ∧ iterN _ m59 (k57, i58) = some y55) (fun p => p.1) (m61, k, 0) ⟨rfl, rfl, rfl, trivial⟩ ⟨hM, hx⟩ ?_
  rintro ⟨m59, k57, i58⟩ w62 ⟨hM, hx⟩
  obtain ⟨m63, z64, rfl, hx, hx65⟩ := iterN_step hx
  unfold x_laws_heldIntS_f0 x_laws_heldIntS_b0 at hx
  try dsimp only at hx
  refine wc_seq ?_
  refine wc_seq ?_
  refine wc_region ?_
  refine wv rfl (r_move rfl) ?_
  refine wv rfl (r_move rfl) ?_
  refine wv rfl (r_lenC Try.underlying23 rfl (hM.seeR (.head _))) ?_
  refine wv rfl (r_lss rfl rfl) ?_
  refine wl_nil ?_
  refine sq_n ?_
  refine wc_cond rfl (fun hc70 => ?_) (fun hc70 => ?_)
  · replace hx := xif_t hc70 hx
    refine wc_skip ?_
    refine sq_n ?_
    refine wc_seq ?_
    refine wc_block ?_
    refine wc_seq ?_
    refine wc_seq ?_
    refine wc_region ?_
    refine wv rfl (r_move rfl) ?_
    refine wv rfl (r_move rfl) ?_
    obtain ⟨hg75, hx⟩ := xg_some hx
    have hi74 : i58.toNat < a.length := by omega
    refine wv rfl (r_ixC Try.underlying23 sz3 rfl rfl (hM.seeR (.head _)) hg75) ?_
    refine wv rfl (r_ld Try.underlying3 rfl rfl (Cs.get (i := i58.toNat) (j := 0) (hM.seeR (.head _)) (fun _ => rfl) hi74 rfl)) ?_
    refine wv rfl (r_move rfl) ?_
    refine wv rfl (r_neq rfl rfl) ?_
    refine wl_nil ?_
    refine sq_n ?_
    refine wc_cond rfl (fun hc79 => ?_) (fun hc79 => ?_)
    · replace hx := xif_t hc79 hx
      refine wc_seq ?_
      refine wc_region ?_
      refine wv rfl (r_assign rfl) ?_
      refine wl_nil ?_
      refine sq_n ?_
      refine wc_ret ?_
      refine sq_ret ?_
      refine bk_ret ?_
      refine sq_ret ?_
      refine lp1_ret ?_
      obtain rfl := Option.some.inj hx
      obtain rfl := Option.some.inj hx65
      replace hx := hx56
      try dsimp only [Sum.elim_inl, Sum.elim_inr] at hx
      refine bk_ret ?_
      refine sq_ret ?_
      obtain rfl := Option.some.inj hx
      refine fin_ret [(.int .i64 (-1))] ⟨rfl, trivial⟩ ?_
      replace hM := hM.t0
      have hM := hM.fewer rsN
      exact ⟨(), rfl, hM.gives⟩
    · replace hx := xif_f hc79 hx
      refine wc_skip ?_
      refine sq_n ?_
      refine wc_region ?_
      refine wv rfl (r_move rfl) ?_
      obtain ⟨hg83, hx⟩ := xg_some hx
      refine wv rfl (r_add rfl rfl hg83) ?_
      refine wv rfl (r_assign rfl) ?_
      refine wl_nil ?_
      refine bk_n ?_
      refine sq_n ?_
      refine wc_region ?_
      refine wv rfl (r_move rfl) ?_
      obtain ⟨hg87, hx⟩ := xg_some hx
      refine wv rfl (r_add rfl rfl hg87) ?_
      refine wv rfl (r_assign rfl) ?_
      refine wl_nil ?_
      obtain rfl := Option.some.inj hx
      exact lp_end (m63, k57 + 1, i58 + 1) (Nat.lt_succ_self _) ⟨rfl, rfl, rfl, trivial⟩ ⟨hM, hx65⟩
  · replace hx := xif_f hc70 hx
    refine wc_exit ?_
    refine sq_exit ?_
    refine lp1_exit ?_
    obtain rfl := Option.some.inj hx
    obtain rfl := Option.some.inj hx65
    replace hx := hx56
    try dsimp only [Sum.elim_inl, Sum.elim_inr] at hx
    refine bk_here ?_
    refine sq_n ?_
    refine wc_seq ?_
    refine wc_region ?_
    refine wv rfl (r_move rfl) ?_
    refine wv rfl (r_assign rfl) ?_
    refine wl_nil ?_
    refine sq_n ?_
    refine wc_ret ?_
    obtain rfl := Option.some.inj hx
    refine fin_ret [(.int .i64 k57)] ⟨rfl, trivial⟩ ?_
    replace hM := hM.t0
    have hM := hM.fewer rsN
    exact ⟨(), rfl, hM.gives⟩

noncomputable def x_laws_heldPartS_b0 (a : List DPart) (k3 : Int) (i4 : Int) : Option (Lr (Int × Int) (Sum Int Int)) :=
  bif decide (i4 < (a.length : Int)) then (xg (0 ≤ i4 ∧ i4 < (a.length : Int)) <| bif !decide (((el a i4.toNat).kind) = k3) then (some (Lr.out (Sum.inr (-1)))) else (xg (inI (k3 + 1)) <| xg (0 ≤ i4 ∧ i4 < (a.length : Int)) <| bif !decide (((el a i4.toNat).n) = (k3 + 1)) then (some (Lr.out (Sum.inr (-1)))) else (xg (inI ((k3 + 1) + 1)) <| xg (0 ≤ i4 ∧ i4 < (a.length : Int)) <| Option.bind (x_laws_heldIntS ((el a i4.toNat).signs) ((k3 + 1) + 1)) fun r101 => bif decide (r101 < 0) then (some (Lr.out (Sum.inr (-1)))) else (xg (inI (i4 + 1)) <| some (Lr.go (r101, i4 + 1)))))) else (some (Lr.out (Sum.inl k3)))
noncomputable def x_laws_heldPartS_f0 (a : List DPart) (s113 : Int × Int) : Option (Lr (Int × Int) (Sum Int Int)) := x_laws_heldPartS_b0 a s113.1 s113.2
noncomputable def x_laws_heldPartS (a : List DPart) (k : Int) : Option Int :=
  Option.bind (iter (x_laws_heldPartS_f0 a) (k, 0)) fun (y114 : Sum Int Int) => Sum.elim (fun y115 => some y115) (fun y116 => some y116) y114
theorem ct_laws_heldPartS (w : World) (X S : Bs) (a : List DPart) (s_a : Sv) (k : Int) (hS : ∀ b, S b → b < w.heap.size ∧ ¬ X b) (a_a_0 : (cSl 3 fDPart a).rd S w s_a.v) (oL : Sep [] X w) {r : Int} (hx : x_laws_heldPartS a k = some r) :
    Ret Try.prog 42 [s_a.v, (.int .i64 k)] w (fun u w' => ∃ _ : Unit, u = (.int .i64 r) ∧ Gives X S w [] [] w') := by
  unfold x_laws_heldPartS at hx
  refine enter Try.func42 rfl Try.ntmps42 (by kernel_rfl) rfl ?_
  have hM := St.enter oL hS
  have hM := hM.addE (r := rV s_a.v (cSl 3 fDPart a)) a_a_0
  refine wc_seq ?_
  refine wc_region ?_
  refine wv rfl (r_assign rfl) ?_
  refine wl_nil ?_
  refine sq_n ?_
  refine wc_seq ?_
  refine wc_seq ?_
  refine wc_region ?_
  refine wv rfl (r_assign rfl) ?_
  refine wl_nil ?_
  refine sq_n ?_
  refine wc_block ?_
  obtain ⟨y121, hx, hx122⟩ := bind_some' hx
  obtain ⟨m127, hx⟩ := iter_run hx
  refine wc_loop (un fun (m125 : Nat) => un fun (k123 : Int) => fun (i124 : Int) => [(0, s_a.v), (1, (.int .i64 k123)), (5, (.int .i64 i124))]) (un fun (m125 : Nat) => un fun (k123 : Int) => fun (i124 : Int) w' => St ⟨w, X, S⟩ [] [rV s_a.v (cSl 3 fDPart a)] w' ∧ iterN _ m125 (k123, i124) = some y121) (fun p => p.1) (m127, k, 0) ⟨rfl, rfl, rfl, trivial⟩ ⟨hM, hx⟩ ?_
  rintro ⟨m125, k123, i124⟩ w128 ⟨hM, hx⟩
  obtain ⟨m129, z130, rfl, hx, hx131⟩ := iterN_step hx
  unfold x_laws_heldPartS_f0 x_laws_heldPartS_b0 at hx
  try dsimp only at hx
  refine wc_seq ?_
  refine wc_seq ?_
  refine wc_region ?_
  refine wv rfl (r_move rfl) ?_
  refine wv rfl (r_move rfl) ?_
  refine wv rfl (r_lenC Try.underlying42 rfl (hM.seeR (.head _))) ?_
  refine wv rfl (r_lss rfl rfl) ?_
  refine wl_nil ?_
  refine sq_n ?_
  refine wc_cond rfl (fun hc136 => ?_) (fun hc136 => ?_)
  · replace hx := xif_t hc136 hx
    refine wc_skip ?_
    refine sq_n ?_
    refine wc_seq ?_
    refine wc_block ?_
    refine wc_seq ?_
    refine wc_seq ?_
    refine wc_region ?_
    refine wv rfl (r_move rfl) ?_
    refine wv rfl (r_move rfl) ?_
    obtain ⟨hg141, hx⟩ := xg_some hx
    have hi140 : i124.toNat < a.length := by omega
    refine wv rfl (r_ixC Try.underlying42 sz65 rfl rfl (hM.seeR (.head _)) hg141) ?_
    refine wv rfl (r_fldC (i := i124.toNat) Try.underlying65 rfl rfl sz3 rfl (hM.seeR (.head _)) hi140) ?_
    refine wv rfl (r_ld Try.underlying3 rfl rfl (Cs.get (i := i124.toNat) (j := 0) (hM.seeR (.head _)) (fun _ => rfl) hi140 rfl)) ?_
    refine wv rfl (r_move rfl) ?_
    refine wv rfl (r_neq rfl rfl) ?_
    refine wl_nil ?_
    refine sq_n ?_
    refine wc_cond rfl (fun hc146 => ?_) (fun hc146 => ?_)
    · replace hx := xif_t hc146 hx
      refine wc_seq ?_
      refine wc_region ?_
      refine wv rfl (r_assign rfl) ?_
      refine wl_nil ?_
      refine sq_n ?_
      refine wc_ret ?_
      refine sq_ret ?_
      refine bk_ret ?_
      refine sq_ret ?_
      refine lp1_ret ?_
      obtain rfl := Option.some.inj hx
      obtain rfl := Option.some.inj hx131
      replace hx := hx122
      try dsimp only [Sum.elim_inl, Sum.elim_inr] at hx
      refine bk_ret ?_
      refine sq_ret ?_
      obtain rfl := Option.some.inj hx
      refine fin_ret [(.int .i64 (-1))] ⟨rfl, trivial⟩ ?_
      replace hM := hM.t0
      have hM := hM.fewer rsN
      exact ⟨(), rfl, hM.gives⟩
    · replace hx := xif_f hc146 hx
      refine wc_skip ?_
      refine sq_n ?_
      refine wc_seq ?_
      refine wc_region ?_
      refine wv rfl (r_move rfl) ?_
      obtain ⟨hg150, hx⟩ := xg_some hx
      refine wv rfl (r_add rfl rfl hg150) ?_
      refine wv rfl (r_assign rfl) ?_
      refine wl_nil ?_
      refine sq_n ?_
      refine wc_seq ?_
      refine wc_seq ?_
      refine wc_region ?_
      refine wv rfl (r_move rfl) ?_
      refine wv rfl (r_move rfl) ?_
      obtain ⟨hg156, hx⟩ := xg_some hx
      have hi155 : i124.toNat < a.length := by omega
      refine wv rfl (r_ixC Try.underlying42 sz65 rfl rfl (hM.seeR (.head _)) hg156) ?_
      refine wv rfl (r_fldC (i := i124.toNat) Try.underlying65 rfl rfl sz3 rfl (hM.seeR (.head _)) hi155) ?_
      refine wv rfl (r_ld Try.underlying3 rfl rfl (Cs.get (i := i124.toNat) (j := 1) (hM.seeR (.head _)) (fun _ => rfl) hi155 rfl)) ?_
      refine wv rfl (r_move rfl) ?_
      refine wv rfl (r_neq rfl rfl) ?_
      refine wl_nil ?_
      refine sq_n ?_
      refine wc_cond rfl (fun hc161 => ?_) (fun hc161 => ?_)
      · replace hx := xif_t hc161 hx
        refine wc_seq ?_
        refine wc_region ?_
        refine wv rfl (r_assign rfl) ?_
        refine wl_nil ?_
        refine sq_n ?_
        refine wc_ret ?_
        refine sq_ret ?_
        refine bk_ret ?_
        refine sq_ret ?_
        refine lp1_ret ?_
        obtain rfl := Option.some.inj hx
        obtain rfl := Option.some.inj hx131
        replace hx := hx122
        try dsimp only [Sum.elim_inl, Sum.elim_inr] at hx
        refine bk_ret ?_
        refine sq_ret ?_
        obtain rfl := Option.some.inj hx
        refine fin_ret [(.int .i64 (-1))] ⟨rfl, trivial⟩ ?_
        replace hM := hM.t0
        have hM := hM.fewer rsN
        exact ⟨(), rfl, hM.gives⟩
      · replace hx := xif_f hc161 hx
        refine wc_skip ?_
        refine sq_n ?_
        refine wc_seq ?_
        refine wc_region ?_
        refine wv rfl (r_move rfl) ?_
        obtain ⟨hg165, hx⟩ := xg_some hx
        refine wv rfl (r_add rfl rfl hg165) ?_
        refine wv rfl (r_assign rfl) ?_
        refine wl_nil ?_
        refine sq_n ?_
        refine wc_seq ?_
        refine wc_region ?_
        refine wv rfl (r_move rfl) ?_
        refine wv rfl (r_move rfl) ?_
        obtain ⟨hg171, hx⟩ := xg_some hx
        have hi170 : i124.toNat < a.length := by omega
        refine wv rfl (r_ixC Try.underlying42 sz65 rfl rfl (hM.seeR (.head _)) hg171) ?_
        refine wv rfl (r_fldC (i := i124.toNat) Try.underlying65 rfl rfl sz23 rfl (hM.seeR (.head _)) hi170) ?_
        obtain ⟨s174, hM, hc175⟩ := hM.leaf (i := i124.toNat) (j := 2) (.head _) (fun _ => rfl) hi170 rfl
        refine wv rfl (r_ld Try.underlying23 rfl rfl (hc175 _ (Rel.refl _))) ?_
        refine wv rfl (r_move rfl) ?_
        obtain ⟨r177, h178, hx⟩ := bind_some' hx
        refine w_call rfl rfl (hM.callV fun X S oL hS hR hO => ct_laws_heldIntS _ X S ((el a i124.toNat).signs) s174 ((k123 + 1) + 1) hS (hR _ (.head _)) oL h178) ?_
        rintro _ w179 ⟨rfl, hR180⟩
        have hM := hM.call hR180
        refine wv rfl (r_assign rfl) ?_
        refine wl_nil ?_
        refine sq_n ?_
        refine wc_seq ?_
        refine wc_region ?_
        refine wv rfl (r_move rfl) ?_
        refine wv rfl (r_lss rfl rfl) ?_
        refine wl_nil ?_
        refine sq_n ?_
        refine wc_cond rfl (fun hc184 => ?_) (fun hc184 => ?_)
        · replace hx := xif_t hc184 hx
          refine wc_seq ?_
          refine wc_region ?_
          refine wv rfl (r_assign rfl) ?_
          refine wl_nil ?_
          refine sq_n ?_
          refine wc_ret ?_
          refine bk_ret ?_
          refine sq_ret ?_
          refine lp1_ret ?_
          obtain rfl := Option.some.inj hx
          obtain rfl := Option.some.inj hx131
          replace hx := hx122
          try dsimp only [Sum.elim_inl, Sum.elim_inr] at hx
          refine bk_ret ?_
          refine sq_ret ?_
          obtain rfl := Option.some.inj hx
          refine fin_ret [(.int .i64 (-1))] ⟨rfl, trivial⟩ ?_
          replace hM := hM.t0
          have hM := hM.fewer rsN
          exact ⟨(), rfl, hM.gives⟩
        · replace hx := xif_f hc184 hx
          refine wc_skip ?_
          refine bk_n ?_
          refine sq_n ?_
          refine wc_region ?_
          refine wv rfl (r_move rfl) ?_
          obtain ⟨hg188, hx⟩ := xg_some hx
          refine wv rfl (r_add rfl rfl hg188) ?_
          refine wv rfl (r_assign rfl) ?_
          refine wl_nil ?_
          obtain rfl := Option.some.inj hx
          have hM := hM.fewer (rsC (.tail _ (.head _)) rsN)
          replace hM : St ⟨w, X, S⟩ [] [rV s_a.v (cSl 3 fDPart a)] _ := hM
          exact lp_end (m129, r177, i124 + 1) (Nat.lt_succ_self _) ⟨rfl, rfl, rfl, trivial⟩ ⟨hM, hx131⟩
  · replace hx := xif_f hc136 hx
    refine wc_exit ?_
    refine sq_exit ?_
    refine lp1_exit ?_
    obtain rfl := Option.some.inj hx
    obtain rfl := Option.some.inj hx131
    replace hx := hx122
    try dsimp only [Sum.elim_inl, Sum.elim_inr] at hx
    refine bk_here ?_
    refine sq_n ?_
    refine wc_seq ?_
    refine wc_region ?_
    refine wv rfl (r_move rfl) ?_
    refine wv rfl (r_assign rfl) ?_
    refine wl_nil ?_
    refine sq_n ?_
    refine wc_ret ?_
    obtain rfl := Option.some.inj hx
    refine fin_ret [(.int .i64 k123)] ⟨rfl, trivial⟩ ?_
    replace hM := hM.t0
    have hM := hM.fewer rsN
    exact ⟨(), rfl, hM.gives⟩

noncomputable def x_laws_heldEntryS_b0 (a : List DEntry) (k3 : Int) (i4 : Int) : Option (Lr (Int × Int) (Sum Int Int)) :=
  bif decide (i4 < (a.length : Int)) then (xg (0 ≤ i4 ∧ i4 < (a.length : Int)) <| bif !decide (((el a i4.toNat).client) = k3) then (some (Lr.out (Sum.inr (-1)))) else (xg (inI (k3 + 1)) <| xg (0 ≤ i4 ∧ i4 < (a.length : Int)) <| bif !decide (((el a i4.toNat).seq) = (k3 + 1)) then (some (Lr.out (Sum.inr (-1)))) else (xg (inI ((k3 + 1) + 1)) <| xg (0 ≤ i4 ∧ i4 < (a.length : Int)) <| Option.bind (x_laws_heldPartS ((el a i4.toNat).o) ((k3 + 1) + 1)) fun r101 => bif decide (r101 < 0) then (some (Lr.out (Sum.inr (-1)))) else (xg (inI (i4 + 1)) <| some (Lr.go (r101, i4 + 1)))))) else (some (Lr.out (Sum.inl k3)))
noncomputable def x_laws_heldEntryS_f0 (a : List DEntry) (s113 : Int × Int) : Option (Lr (Int × Int) (Sum Int Int)) := x_laws_heldEntryS_b0 a s113.1 s113.2
noncomputable def x_laws_heldEntryS (a : List DEntry) (k : Int) : Option Int :=
  Option.bind (iter (x_laws_heldEntryS_f0 a) (k, 0)) fun (y114 : Sum Int Int) => Sum.elim (fun y115 => some y115) (fun y116 => some y116) y114
theorem ct_laws_heldEntryS (w : World) (X S : Bs) (a : List DEntry) (s_a : Sv) (k : Int) (hS : ∀ b, S b → b < w.heap.size ∧ ¬ X b) (a_a_0 : (cSl 3 fDEntry a).rd S w s_a.v) (oL : Sep [] X w) {r : Int} (hx : x_laws_heldEntryS a k = some r) :
    Ret Try.prog 29 [s_a.v, (.int .i64 k)] w (fun u w' => ∃ _ : Unit, u = (.int .i64 r) ∧ Gives X S w [] [] w') := by
  unfold x_laws_heldEntryS at hx
  refine enter Try.func29 rfl Try.ntmps29 (by kernel_rfl) rfl ?_
  have hM := St.enter oL hS
  have hM := hM.addE (r := rV s_a.v (cSl 3 fDEntry a)) a_a_0
  refine wc_seq ?_
  refine wc_region ?_
  refine wv rfl (r_assign rfl) ?_
  refine wl_nil ?_
  refine sq_n ?_
  refine wc_seq ?_
  refine wc_seq ?_
  refine wc_region ?_
  refine wv rfl (r_assign rfl) ?_
  refine wl_nil ?_
  refine sq_n ?_
  refine wc_block ?_
  obtain ⟨y121, hx, hx122⟩ := bind_some' hx
  obtain ⟨m127, hx⟩ := iter_run hx
  refine wc_loop (un fun (m125 : Nat) => un fun (k123 : Int) => fun (i124 : Int) => [(0, s_a.v), (1, (.int .i64 k123)), (5, (.int .i64 i124))]) (un fun (m125 : Nat) => un fun (k123 : Int) => fun (i124 : Int) w' => St ⟨w, X, S⟩ [] [rV s_a.v (cSl 3 fDEntry a)] w' ∧ iterN _ m125 (k123, i124) = some y121) (fun p => p.1) (m127, k, 0) ⟨rfl, rfl, rfl, trivial⟩ ⟨hM, hx⟩ ?_
  rintro ⟨m125, k123, i124⟩ w128 ⟨hM, hx⟩
  obtain ⟨m129, z130, rfl, hx, hx131⟩ := iterN_step hx
  unfold x_laws_heldEntryS_f0 x_laws_heldEntryS_b0 at hx
  try dsimp only at hx
  refine wc_seq ?_
  refine wc_seq ?_
  refine wc_region ?_
  refine wv rfl (r_move rfl) ?_
  refine wv rfl (r_move rfl) ?_
  refine wv rfl (r_lenC Try.underlying24 rfl (hM.seeR (.head _))) ?_
  refine wv rfl (r_lss rfl rfl) ?_
  refine wl_nil ?_
  refine sq_n ?_
  refine wc_cond rfl (fun hc136 => ?_) (fun hc136 => ?_)
  · replace hx := xif_t hc136 hx
    refine wc_skip ?_
    refine sq_n ?_
    refine wc_seq ?_
    refine wc_block ?_
    refine wc_seq ?_
    refine wc_seq ?_
    refine wc_region ?_
    refine wv rfl (r_move rfl) ?_
    refine wv rfl (r_move rfl) ?_
    obtain ⟨hg141, hx⟩ := xg_some hx
    have hi140 : i124.toNat < a.length := by omega
    refine wv rfl (r_ixC Try.underlying24 sz44 rfl rfl (hM.seeR (.head _)) hg141) ?_
    refine wv rfl (r_fldC (i := i124.toNat) Try.underlying44 rfl rfl sz3 rfl (hM.seeR (.head _)) hi140) ?_
    refine wv rfl (r_ld Try.underlying3 rfl rfl (Cs.get (i := i124.toNat) (j := 0) (hM.seeR (.head _)) (fun _ => rfl) hi140 rfl)) ?_
    refine wv rfl (r_move rfl) ?_
    refine wv rfl (r_neq rfl rfl) ?_
    refine wl_nil ?_
    refine sq_n ?_
    refine wc_cond rfl (fun hc146 => ?_) (fun hc146 => ?_)
    · replace hx := xif_t hc146 hx
      refine wc_seq ?_
      refine wc_region ?_
      refine wv rfl (r_assign rfl) ?_
      refine wl_nil ?_
      refine sq_n ?_
      refine wc_ret ?_
      refine sq_ret ?_
      refine bk_ret ?_
      refine sq_ret ?_
      refine lp1_ret ?_
      obtain rfl := Option.some.inj hx
      obtain rfl := Option.some.inj hx131
      replace hx := hx122
      try dsimp only [Sum.elim_inl, Sum.elim_inr] at hx
      refine bk_ret ?_
      refine sq_ret ?_
      obtain rfl := Option.some.inj hx
      refine fin_ret [(.int .i64 (-1))] ⟨rfl, trivial⟩ ?_
      replace hM := hM.t0
      have hM := hM.fewer rsN
      exact ⟨(), rfl, hM.gives⟩
    · replace hx := xif_f hc146 hx
      refine wc_skip ?_
      refine sq_n ?_
      refine wc_seq ?_
      refine wc_region ?_
      refine wv rfl (r_move rfl) ?_
      obtain ⟨hg150, hx⟩ := xg_some hx
      refine wv rfl (r_add rfl rfl hg150) ?_
      refine wv rfl (r_assign rfl) ?_
      refine wl_nil ?_
      refine sq_n ?_
      refine wc_seq ?_
      refine wc_seq ?_
      refine wc_region ?_
      refine wv rfl (r_move rfl) ?_
      refine wv rfl (r_move rfl) ?_
      obtain ⟨hg156, hx⟩ := xg_some hx
      have hi155 : i124.toNat < a.length := by omega
      refine wv rfl (r_ixC Try.underlying24 sz44 rfl rfl (hM.seeR (.head _)) hg156) ?_
      refine wv rfl (r_fldC (i := i124.toNat) Try.underlying44 rfl rfl sz3 rfl (hM.seeR (.head _)) hi155) ?_
      refine wv rfl (r_ld Try.underlying3 rfl rfl (Cs.get (i := i124.toNat) (j := 1) (hM.seeR (.head _)) (fun _ => rfl) hi155 rfl)) ?_
      refine wv rfl (r_move rfl) ?_
      refine wv rfl (r_neq rfl rfl) ?_
      refine wl_nil ?_
      refine sq_n ?_
      refine wc_cond rfl (fun hc161 => ?_) (fun hc161 => ?_)
      · replace hx := xif_t hc161 hx
        refine wc_seq ?_
        refine wc_region ?_
        refine wv rfl (r_assign rfl) ?_
        refine wl_nil ?_
        refine sq_n ?_
        refine wc_ret ?_
        refine sq_ret ?_
        refine bk_ret ?_
        refine sq_ret ?_
        refine lp1_ret ?_
        obtain rfl := Option.some.inj hx
        obtain rfl := Option.some.inj hx131
        replace hx := hx122
        try dsimp only [Sum.elim_inl, Sum.elim_inr] at hx
        refine bk_ret ?_
        refine sq_ret ?_
        obtain rfl := Option.some.inj hx
        refine fin_ret [(.int .i64 (-1))] ⟨rfl, trivial⟩ ?_
        replace hM := hM.t0
        have hM := hM.fewer rsN
        exact ⟨(), rfl, hM.gives⟩
      · replace hx := xif_f hc161 hx
        refine wc_skip ?_
        refine sq_n ?_
        refine wc_seq ?_
        refine wc_region ?_
        refine wv rfl (r_move rfl) ?_
        obtain ⟨hg165, hx⟩ := xg_some hx
        refine wv rfl (r_add rfl rfl hg165) ?_
        refine wv rfl (r_assign rfl) ?_
        refine wl_nil ?_
        refine sq_n ?_
        refine wc_seq ?_
        refine wc_region ?_
        refine wv rfl (r_move rfl) ?_
        refine wv rfl (r_move rfl) ?_
        obtain ⟨hg171, hx⟩ := xg_some hx
        have hi170 : i124.toNat < a.length := by omega
        refine wv rfl (r_ixC Try.underlying24 sz44 rfl rfl (hM.seeR (.head _)) hg171) ?_
        refine wv rfl (r_fldC (i := i124.toNat) Try.underlying44 rfl rfl sz42 rfl (hM.seeR (.head _)) hi170) ?_
        obtain ⟨s174, hM, hc175⟩ := hM.leaf (i := i124.toNat) (j := 2) (.head _) (fun _ => rfl) hi170 rfl
        refine wv rfl (r_ld Try.underlying42 rfl rfl (hc175 _ (Rel.refl _))) ?_
        refine wv rfl (r_move rfl) ?_
        obtain ⟨r177, h178, hx⟩ := bind_some' hx
        refine w_call rfl rfl (hM.callV fun X S oL hS hR hO => ct_laws_heldPartS _ X S ((el a i124.toNat).o) s174 ((k123 + 1) + 1) hS (hR _ (.head _)) oL h178) ?_
        rintro _ w179 ⟨rfl, hR180⟩
        have hM := hM.call hR180
        refine wv rfl (r_assign rfl) ?_
        refine wl_nil ?_
        refine sq_n ?_
        refine wc_seq ?_
        refine wc_region ?_
        refine wv rfl (r_move rfl) ?_
        refine wv rfl (r_lss rfl rfl) ?_
        refine wl_nil ?_
        refine sq_n ?_
        refine wc_cond rfl (fun hc184 => ?_) (fun hc184 => ?_)
        · replace hx := xif_t hc184 hx
          refine wc_seq ?_
          refine wc_region ?_
          refine wv rfl (r_assign rfl) ?_
          refine wl_nil ?_
          refine sq_n ?_
          refine wc_ret ?_
          refine bk_ret ?_
          refine sq_ret ?_
          refine lp1_ret ?_
          obtain rfl := Option.some.inj hx
          obtain rfl := Option.some.inj hx131
          replace hx := hx122
          try dsimp only [Sum.elim_inl, Sum.elim_inr] at hx
          refine bk_ret ?_
          refine sq_ret ?_
          obtain rfl := Option.some.inj hx
          refine fin_ret [(.int .i64 (-1))] ⟨rfl, trivial⟩ ?_
          replace hM := hM.t0
          have hM := hM.fewer rsN
          exact ⟨(), rfl, hM.gives⟩
        · replace hx := xif_f hc184 hx
          refine wc_skip ?_
          refine bk_n ?_
          refine sq_n ?_
          refine wc_region ?_
          refine wv rfl (r_move rfl) ?_
          obtain ⟨hg188, hx⟩ := xg_some hx
          refine wv rfl (r_add rfl rfl hg188) ?_
          refine wv rfl (r_assign rfl) ?_
          refine wl_nil ?_
          obtain rfl := Option.some.inj hx
          have hM := hM.fewer (rsC (.tail _ (.head _)) rsN)
          replace hM : St ⟨w, X, S⟩ [] [rV s_a.v (cSl 3 fDEntry a)] _ := hM
          exact lp_end (m129, r177, i124 + 1) (Nat.lt_succ_self _) ⟨rfl, rfl, rfl, trivial⟩ ⟨hM, hx131⟩
  · replace hx := xif_f hc136 hx
    refine wc_exit ?_
    refine sq_exit ?_
    refine lp1_exit ?_
    obtain rfl := Option.some.inj hx
    obtain rfl := Option.some.inj hx131
    replace hx := hx122
    try dsimp only [Sum.elim_inl, Sum.elim_inr] at hx
    refine bk_here ?_
    refine sq_n ?_
    refine wc_seq ?_
    refine wc_region ?_
    refine wv rfl (r_move rfl) ?_
    refine wv rfl (r_assign rfl) ?_
    refine wl_nil ?_
    refine sq_n ?_
    refine wc_ret ?_
    obtain rfl := Option.some.inj hx
    refine fin_ret [(.int .i64 k123)] ⟨rfl, trivial⟩ ?_
    replace hM := hM.t0
    have hM := hM.fewer rsN
    exact ⟨(), rfl, hM.gives⟩

noncomputable def x_laws_heldSeenS_b0 (a : List DSeen) (k3 : Int) (i4 : Int) : Option (Lr (Int × Int) (Sum Int Int)) :=
  bif decide (i4 < (a.length : Int)) then (xg (0 ≤ i4 ∧ i4 < (a.length : Int)) <| bif !decide (((el a i4.toNat).client) = k3) then (some (Lr.out (Sum.inr (-1)))) else (xg (inI (k3 + 1)) <| xg (0 ≤ i4 ∧ i4 < (a.length : Int)) <| bif !decide (((el a i4.toNat).seq) = (k3 + 1)) then (some (Lr.out (Sum.inr (-1)))) else (xg (inI ((k3 + 1) + 1)) <| xg (0 ≤ i4 ∧ i4 < (a.length : Int)) <| bif !decide (((el a i4.toNat).rev) = ((k3 + 1) + 1)) then (some (Lr.out (Sum.inr (-1)))) else (xg (inI (((k3 + 1) + 1) + 1)) <| xg (inI (i4 + 1)) <| some (Lr.go (((k3 + 1) + 1) + 1, i4 + 1)))))) else (some (Lr.out (Sum.inl k3)))
noncomputable def x_laws_heldSeenS_f0 (a : List DSeen) (s105 : Int × Int) : Option (Lr (Int × Int) (Sum Int Int)) := x_laws_heldSeenS_b0 a s105.1 s105.2
noncomputable def x_laws_heldSeenS (a : List DSeen) (k : Int) : Option Int :=
  Option.bind (iter (x_laws_heldSeenS_f0 a) (k, 0)) fun (y106 : Sum Int Int) => Sum.elim (fun y107 => some y107) (fun y108 => some y108) y106
theorem ct_laws_heldSeenS (w : World) (X S : Bs) (a : List DSeen) (s_a : Sv) (k : Int) (hS : ∀ b, S b → b < w.heap.size ∧ ¬ X b) (a_a_0 : (cSl 3 fDSeen a).rd S w s_a.v) (oL : Sep [] X w) {r : Int} (hx : x_laws_heldSeenS a k = some r) :
    Ret Try.prog 30 [s_a.v, (.int .i64 k)] w (fun u w' => ∃ _ : Unit, u = (.int .i64 r) ∧ Gives X S w [] [] w') := by
  unfold x_laws_heldSeenS at hx
  refine enter Try.func30 rfl Try.ntmps30 (by kernel_rfl) rfl ?_
  have hM := St.enter oL hS
  have hM := hM.addE (r := rV s_a.v (cSl 3 fDSeen a)) a_a_0
  refine wc_seq ?_
  refine wc_region ?_
  refine wv rfl (r_assign rfl) ?_
  refine wl_nil ?_
  refine sq_n ?_
  refine wc_seq ?_
  refine wc_seq ?_
  refine wc_region ?_
  refine wv rfl (r_assign rfl) ?_
  refine wl_nil ?_
  refine sq_n ?_
  refine wc_block ?_
  obtain ⟨y113, hx, hx114⟩ := bind_some' hx
  obtain ⟨m119, hx⟩ := iter_run hx
  refine wc_loop (un fun (m117 : Nat) => un fun (k115 : Int) => fun (i116 : Int) => [(0, s_a.v), (1, (.int .i64 k115)), (5, (.int .i64 i116))]) (un fun (m117 : Nat) => un fun (k115 : Int) => fun (i116 : Int) w' => St ⟨w, X, S⟩ [] [rV s_a.v (cSl 3 fDSeen a)] w' ∧ iterN _ m117 (k115, i116) = some y113) (fun p => p.1) (m119, k, 0) ⟨rfl, rfl, rfl, trivial⟩ ⟨hM, hx⟩ ?_
  rintro ⟨m117, k115, i116⟩ w120 ⟨hM, hx⟩
  obtain ⟨m121, z122, rfl, hx, hx123⟩ := iterN_step hx
  unfold x_laws_heldSeenS_f0 x_laws_heldSeenS_b0 at hx
  try dsimp only at hx
  refine wc_seq ?_
  refine wc_seq ?_
  refine wc_region ?_
  refine wv rfl (r_move rfl) ?_
  refine wv rfl (r_move rfl) ?_
  refine wv rfl (r_lenC Try.underlying25 rfl (hM.seeR (.head _))) ?_
  refine wv rfl (r_lss rfl rfl) ?_
  refine wl_nil ?_
  refine sq_n ?_
  refine wc_cond rfl (fun hc128 => ?_) (fun hc128 => ?_)
  · replace hx := xif_t hc128 hx
    refine wc_skip ?_
    refine sq_n ?_
    refine wc_seq ?_
    refine wc_block ?_
    refine wc_seq ?_
    refine wc_seq ?_
    refine wc_region ?_
    refine wv rfl (r_move rfl) ?_
    refine wv rfl (r_move rfl) ?_
    obtain ⟨hg133, hx⟩ := xg_some hx
    have hi132 : i116.toNat < a.length := by omega
    refine wv rfl (r_ixC Try.underlying25 sz47 rfl rfl (hM.seeR (.head _)) hg133) ?_
    refine wv rfl (r_fldC (i := i116.toNat) Try.underlying47 rfl rfl sz3 rfl (hM.seeR (.head _)) hi132) ?_
    refine wv rfl (r_ld Try.underlying3 rfl rfl (Cs.get (i := i116.toNat) (j := 0) (hM.seeR (.head _)) (fun _ => rfl) hi132 rfl)) ?_
    refine wv rfl (r_move rfl) ?_
    refine wv rfl (r_neq rfl rfl) ?_
    refine wl_nil ?_
    refine sq_n ?_
    refine wc_cond rfl (fun hc138 => ?_) (fun hc138 => ?_)
    · replace hx := xif_t hc138 hx
      refine wc_seq ?_
      refine wc_region ?_
      refine wv rfl (r_assign rfl) ?_
      refine wl_nil ?_
      refine sq_n ?_
      refine wc_ret ?_
      refine sq_ret ?_
      refine bk_ret ?_
      refine sq_ret ?_
      refine lp1_ret ?_
      obtain rfl := Option.some.inj hx
      obtain rfl := Option.some.inj hx123
      replace hx := hx114
      try dsimp only [Sum.elim_inl, Sum.elim_inr] at hx
      refine bk_ret ?_
      refine sq_ret ?_
      obtain rfl := Option.some.inj hx
      refine fin_ret [(.int .i64 (-1))] ⟨rfl, trivial⟩ ?_
      replace hM := hM.t0
      have hM := hM.fewer rsN
      exact ⟨(), rfl, hM.gives⟩
    · replace hx := xif_f hc138 hx
      refine wc_skip ?_
      refine sq_n ?_
      refine wc_seq ?_
      refine wc_region ?_
      refine wv rfl (r_move rfl) ?_
      obtain ⟨hg142, hx⟩ := xg_some hx
      refine wv rfl (r_add rfl rfl hg142) ?_
      refine wv rfl (r_assign rfl) ?_
      refine wl_nil ?_
      refine sq_n ?_
      refine wc_seq ?_
      refine wc_seq ?_
      refine wc_region ?_
      refine wv rfl (r_move rfl) ?_
      refine wv rfl (r_move rfl) ?_
      obtain ⟨hg148, hx⟩ := xg_some hx
      have hi147 : i116.toNat < a.length := by omega
      refine wv rfl (r_ixC Try.underlying25 sz47 rfl rfl (hM.seeR (.head _)) hg148) ?_
      refine wv rfl (r_fldC (i := i116.toNat) Try.underlying47 rfl rfl sz3 rfl (hM.seeR (.head _)) hi147) ?_
      refine wv rfl (r_ld Try.underlying3 rfl rfl (Cs.get (i := i116.toNat) (j := 1) (hM.seeR (.head _)) (fun _ => rfl) hi147 rfl)) ?_
      refine wv rfl (r_move rfl) ?_
      refine wv rfl (r_neq rfl rfl) ?_
      refine wl_nil ?_
      refine sq_n ?_
      refine wc_cond rfl (fun hc153 => ?_) (fun hc153 => ?_)
      · replace hx := xif_t hc153 hx
        refine wc_seq ?_
        refine wc_region ?_
        refine wv rfl (r_assign rfl) ?_
        refine wl_nil ?_
        refine sq_n ?_
        refine wc_ret ?_
        refine sq_ret ?_
        refine bk_ret ?_
        refine sq_ret ?_
        refine lp1_ret ?_
        obtain rfl := Option.some.inj hx
        obtain rfl := Option.some.inj hx123
        replace hx := hx114
        try dsimp only [Sum.elim_inl, Sum.elim_inr] at hx
        refine bk_ret ?_
        refine sq_ret ?_
        obtain rfl := Option.some.inj hx
        refine fin_ret [(.int .i64 (-1))] ⟨rfl, trivial⟩ ?_
        replace hM := hM.t0
        have hM := hM.fewer rsN
        exact ⟨(), rfl, hM.gives⟩
      · replace hx := xif_f hc153 hx
        refine wc_skip ?_
        refine sq_n ?_
        refine wc_seq ?_
        refine wc_region ?_
        refine wv rfl (r_move rfl) ?_
        obtain ⟨hg157, hx⟩ := xg_some hx
        refine wv rfl (r_add rfl rfl hg157) ?_
        refine wv rfl (r_assign rfl) ?_
        refine wl_nil ?_
        refine sq_n ?_
        refine wc_seq ?_
        refine wc_seq ?_
        refine wc_region ?_
        refine wv rfl (r_move rfl) ?_
        refine wv rfl (r_move rfl) ?_
        obtain ⟨hg163, hx⟩ := xg_some hx
        have hi162 : i116.toNat < a.length := by omega
        refine wv rfl (r_ixC Try.underlying25 sz47 rfl rfl (hM.seeR (.head _)) hg163) ?_
        refine wv rfl (r_fldC (i := i116.toNat) Try.underlying47 rfl rfl sz3 rfl (hM.seeR (.head _)) hi162) ?_
        refine wv rfl (r_ld Try.underlying3 rfl rfl (Cs.get (i := i116.toNat) (j := 2) (hM.seeR (.head _)) (fun _ => rfl) hi162 rfl)) ?_
        refine wv rfl (r_move rfl) ?_
        refine wv rfl (r_neq rfl rfl) ?_
        refine wl_nil ?_
        refine sq_n ?_
        refine wc_cond rfl (fun hc168 => ?_) (fun hc168 => ?_)
        · replace hx := xif_t hc168 hx
          refine wc_seq ?_
          refine wc_region ?_
          refine wv rfl (r_assign rfl) ?_
          refine wl_nil ?_
          refine sq_n ?_
          refine wc_ret ?_
          refine sq_ret ?_
          refine bk_ret ?_
          refine sq_ret ?_
          refine lp1_ret ?_
          obtain rfl := Option.some.inj hx
          obtain rfl := Option.some.inj hx123
          replace hx := hx114
          try dsimp only [Sum.elim_inl, Sum.elim_inr] at hx
          refine bk_ret ?_
          refine sq_ret ?_
          obtain rfl := Option.some.inj hx
          refine fin_ret [(.int .i64 (-1))] ⟨rfl, trivial⟩ ?_
          replace hM := hM.t0
          have hM := hM.fewer rsN
          exact ⟨(), rfl, hM.gives⟩
        · replace hx := xif_f hc168 hx
          refine wc_skip ?_
          refine sq_n ?_
          refine wc_region ?_
          refine wv rfl (r_move rfl) ?_
          obtain ⟨hg172, hx⟩ := xg_some hx
          refine wv rfl (r_add rfl rfl hg172) ?_
          refine wv rfl (r_assign rfl) ?_
          refine wl_nil ?_
          refine bk_n ?_
          refine sq_n ?_
          refine wc_region ?_
          refine wv rfl (r_move rfl) ?_
          obtain ⟨hg176, hx⟩ := xg_some hx
          refine wv rfl (r_add rfl rfl hg176) ?_
          refine wv rfl (r_assign rfl) ?_
          refine wl_nil ?_
          obtain rfl := Option.some.inj hx
          exact lp_end (m121, ((k115 + 1) + 1) + 1, i116 + 1) (Nat.lt_succ_self _) ⟨rfl, rfl, rfl, trivial⟩ ⟨hM, hx123⟩
  · replace hx := xif_f hc128 hx
    refine wc_exit ?_
    refine sq_exit ?_
    refine lp1_exit ?_
    obtain rfl := Option.some.inj hx
    obtain rfl := Option.some.inj hx123
    replace hx := hx114
    try dsimp only [Sum.elim_inl, Sum.elim_inr] at hx
    refine bk_here ?_
    refine sq_n ?_
    refine wc_seq ?_
    refine wc_region ?_
    refine wv rfl (r_move rfl) ?_
    refine wv rfl (r_assign rfl) ?_
    refine wl_nil ?_
    refine sq_n ?_
    refine wc_ret ?_
    obtain rfl := Option.some.inj hx
    refine fin_ret [(.int .i64 k115)] ⟨rfl, trivial⟩ ?_
    replace hM := hM.t0
    have hM := hM.fewer rsN
    exact ⟨(), rfl, hM.gives⟩

noncomputable def x_laws_heldDoc (a : DDoc) (k : Int) : Option Int :=
  Option.bind (x_laws_heldIntS a.text k) fun r9 => bif decide (r9 < 0) then (some (-1)) else (Option.bind (x_laws_heldEntryS a.list r9) fun r20 => bif decide (r20 < 0) then (some (-1)) else (Option.bind (x_laws_heldSeenS a.seen r20) fun r31 => bif decide (r31 < 0) then (some (-1)) else (some r31)))
theorem ct_laws_heldDoc (w : World) (X S : Bs) (a : DDoc) (s_a_2 : Sv) (s_a_3 : Sv) (s_a_4 : Sv) (k : Int) (hS : ∀ b, S b → b < w.heap.size ∧ ¬ X b) (a_a_2 : (cSl 1 fI a.text).rd S w s_a_2.v) (a_a_3 : (cSl 3 fDEntry a.list).rd S w s_a_3.v) (a_a_4 : (cSl 3 fDSeen a.seen).rd S w s_a_4.v) (oL : Sep [] X w) {r : Int} (hx : x_laws_heldDoc a k = some r) :
    Ret Try.prog 11 [(.agg #[(.string a.name), (.int .i64 a.from_), s_a_2.v, s_a_3.v, s_a_4.v]), (.int .i64 k)] w (fun u w' => ∃ _ : Unit, u = (.int .i64 r) ∧ Gives X S w [] [] w') := by
  unfold x_laws_heldDoc at hx
  refine enter Try.func11 rfl Try.ntmps11 (by kernel_rfl) rfl ?_
  have hM := St.enter oL hS
  have hM := hM.addE (r := rV s_a_2.v (cSl 1 fI a.text)) a_a_2
  have hM := hM.addE (r := rV s_a_3.v (cSl 3 fDEntry a.list)) a_a_3
  have hM := hM.addE (r := rV s_a_4.v (cSl 3 fDSeen a.seen)) a_a_4
  refine wc_seq ?_
  refine wc_region ?_
  refine w_ex rfl (x_box rfl hM ?_); intro b42 w41 hR43 hM
  replace hM : St ⟨w, X, S⟩ [oBox b42 #[(.string a.name), (.int .i64 a.from_), s_a_2.v, s_a_3.v, s_a_4.v] 27] [rV s_a_4.v (cSl 3 fDSeen a.seen), rV s_a_3.v (cSl 3 fDEntry a.list), rV s_a_2.v (cSl 1 fI a.text)] _ := hM
  refine wv rfl (r_assign rfl) ?_
  refine wl_nil ?_
  refine sq_n ?_
  refine wc_seq ?_
  refine wc_region ?_
  refine wv rfl (r_fld Try.underlying27 rfl rfl sz23 rfl) ?_
  refine wv rfl (r_ldB Try.underlying23 rfl rfl hM (.head _) rfl) ?_
  refine wv rfl (r_move rfl) ?_
  obtain ⟨r49, h50, hx⟩ := bind_some' hx
  refine w_call rfl rfl (hM.callV fun X S oL hS hR hO => ct_laws_heldIntS _ X S a.text s_a_2 k hS (hR _ (.tail _ (.tail _ (.head _)))) oL h50) ?_
  rintro _ w51 ⟨rfl, hR52⟩
  have hM := hM.call hR52
  refine wv rfl (r_assign rfl) ?_
  refine wl_nil ?_
  refine sq_n ?_
  refine wc_seq ?_
  refine wc_seq ?_
  refine wc_region ?_
  refine wv rfl (r_move rfl) ?_
  refine wv rfl (r_lss rfl rfl) ?_
  refine wl_nil ?_
  refine sq_n ?_
  refine wc_cond rfl (fun hc56 => ?_) (fun hc56 => ?_)
  · replace hx := xif_t hc56 hx
    refine wc_seq ?_
    refine wc_region ?_
    refine wv rfl (r_assign rfl) ?_
    refine wl_nil ?_
    refine sq_n ?_
    refine wc_ret ?_
    refine sq_ret ?_
    obtain rfl := Option.some.inj hx
    refine fin_ret [(.int .i64 (-1))] ⟨rfl, trivial⟩ ?_
    replace hM := hM.t0
    have hM := hM.fewer rsN
    exact ⟨(), rfl, hM.gives⟩
  · replace hx := xif_f hc56 hx
    refine wc_skip ?_
    refine sq_n ?_
    refine wc_seq ?_
    refine wc_region ?_
    refine wv rfl (r_fld Try.underlying27 rfl rfl sz24 rfl) ?_
    refine wv rfl (r_ldB Try.underlying24 rfl rfl hM (.head _) rfl) ?_
    refine wv rfl (r_move rfl) ?_
    obtain ⟨r61, h62, hx⟩ := bind_some' hx
    refine w_call rfl rfl (hM.callV fun X S oL hS hR hO => ct_laws_heldEntryS _ X S a.list s_a_3 r49 hS (hR _ (.tail _ (.head _))) oL h62) ?_
    rintro _ w63 ⟨rfl, hR64⟩
    have hM := hM.call hR64
    refine wv rfl (r_assign rfl) ?_
    refine wl_nil ?_
    refine sq_n ?_
    refine wc_seq ?_
    refine wc_seq ?_
    refine wc_region ?_
    refine wv rfl (r_move rfl) ?_
    refine wv rfl (r_lss rfl rfl) ?_
    refine wl_nil ?_
    refine sq_n ?_
    refine wc_cond rfl (fun hc68 => ?_) (fun hc68 => ?_)
    · replace hx := xif_t hc68 hx
      refine wc_seq ?_
      refine wc_region ?_
      refine wv rfl (r_assign rfl) ?_
      refine wl_nil ?_
      refine sq_n ?_
      refine wc_ret ?_
      refine sq_ret ?_
      obtain rfl := Option.some.inj hx
      refine fin_ret [(.int .i64 (-1))] ⟨rfl, trivial⟩ ?_
      replace hM := hM.t0
      have hM := hM.fewer rsN
      exact ⟨(), rfl, hM.gives⟩
    · replace hx := xif_f hc68 hx
      refine wc_skip ?_
      refine sq_n ?_
      refine wc_seq ?_
      refine wc_region ?_
      refine wv rfl (r_fld Try.underlying27 rfl rfl sz25 rfl) ?_
      refine wv rfl (r_ldB Try.underlying25 rfl rfl hM (.head _) rfl) ?_
      refine wv rfl (r_move rfl) ?_
      obtain ⟨r73, h74, hx⟩ := bind_some' hx
      refine w_call rfl rfl (hM.callV fun X S oL hS hR hO => ct_laws_heldSeenS _ X S a.seen s_a_4 r61 hS (hR _ (.head _)) oL h74) ?_
      rintro _ w75 ⟨rfl, hR76⟩
      have hM := hM.call hR76
      refine wv rfl (r_assign rfl) ?_
      refine wl_nil ?_
      refine sq_n ?_
      refine wc_seq ?_
      refine wc_seq ?_
      refine wc_region ?_
      refine wv rfl (r_move rfl) ?_
      refine wv rfl (r_lss rfl rfl) ?_
      refine wl_nil ?_
      refine sq_n ?_
      refine wc_cond rfl (fun hc80 => ?_) (fun hc80 => ?_)
      · replace hx := xif_t hc80 hx
        refine wc_seq ?_
        refine wc_region ?_
        refine wv rfl (r_assign rfl) ?_
        refine wl_nil ?_
        refine sq_n ?_
        refine wc_ret ?_
        refine sq_ret ?_
        obtain rfl := Option.some.inj hx
        refine fin_ret [(.int .i64 (-1))] ⟨rfl, trivial⟩ ?_
        replace hM := hM.t0
        have hM := hM.fewer rsN
        exact ⟨(), rfl, hM.gives⟩
      · replace hx := xif_f hc80 hx
        refine wc_skip ?_
        refine sq_n ?_
        refine wc_seq ?_
        refine wc_region ?_
        refine wv rfl (r_move rfl) ?_
        refine wv rfl (r_assign rfl) ?_
        refine wl_nil ?_
        refine sq_n ?_
        refine wc_ret ?_
        obtain rfl := Option.some.inj hx
        refine fin_ret [(.int .i64 r73)] ⟨rfl, trivial⟩ ?_
        replace hM := hM.t0
        have hM := hM.fewer rsN
        exact ⟨(), rfl, hM.gives⟩

noncomputable def x_laws_FnExactBytesDoc (aName : ByteArray) (aB : List UInt8) : Option Bool :=
  bif decide ((1048576 : Int) < (aName.size : Int)) then (some true) else (bif decide ((1048576 : Int) < (aB.length : Int)) then (some true) else (Option.bind (x_laws_toByteS aB) fun r12 => Option.bind (x_spec_BytesDoc aName r12) fun r17 => Option.bind (x_laws_toByteS aB) fun r37 => Option.bind (x_impl_BytesDoc aName r37) fun r45 => Option.bind (x_laws_eqDoc r45.1 r17.1) fun r66 => Option.bind (bif !r66 then (some true) else (some (!(r45.2 == r17.2)))) fun c72 => bif c72 then (some false) else (Option.bind (x_laws_toByteS aB) fun r83 => Option.bind (x_laws_eqByteS r37 r83) fun r88 => bif !r88 then (some false) else (Option.bind (x_laws_markByteS r37 1) fun r97 => Option.bind (bif decide (r97.1 < 0) then (some true) else (Option.bind (x_laws_eqDoc r45.1 r17.1) fun r115 => some (!r115))) fun c104 => Option.bind (bif c104 then (some true) else (some (!(r45.2 == r17.2)))) fun c121 => bif c121 then (some false) else (Option.bind (x_laws_markDoc r45.1 1) fun r133 => Option.bind (x_laws_heldDoc (⟨r45.1.name, r45.1.from_, r133.2.text, r133.2.list, r133.2.seen⟩ : DDoc) 1) fun r140 => bif decide (r140 < 0) then (some false) else (bif !decide (r140 = r133.1) then (some false) else (Option.bind (x_laws_toByteS aB) fun r154 => Option.bind (x_impl_BytesDoc aName r154) fun r159 => Option.bind (x_laws_eqDoc r159.1 r17.1) fun r180 => Option.bind (bif !r180 then (some true) else (some (!(r159.2 == r17.2)))) fun c186 => bif c186 then (some false) else (Option.bind (x_laws_heldDoc (⟨r45.1.name, r45.1.from_, r133.2.text, r133.2.list, r133.2.seen⟩ : DDoc) 1) fun r198 => bif decide (r198 < 0) then (some false) else (bif !decide (r198 = r133.1) then (some false) else (some true))))))))))
theorem ct_laws_FnExactBytesDoc (w : World) (X S : Bs) (aName : ByteArray) (aB : List UInt8) (s_aB : Sv) (hS : ∀ b, S b → b < w.heap.size ∧ ¬ X b) (a_aB_0 : (cSl 1 fY aB).rd S w s_aB.v) (oL : Sep [] X w) {r : Bool} (hx : x_laws_FnExactBytesDoc aName aB = some r) :
    Ret Try.prog 3 [(.string aName), s_aB.v] w (fun u w' => ∃ _ : Unit, u = (.bool r) ∧ Gives X S w [] [] w') := by
  unfold x_laws_FnExactBytesDoc at hx
  refine enter Try.func3 rfl Try.ntmps3 (by kernel_rfl) rfl ?_
  have hM := St.enter oL hS
  have hM := hM.addE (r := rV s_aB.v (cSl 1 fY aB)) a_aB_0
  refine wc_seq ?_
  refine wc_region ?_
  refine wv rfl (r_assign rfl) ?_
  refine wl_nil ?_
  refine sq_n ?_
  refine wc_seq ?_
  refine wc_seq ?_
  refine wc_region ?_
  refine wv rfl (r_move rfl) ?_
  refine wv rfl (r_lens Try.underlying9 rfl) ?_
  refine wv rfl (r_gtr rfl rfl) ?_
  refine wl_nil ?_
  refine sq_n ?_
  refine wc_cond rfl (fun hc215 => ?_) (fun hc215 => ?_)
  · replace hx := xif_t hc215 hx
    refine wc_seq ?_
    refine wc_region ?_
    refine wv rfl (r_assign rfl) ?_
    refine wl_nil ?_
    refine sq_n ?_
    refine wc_ret ?_
    refine sq_ret ?_
    obtain rfl := Option.some.inj hx
    refine fin_ret [(.bool true)] ⟨rfl, trivial⟩ ?_
    replace hM := hM.t0
    have hM := hM.fewer rsN
    exact ⟨(), rfl, hM.gives⟩
  · replace hx := xif_f hc215 hx
    refine wc_skip ?_
    refine sq_n ?_
    refine wc_seq ?_
    refine wc_seq ?_
    refine wc_region ?_
    refine wv rfl (r_move rfl) ?_
    refine wv rfl (r_lenC Try.underlying22 rfl (hM.seeR (.head _))) ?_
    refine wv rfl (r_gtr rfl rfl) ?_
    refine wl_nil ?_
    refine sq_n ?_
    refine wc_cond rfl (fun hc220 => ?_) (fun hc220 => ?_)
    · replace hx := xif_t hc220 hx
      refine wc_seq ?_
      refine wc_region ?_
      refine wv rfl (r_assign rfl) ?_
      refine wl_nil ?_
      refine sq_n ?_
      refine wc_ret ?_
      refine sq_ret ?_
      obtain rfl := Option.some.inj hx
      refine fin_ret [(.bool true)] ⟨rfl, trivial⟩ ?_
      replace hM := hM.t0
      have hM := hM.fewer rsN
      exact ⟨(), rfl, hM.gives⟩
    · replace hx := xif_f hc220 hx
      refine wc_skip ?_
      refine sq_n ?_
      refine wc_seq ?_
      refine wc_region ?_
      refine wv rfl (r_move rfl) ?_
      refine wv rfl (r_move rfl) ?_
      obtain ⟨r224, h225, hx⟩ := bind_some' hx
      refine w_call rfl rfl (hM.callO (l := []) fun X S oL hS hR hO => ct_laws_toByteS _ X S aB s_aB hS (hR _ (.head _)) oL h225) ?_
      rintro _ w226 ⟨s227, rfl, hM⟩
      replace hM : St ⟨w, X, S⟩ [oC (cSl 1 fY r224) s227.v] [rV s_aB.v (cSl 1 fY aB)] _ := hM
      obtain ⟨r229, h230, hx⟩ := bind_some' hx
      refine w_call rfl rfl (hM.callO (l := []) fun X S oL hS hR hO => ct_spec_BytesDoc _ X S aName r224 s227 hS (seeA hO (.head _)) oL h230) ?_
      rintro _ w231 ⟨⟨s232, s233, s234⟩, rfl, hM⟩
      replace hM : St ⟨w, X, S⟩ [oC (cSl 1 fI r229.1.text) s232.v, oC (cSl 3 fDEntry r229.1.list) s233.v, oC (cSl 3 fDSeen r229.1.seen) s234.v, oC (cSl 1 fY r224) s227.v] [rV s_aB.v (cSl 1 fY aB)] _ := hM
      refine wv rfl (r_move rfl) ?_
      refine wv rfl (r_extract rfl rfl) ?_
      refine wv rfl (r_extract rfl rfl) ?_
      refine w_ex rfl (x_alloc sz27 hM ?_); intro b242 w241 hR243 hM
      replace hM : St ⟨w, X, S⟩ [oBox b242 #[(.string ByteArray.empty), (.int .i64 0), (.slice none 0 0), (.slice none 0 0), (.slice none 0 0)] 27, oC (cSl 1 fI r229.1.text) s232.v, oC (cSl 3 fDEntry r229.1.list) s233.v, oC (cSl 3 fDSeen r229.1.seen) s234.v, oC (cSl 1 fY r224) s227.v] [rV s_aB.v (cSl 1 fY aB)] _ := hM
      refine w_exu (x_stB #[(.string r229.1.name), (.int .i64 r229.1.from_), s232.v, s233.v, s234.v] sz27 rfl rfl rfl rfl rfl rfl hM ?_); intro w245 hM
      refine wv rfl (r_assign rfl) ?_
      refine wl_nil ?_
      refine sq_n ?_
      refine wc_seq ?_
      refine wc_region ?_
      refine wv rfl (r_move rfl) ?_
      obtain ⟨r249, h250, hx⟩ := bind_some' hx
      refine w_call rfl rfl (hM.callO (l := []) fun X S oL hS hR hO => ct_laws_toByteS _ X S aB s_aB hS (hR _ (.head _)) oL h250) ?_
      rintro _ w251 ⟨s252, rfl, hM⟩
      replace hM : St ⟨w, X, S⟩ [oC (cSl 1 fY r249) s252.v, oBox b242 #[(.string r229.1.name), (.int .i64 r229.1.from_), s232.v, s233.v, s234.v] 27, oC (cSl 1 fI r229.1.text) s232.v, oC (cSl 3 fDEntry r229.1.list) s233.v, oC (cSl 3 fDSeen r229.1.seen) s234.v, oC (cSl 1 fY r224) s227.v] [rV s_aB.v (cSl 1 fY aB)] _ := hM
      refine wv rfl (r_assign rfl) ?_
      refine wl_nil ?_
      refine sq_n ?_
      refine wc_seq ?_
      refine wc_region ?_
      refine wv rfl (r_move rfl) ?_
      refine wv rfl (r_move rfl) ?_
      obtain ⟨r257, h258, hx⟩ := bind_some' hx
      refine w_call rfl rfl (hM.callO (l := []) fun X S oL hS hR hO => ct_impl_BytesDoc _ X S aName r249 s252 hS (seeA hO (.head _)) oL h258) ?_
      rintro _ w259 ⟨⟨s260, s261, s262⟩, rfl, hM⟩
      replace hM : St ⟨w, X, S⟩ [oC (cSl 1 fI r257.1.text) s260.v, oC (cSl 3 fDEntry r257.1.list) s261.v, oC (cSl 3 fDSeen r257.1.seen) s262.v, oC (cSl 1 fY r249) s252.v, oBox b242 #[(.string r229.1.name), (.int .i64 r229.1.from_), s232.v, s233.v, s234.v] 27, oC (cSl 1 fI r229.1.text) s232.v, oC (cSl 3 fDEntry r229.1.list) s233.v, oC (cSl 3 fDSeen r229.1.seen) s234.v, oC (cSl 1 fY r224) s227.v] [rV s_aB.v (cSl 1 fY aB)] _ := hM
      refine wv rfl (r_move rfl) ?_
      refine wv rfl (r_extract rfl rfl) ?_
      refine wv rfl (r_extract rfl rfl) ?_
      refine w_ex rfl (x_alloc sz27 hM ?_); intro b270 w269 hR271 hM
      replace hM : St ⟨w, X, S⟩ [oBox b270 #[(.string ByteArray.empty), (.int .i64 0), (.slice none 0 0), (.slice none 0 0), (.slice none 0 0)] 27, oC (cSl 1 fI r257.1.text) s260.v, oC (cSl 3 fDEntry r257.1.list) s261.v, oC (cSl 3 fDSeen r257.1.seen) s262.v, oC (cSl 1 fY r249) s252.v, oBox b242 #[(.string r229.1.name), (.int .i64 r229.1.from_), s232.v, s233.v, s234.v] 27, oC (cSl 1 fI r229.1.text) s232.v, oC (cSl 3 fDEntry r229.1.list) s233.v, oC (cSl 3 fDSeen r229.1.seen) s234.v, oC (cSl 1 fY r224) s227.v] [rV s_aB.v (cSl 1 fY aB)] _ := hM
      refine w_exu (x_stB #[(.string r257.1.name), (.int .i64 r257.1.from_), s260.v, s261.v, s262.v] sz27 rfl rfl rfl rfl rfl rfl hM ?_); intro w273 hM
      refine wv rfl (r_assign rfl) ?_
      refine wl_nil ?_
      refine sq_n ?_
      refine wc_seq ?_
      refine wc_seq ?_
      refine wc_region ?_
      refine wv rfl (r_ldBS Try.underlying27 sz27 rfl (us := [(.string r257.1.name), (.int .i64 r257.1.from_), s260.v, s261.v, s262.v]) rfl hM (.head _) rfl) ?_
      refine wv rfl (r_ldBS Try.underlying27 sz27 rfl (us := [(.string r229.1.name), (.int .i64 r229.1.from_), s232.v, s233.v, s234.v]) rfl hM (.tail _ (.tail _ (.tail _ (.tail _ (.tail _ (.head _)))))) rfl) ?_
      obtain ⟨r278, h279, hx⟩ := bind_some' hx
      refine w_call rfl rfl (hM.callV fun X S oL hS hR hO => ct_laws_eqDoc _ X S r257.1 s260 s261 s262 r229.1 s232 s233 s234 hS (seeA hO (.tail _ (.head _))) (seeA hO (.tail _ (.tail _ (.head _)))) (seeA hO (.tail _ (.tail _ (.tail _ (.head _))))) (seeA hO (.tail _ (.tail _ (.tail _ (.tail _ (.tail _ (.tail _ (.head _)))))))) (seeA hO (.tail _ (.tail _ (.tail _ (.tail _ (.tail _ (.tail _ (.tail _ (.head _))))))))) (seeA hO (.tail _ (.tail _ (.tail _ (.tail _ (.tail _ (.tail _ (.tail _ (.tail _ (.head _)))))))))) oL h279) ?_
      rintro _ w280 ⟨rfl, hR281⟩
      have hM := hM.call hR281
      refine wv rfl (r_not rfl) ?_
      refine wv rfl (r_move rfl) ?_
      obtain ⟨c284, hx, hx289⟩ := bind_some' hx
      refine wl_mid 4 (fun _ : Unit => [(44, (.bool c284)), (0, (.string aName)), (1, s_aB.v), (5, (.pointer (some ⟨b242, 0, none⟩))), (6, (.bool r229.2)), (7, s252.v), (8, (.pointer (some ⟨b270, 0, none⟩))), (9, (.bool r257.2))]) (fun _ w' => St ⟨w, X, S⟩ [oBox b270 #[(.string r257.1.name), (.int .i64 r257.1.from_), s260.v, s261.v, s262.v] 27, oC (cSl 1 fI r257.1.text) s260.v, oC (cSl 3 fDEntry r257.1.list) s261.v, oC (cSl 3 fDSeen r257.1.seen) s262.v, oC (cSl 1 fY r249) s252.v, oBox b242 #[(.string r229.1.name), (.int .i64 r229.1.from_), s232.v, s233.v, s234.v] 27, oC (cSl 1 fI r229.1.text) s232.v, oC (cSl 3 fDEntry r229.1.list) s233.v, oC (cSl 3 fDSeen r229.1.seen) s234.v, oC (cSl 1 fY r224) s227.v] [rV s_aB.v (cSl 1 fY aB)] w') ?_ ?_
      · rcases Bool.eq_false_or_eq_true (!r278) with hg285 | hg285
        · replace hx := xif_t hg285 hx
          refine gs rfl (isB_no hg285) rfl ?_
          refine gs rfl (isB_no hg285) rfl ?_
          refine gs rfl (isB_no hg285) rfl ?_
          refine wv rfl (p_t rfl hg285 rfl) ?_
          obtain rfl := Option.some.inj hx
          exact mid_nil () ⟨rfl, rfl, rfl, rfl, rfl, rfl, rfl, rfl, trivial⟩ hM
        · replace hx := xif_f hg285 hx
          refine gv rfl hg285 rfl (r_move rfl) ?_
          refine gv rfl hg285 rfl (r_move rfl) ?_
          refine gv rfl hg285 rfl (r_neqb Try.underlying4 rfl rfl) ?_
          refine wv rfl (p_f rfl hg285 rfl) ?_
          obtain rfl := Option.some.inj hx
          exact mid_nil () ⟨rfl, rfl, rfl, rfl, rfl, rfl, rfl, rfl, trivial⟩ hM
      rintro _ w293 hM
      replace hx := hx289
      refine wl_nil ?_
      refine sq_n ?_
      refine wc_cond rfl (fun hc294 => ?_) (fun hc294 => ?_)
      · replace hx := xif_t hc294 hx
        refine wc_seq ?_
        refine wc_region ?_
        refine wv rfl (r_assign rfl) ?_
        refine wl_nil ?_
        refine sq_n ?_
        refine wc_ret ?_
        refine sq_ret ?_
        obtain rfl := Option.some.inj hx
        refine fin_ret [(.bool false)] ⟨rfl, trivial⟩ ?_
        replace hM := hM.t0
        have hM := hM.fewer rsN
        exact ⟨(), rfl, hM.gives⟩
      · replace hx := xif_f hc294 hx
        refine wc_skip ?_
        refine sq_n ?_
        refine wc_seq ?_
        refine wc_seq ?_
        refine wc_region ?_
        refine wv rfl (r_move rfl) ?_
        refine wv rfl (r_move rfl) ?_
        obtain ⟨r298, h299, hx⟩ := bind_some' hx
        refine w_call rfl rfl (hM.callO (l := []) fun X S oL hS hR hO => ct_laws_toByteS _ X S aB s_aB hS (hR _ (.head _)) oL h299) ?_
        rintro _ w300 ⟨s301, rfl, hM⟩
        replace hM : St ⟨w, X, S⟩ [oC (cSl 1 fY r298) s301.v, oBox b270 #[(.string r257.1.name), (.int .i64 r257.1.from_), s260.v, s261.v, s262.v] 27, oC (cSl 1 fI r257.1.text) s260.v, oC (cSl 3 fDEntry r257.1.list) s261.v, oC (cSl 3 fDSeen r257.1.seen) s262.v, oC (cSl 1 fY r249) s252.v, oBox b242 #[(.string r229.1.name), (.int .i64 r229.1.from_), s232.v, s233.v, s234.v] 27, oC (cSl 1 fI r229.1.text) s232.v, oC (cSl 3 fDEntry r229.1.list) s233.v, oC (cSl 3 fDSeen r229.1.seen) s234.v, oC (cSl 1 fY r224) s227.v] [rV s_aB.v (cSl 1 fY aB)] _ := hM
        obtain ⟨r303, h304, hx⟩ := bind_some' hx
        refine w_call rfl rfl (hM.callV fun X S oL hS hR hO => ct_laws_eqByteS _ X S r249 s252 r298 s301 hS (seeA hO (.tail _ (.tail _ (.tail _ (.tail _ (.tail _ (.head _))))))) (seeA hO (.head _)) oL h304) ?_
        rintro _ w305 ⟨rfl, hR306⟩
        have hM := hM.call hR306
        refine wv rfl (r_not rfl) ?_
        refine wl_nil ?_
        refine sq_n ?_
        refine wc_cond rfl (fun hc308 => ?_) (fun hc308 => ?_)
        · replace hx := xif_t hc308 hx
          refine wc_seq ?_
          refine wc_region ?_
          refine wv rfl (r_assign rfl) ?_
          refine wl_nil ?_
          refine sq_n ?_
          refine wc_ret ?_
          refine sq_ret ?_
          obtain rfl := Option.some.inj hx
          refine fin_ret [(.bool false)] ⟨rfl, trivial⟩ ?_
          replace hM := hM.t0
          have hM := hM.fewer rsN
          exact ⟨(), rfl, hM.gives⟩
        · replace hx := xif_f hc308 hx
          refine wc_skip ?_
          refine sq_n ?_
          refine wc_seq ?_
          refine wc_region ?_
          refine wv rfl (r_assign rfl) ?_
          refine wl_nil ?_
          refine sq_n ?_
          refine wc_seq ?_
          refine wc_region ?_
          refine wv rfl (r_move rfl) ?_
          refine wv rfl (r_move rfl) ?_
          replace hM := hM.p5
          obtain ⟨r313, h314, hx⟩ := bind_some' hx
          refine w_call rfl rfl (hM.callO (l := [oC (cSl 1 fY r249) s252.v]) fun X S oL hS hR hO => ct_laws_markByteS _ X S r249 s252 (1 : Int) hS  oL h314) ?_
          rintro _ w315 ⟨_, rfl, hM⟩
          replace hM : St ⟨w, X, S⟩ [oC (cSl 1 fY r313.2) s252.v, oC (cSl 1 fY r298) s301.v, oBox b270 #[(.string r257.1.name), (.int .i64 r257.1.from_), s260.v, s261.v, s262.v] 27, oC (cSl 1 fI r257.1.text) s260.v, oC (cSl 3 fDEntry r257.1.list) s261.v, oC (cSl 3 fDSeen r257.1.seen) s262.v, oBox b242 #[(.string r229.1.name), (.int .i64 r229.1.from_), s232.v, s233.v, s234.v] 27, oC (cSl 1 fI r229.1.text) s232.v, oC (cSl 3 fDEntry r229.1.list) s233.v, oC (cSl 3 fDSeen r229.1.seen) s234.v, oC (cSl 1 fY r224) s227.v] [rV s_aB.v (cSl 1 fY aB)] _ := hM
          refine wv rfl (r_assign rfl) ?_
          refine wl_nil ?_
          refine sq_n ?_
          refine wc_seq ?_
          refine wc_seq ?_
          refine wc_region ?_
          refine wv rfl (r_move rfl) ?_
          refine wv rfl (r_lss rfl rfl) ?_
          refine wv rfl (r_move rfl) ?_
          obtain ⟨c320, hx, hx329⟩ := bind_some' hx
          refine wl_mid 5 (fun _ : Unit => [(60, (.bool c320)), (0, (.string aName)), (1, s_aB.v), (5, (.pointer (some ⟨b242, 0, none⟩))), (6, (.bool r229.2)), (8, (.pointer (some ⟨b270, 0, none⟩))), (9, (.bool r257.2))]) (fun _ w' => St ⟨w, X, S⟩ [oC (cSl 1 fY r313.2) s252.v, oC (cSl 1 fY r298) s301.v, oBox b270 #[(.string r257.1.name), (.int .i64 r257.1.from_), s260.v, s261.v, s262.v] 27, oC (cSl 1 fI r257.1.text) s260.v, oC (cSl 3 fDEntry r257.1.list) s261.v, oC (cSl 3 fDSeen r257.1.seen) s262.v, oBox b242 #[(.string r229.1.name), (.int .i64 r229.1.from_), s232.v, s233.v, s234.v] 27, oC (cSl 1 fI r229.1.text) s232.v, oC (cSl 3 fDEntry r229.1.list) s233.v, oC (cSl 3 fDSeen r229.1.seen) s234.v, oC (cSl 1 fY r224) s227.v] [rV s_aB.v (cSl 1 fY aB)] w') ?_ ?_
          · rcases Bool.eq_false_or_eq_true (decide (r313.1 < 0)) with hg321 | hg321
            · replace hx := xif_t hg321 hx
              refine gs rfl (isB_no hg321) rfl ?_
              refine gs rfl (isB_no hg321) rfl ?_
              refine gs rfl (isB_no hg321) rfl ?_
              refine gs rfl (isB_no hg321) rfl ?_
              refine wv rfl (p_t rfl hg321 rfl) ?_
              obtain rfl := Option.some.inj hx
              exact mid_nil () ⟨rfl, rfl, rfl, rfl, rfl, rfl, rfl, trivial⟩ hM
            · replace hx := xif_f hg321 hx
              refine gv rfl hg321 rfl (r_ldBS Try.underlying27 sz27 rfl (us := [(.string r257.1.name), (.int .i64 r257.1.from_), s260.v, s261.v, s262.v]) rfl hM (.tail _ (.tail _ (.head _))) rfl) ?_
              refine gv rfl hg321 rfl (r_ldBS Try.underlying27 sz27 rfl (us := [(.string r229.1.name), (.int .i64 r229.1.from_), s232.v, s233.v, s234.v]) rfl hM (.tail _ (.tail _ (.tail _ (.tail _ (.tail _ (.tail _ (.head _))))))) rfl) ?_
              obtain ⟨r332, h333, hx⟩ := bind_some' hx
              refine gc rfl hg321 rfl rfl (hM.callV fun X S oL hS hR hO => ct_laws_eqDoc _ X S r257.1 s260 s261 s262 r229.1 s232 s233 s234 hS (seeA hO (.tail _ (.tail _ (.tail _ (.head _))))) (seeA hO (.tail _ (.tail _ (.tail _ (.tail _ (.head _)))))) (seeA hO (.tail _ (.tail _ (.tail _ (.tail _ (.tail _ (.head _))))))) (seeA hO (.tail _ (.tail _ (.tail _ (.tail _ (.tail _ (.tail _ (.tail _ (.head _))))))))) (seeA hO (.tail _ (.tail _ (.tail _ (.tail _ (.tail _ (.tail _ (.tail _ (.tail _ (.head _)))))))))) (seeA hO (.tail _ (.tail _ (.tail _ (.tail _ (.tail _ (.tail _ (.tail _ (.tail _ (.tail _ (.head _))))))))))) oL h333) ?_
              rintro _ w334 ⟨rfl, hR335⟩
              have hM := hM.call hR335
              refine gv rfl hg321 rfl (r_not rfl) ?_
              refine wv rfl (p_f rfl hg321 rfl) ?_
              obtain rfl := Option.some.inj hx
              exact mid_nil () ⟨rfl, rfl, rfl, rfl, rfl, rfl, rfl, trivial⟩ hM
          rintro _ w337 hM
          replace hx := hx329
          refine wv rfl (r_move rfl) ?_
          obtain ⟨c339, hx, hx344⟩ := bind_some' hx
          refine wl_mid 4 (fun _ : Unit => [(65, (.bool c339)), (0, (.string aName)), (1, s_aB.v), (5, (.pointer (some ⟨b242, 0, none⟩))), (6, (.bool r229.2)), (8, (.pointer (some ⟨b270, 0, none⟩)))]) (fun _ w' => St ⟨w, X, S⟩ [oC (cSl 1 fY r313.2) s252.v, oC (cSl 1 fY r298) s301.v, oBox b270 #[(.string r257.1.name), (.int .i64 r257.1.from_), s260.v, s261.v, s262.v] 27, oC (cSl 1 fI r257.1.text) s260.v, oC (cSl 3 fDEntry r257.1.list) s261.v, oC (cSl 3 fDSeen r257.1.seen) s262.v, oBox b242 #[(.string r229.1.name), (.int .i64 r229.1.from_), s232.v, s233.v, s234.v] 27, oC (cSl 1 fI r229.1.text) s232.v, oC (cSl 3 fDEntry r229.1.list) s233.v, oC (cSl 3 fDSeen r229.1.seen) s234.v, oC (cSl 1 fY r224) s227.v] [rV s_aB.v (cSl 1 fY aB)] w') ?_ ?_
          · rcases Bool.eq_false_or_eq_true c320 with hg340 | hg340
            · replace hx := xif_t hg340 hx
              refine gs rfl (isB_no hg340) rfl ?_
              refine gs rfl (isB_no hg340) rfl ?_
              refine gs rfl (isB_no hg340) rfl ?_
              refine wv rfl (p_t rfl hg340 rfl) ?_
              obtain rfl := Option.some.inj hx
              exact mid_nil () ⟨rfl, rfl, rfl, rfl, rfl, rfl, trivial⟩ hM
            · replace hx := xif_f hg340 hx
              refine gv rfl hg340 rfl (r_move rfl) ?_
              refine gv rfl hg340 rfl (r_move rfl) ?_
              refine gv rfl hg340 rfl (r_neqb Try.underlying4 rfl rfl) ?_
              refine wv rfl (p_f rfl hg340 rfl) ?_
              obtain rfl := Option.some.inj hx
              exact mid_nil () ⟨rfl, rfl, rfl, rfl, rfl, rfl, trivial⟩ hM
          rintro _ w348 hM
          replace hx := hx344
          refine wl_nil ?_
          refine sq_n ?_
          refine wc_cond rfl (fun hc349 => ?_) (fun hc349 => ?_)
          · replace hx := xif_t hc349 hx
            refine wc_seq ?_
            refine wc_region ?_
            refine wv rfl (r_assign rfl) ?_
            refine wl_nil ?_
            refine sq_n ?_
            refine wc_ret ?_
            refine sq_ret ?_
            obtain rfl := Option.some.inj hx
            refine fin_ret [(.bool false)] ⟨rfl, trivial⟩ ?_
            replace hM := hM.t0
            have hM := hM.fewer rsN
            exact ⟨(), rfl, hM.gives⟩
          · replace hx := xif_f hc349 hx
            refine wc_skip ?_
            refine sq_n ?_
            refine wc_seq ?_
            refine wc_region ?_
            refine wv rfl (r_assign rfl) ?_
            refine wl_nil ?_
            refine sq_n ?_
            refine wc_seq ?_
            refine wc_region ?_
            refine wv rfl (r_ldBS Try.underlying27 sz27 rfl (us := [(.string r257.1.name), (.int .i64 r257.1.from_), s260.v, s261.v, s262.v]) rfl hM (.tail _ (.tail _ (.head _))) rfl) ?_
            refine wv rfl (r_move rfl) ?_
            replace hM := hM.p5.p5.p5
            obtain ⟨r354, h355, hx⟩ := bind_some' hx
            refine w_call rfl rfl (hM.callO (l := [oC (cSl 1 fI r257.1.text) s260.v, oC (cSl 3 fDEntry r257.1.list) s261.v, oC (cSl 3 fDSeen r257.1.seen) s262.v]) fun X S oL hS hR hO => ct_laws_markDoc _ X S r257.1 s260 s261 s262 (1 : Int) hS  oL h355) ?_
            rintro _ w356 ⟨_, rfl, hM⟩
            replace hM : St ⟨w, X, S⟩ [oC (cSl 1 fI r354.2.text) s260.v, oC (cSl 3 fDEntry r354.2.list) s261.v, oC (cSl 3 fDSeen r354.2.seen) s262.v, oC (cSl 1 fY r313.2) s252.v, oC (cSl 1 fY r298) s301.v, oBox b270 #[(.string r257.1.name), (.int .i64 r257.1.from_), s260.v, s261.v, s262.v] 27, oBox b242 #[(.string r229.1.name), (.int .i64 r229.1.from_), s232.v, s233.v, s234.v] 27, oC (cSl 1 fI r229.1.text) s232.v, oC (cSl 3 fDEntry r229.1.list) s233.v, oC (cSl 3 fDSeen r229.1.seen) s234.v, oC (cSl 1 fY r224) s227.v] [rV s_aB.v (cSl 1 fY aB)] _ := hM
            refine wv rfl (r_assign rfl) ?_
            refine wl_nil ?_
            refine sq_n ?_
            refine wc_seq ?_
            refine wc_region ?_
            refine wv rfl (r_assign rfl) ?_
            refine wl_nil ?_
            refine sq_n ?_
            refine wc_seq ?_
            refine wc_region ?_
            refine wv rfl (r_ldBS Try.underlying27 sz27 rfl (us := [(.string r257.1.name), (.int .i64 r257.1.from_), s260.v, s261.v, s262.v]) rfl hM (.tail _ (.tail _ (.tail _ (.tail _ (.tail _ (.head _)))))) rfl) ?_
            refine wv rfl (r_move rfl) ?_
            obtain ⟨r361, h362, hx⟩ := bind_some' hx
            refine w_call rfl rfl (hM.callV fun X S oL hS hR hO => ct_laws_heldDoc _ X S (⟨r257.1.name, r257.1.from_, r354.2.text, r354.2.list, r354.2.seen⟩ : DDoc) s260 s261 s262 (1 : Int) hS (seeA hO (.head _)) (seeA hO (.tail _ (.head _))) (seeA hO (.tail _ (.tail _ (.head _)))) oL h362) ?_
            rintro _ w363 ⟨rfl, hR364⟩
            have hM := hM.call hR364
            refine wv rfl (r_assign rfl) ?_
            refine wl_nil ?_
            refine sq_n ?_
            refine wc_seq ?_
            refine wc_seq ?_
            refine wc_region ?_
            refine wv rfl (r_move rfl) ?_
            refine wv rfl (r_lss rfl rfl) ?_
            refine wl_nil ?_
            refine sq_n ?_
            refine wc_cond rfl (fun hc368 => ?_) (fun hc368 => ?_)
            · replace hx := xif_t hc368 hx
              refine wc_seq ?_
              refine wc_region ?_
              refine wv rfl (r_assign rfl) ?_
              refine wl_nil ?_
              refine sq_n ?_
              refine wc_ret ?_
              refine sq_ret ?_
              obtain rfl := Option.some.inj hx
              refine fin_ret [(.bool false)] ⟨rfl, trivial⟩ ?_
              replace hM := hM.t0
              have hM := hM.fewer rsN
              exact ⟨(), rfl, hM.gives⟩
            · replace hx := xif_f hc368 hx
              refine wc_skip ?_
              refine sq_n ?_
              refine wc_seq ?_
              refine wc_seq ?_
              refine wc_region ?_
              refine wv rfl (r_move rfl) ?_
              refine wv rfl (r_move rfl) ?_
              refine wv rfl (r_neq rfl rfl) ?_
              refine wl_nil ?_
              refine sq_n ?_
              refine wc_cond rfl (fun hc373 => ?_) (fun hc373 => ?_)
              · replace hx := xif_t hc373 hx
                refine wc_seq ?_
                refine wc_region ?_
                refine wv rfl (r_assign rfl) ?_
                refine wl_nil ?_
                refine sq_n ?_
                refine wc_ret ?_
                refine sq_ret ?_
                obtain rfl := Option.some.inj hx
                refine fin_ret [(.bool false)] ⟨rfl, trivial⟩ ?_
                replace hM := hM.t0
                have hM := hM.fewer rsN
                exact ⟨(), rfl, hM.gives⟩
              · replace hx := xif_f hc373 hx
                refine wc_skip ?_
                refine sq_n ?_
                refine wc_seq ?_
                refine wc_region ?_
                refine wv rfl (r_move rfl) ?_
                refine wv rfl (r_move rfl) ?_
                obtain ⟨r377, h378, hx⟩ := bind_some' hx
                refine w_call rfl rfl (hM.callO (l := []) fun X S oL hS hR hO => ct_laws_toByteS _ X S aB s_aB hS (hR _ (.head _)) oL h378) ?_
                rintro _ w379 ⟨s380, rfl, hM⟩
                replace hM : St ⟨w, X, S⟩ [oC (cSl 1 fY r377) s380.v, oC (cSl 1 fI r354.2.text) s260.v, oC (cSl 3 fDEntry r354.2.list) s261.v, oC (cSl 3 fDSeen r354.2.seen) s262.v, oC (cSl 1 fY r313.2) s252.v, oC (cSl 1 fY r298) s301.v, oBox b270 #[(.string r257.1.name), (.int .i64 r257.1.from_), s260.v, s261.v, s262.v] 27, oBox b242 #[(.string r229.1.name), (.int .i64 r229.1.from_), s232.v, s233.v, s234.v] 27, oC (cSl 1 fI r229.1.text) s232.v, oC (cSl 3 fDEntry r229.1.list) s233.v, oC (cSl 3 fDSeen r229.1.seen) s234.v, oC (cSl 1 fY r224) s227.v] [rV s_aB.v (cSl 1 fY aB)] _ := hM
                obtain ⟨r382, h383, hx⟩ := bind_some' hx
                refine w_call rfl rfl (hM.callO (l := []) fun X S oL hS hR hO => ct_impl_BytesDoc _ X S aName r377 s380 hS (seeA hO (.head _)) oL h383) ?_
                rintro _ w384 ⟨⟨s385, s386, s387⟩, rfl, hM⟩
                replace hM : St ⟨w, X, S⟩ [oC (cSl 1 fI r382.1.text) s385.v, oC (cSl 3 fDEntry r382.1.list) s386.v, oC (cSl 3 fDSeen r382.1.seen) s387.v, oC (cSl 1 fY r377) s380.v, oC (cSl 1 fI r354.2.text) s260.v, oC (cSl 3 fDEntry r354.2.list) s261.v, oC (cSl 3 fDSeen r354.2.seen) s262.v, oC (cSl 1 fY r313.2) s252.v, oC (cSl 1 fY r298) s301.v, oBox b270 #[(.string r257.1.name), (.int .i64 r257.1.from_), s260.v, s261.v, s262.v] 27, oBox b242 #[(.string r229.1.name), (.int .i64 r229.1.from_), s232.v, s233.v, s234.v] 27, oC (cSl 1 fI r229.1.text) s232.v, oC (cSl 3 fDEntry r229.1.list) s233.v, oC (cSl 3 fDSeen r229.1.seen) s234.v, oC (cSl 1 fY r224) s227.v] [rV s_aB.v (cSl 1 fY aB)] _ := hM
                refine wv rfl (r_move rfl) ?_
                refine wv rfl (r_extract rfl rfl) ?_
                refine wv rfl (r_extract rfl rfl) ?_
                refine w_ex rfl (x_alloc sz27 hM ?_); intro b395 w394 hR396 hM
                replace hM : St ⟨w, X, S⟩ [oBox b395 #[(.string ByteArray.empty), (.int .i64 0), (.slice none 0 0), (.slice none 0 0), (.slice none 0 0)] 27, oC (cSl 1 fI r382.1.text) s385.v, oC (cSl 3 fDEntry r382.1.list) s386.v, oC (cSl 3 fDSeen r382.1.seen) s387.v, oC (cSl 1 fY r377) s380.v, oC (cSl 1 fI r354.2.text) s260.v, oC (cSl 3 fDEntry r354.2.list) s261.v, oC (cSl 3 fDSeen r354.2.seen) s262.v, oC (cSl 1 fY r313.2) s252.v, oC (cSl 1 fY r298) s301.v, oBox b270 #[(.string r257.1.name), (.int .i64 r257.1.from_), s260.v, s261.v, s262.v] 27, oBox b242 #[(.string r229.1.name), (.int .i64 r229.1.from_), s232.v, s233.v, s234.v] 27, oC (cSl 1 fI r229.1.text) s232.v, oC (cSl 3 fDEntry r229.1.list) s233.v, oC (cSl 3 fDSeen r229.1.seen) s234.v, oC (cSl 1 fY r224) s227.v] [rV s_aB.v (cSl 1 fY aB)] _ := hM
                refine w_exu (x_stB #[(.string r382.1.name), (.int .i64 r382.1.from_), s385.v, s386.v, s387.v] sz27 rfl rfl rfl rfl rfl rfl hM ?_); intro w398 hM
                refine wv rfl (r_assign rfl) ?_
                refine wl_nil ?_
                refine sq_n ?_
                refine wc_seq ?_
                refine wc_seq ?_
                refine wc_region ?_
                refine wv rfl (r_ldBS Try.underlying27 sz27 rfl (us := [(.string r382.1.name), (.int .i64 r382.1.from_), s385.v, s386.v, s387.v]) rfl hM (.head _) rfl) ?_
                refine wv rfl (r_ldBS Try.underlying27 sz27 rfl (us := [(.string r229.1.name), (.int .i64 r229.1.from_), s232.v, s233.v, s234.v]) rfl hM (.tail _ (.tail _ (.tail _ (.tail _ (.tail _ (.tail _ (.tail _ (.tail _ (.tail _ (.tail _ (.tail _ (.head _)))))))))))) rfl) ?_
                obtain ⟨r403, h404, hx⟩ := bind_some' hx
                refine w_call rfl rfl (hM.callV fun X S oL hS hR hO => ct_laws_eqDoc _ X S r382.1 s385 s386 s387 r229.1 s232 s233 s234 hS (seeA hO (.tail _ (.head _))) (seeA hO (.tail _ (.tail _ (.head _)))) (seeA hO (.tail _ (.tail _ (.tail _ (.head _))))) (seeA hO (.tail _ (.tail _ (.tail _ (.tail _ (.tail _ (.tail _ (.tail _ (.tail _ (.tail _ (.tail _ (.tail _ (.tail _ (.head _)))))))))))))) (seeA hO (.tail _ (.tail _ (.tail _ (.tail _ (.tail _ (.tail _ (.tail _ (.tail _ (.tail _ (.tail _ (.tail _ (.tail _ (.tail _ (.head _))))))))))))))) (seeA hO (.tail _ (.tail _ (.tail _ (.tail _ (.tail _ (.tail _ (.tail _ (.tail _ (.tail _ (.tail _ (.tail _ (.tail _ (.tail _ (.tail _ (.head _)))))))))))))))) oL h404) ?_
                rintro _ w405 ⟨rfl, hR406⟩
                have hM := hM.call hR406
                refine wv rfl (r_not rfl) ?_
                refine wv rfl (r_move rfl) ?_
                obtain ⟨c409, hx, hx414⟩ := bind_some' hx
                refine wl_mid 4 (fun _ : Unit => [(92, (.bool c409)), (8, (.pointer (some ⟨b270, 0, none⟩))), (11, (.int .i64 r354.1))]) (fun _ w' => St ⟨w, X, S⟩ [oBox b395 #[(.string r382.1.name), (.int .i64 r382.1.from_), s385.v, s386.v, s387.v] 27, oC (cSl 1 fI r382.1.text) s385.v, oC (cSl 3 fDEntry r382.1.list) s386.v, oC (cSl 3 fDSeen r382.1.seen) s387.v, oC (cSl 1 fY r377) s380.v, oC (cSl 1 fI r354.2.text) s260.v, oC (cSl 3 fDEntry r354.2.list) s261.v, oC (cSl 3 fDSeen r354.2.seen) s262.v, oC (cSl 1 fY r313.2) s252.v, oC (cSl 1 fY r298) s301.v, oBox b270 #[(.string r257.1.name), (.int .i64 r257.1.from_), s260.v, s261.v, s262.v] 27, oBox b242 #[(.string r229.1.name), (.int .i64 r229.1.from_), s232.v, s233.v, s234.v] 27, oC (cSl 1 fI r229.1.text) s232.v, oC (cSl 3 fDEntry r229.1.list) s233.v, oC (cSl 3 fDSeen r229.1.seen) s234.v, oC (cSl 1 fY r224) s227.v] [rV s_aB.v (cSl 1 fY aB)] w') ?_ ?_
                · rcases Bool.eq_false_or_eq_true (!r403) with hg410 | hg410
                  · replace hx := xif_t hg410 hx
                    refine gs rfl (isB_no hg410) rfl ?_
                    refine gs rfl (isB_no hg410) rfl ?_
                    refine gs rfl (isB_no hg410) rfl ?_
                    refine wv rfl (p_t rfl hg410 rfl) ?_
                    obtain rfl := Option.some.inj hx
                    exact mid_nil () ⟨rfl, rfl, rfl, trivial⟩ hM
                  · replace hx := xif_f hg410 hx
                    refine gv rfl hg410 rfl (r_move rfl) ?_
                    refine gv rfl hg410 rfl (r_move rfl) ?_
                    refine gv rfl hg410 rfl (r_neqb Try.underlying4 rfl rfl) ?_
                    refine wv rfl (p_f rfl hg410 rfl) ?_
                    obtain rfl := Option.some.inj hx
                    exact mid_nil () ⟨rfl, rfl, rfl, trivial⟩ hM
                rintro _ w418 hM
                replace hx := hx414
                refine wl_nil ?_
                refine sq_n ?_
                refine wc_cond rfl (fun hc419 => ?_) (fun hc419 => ?_)
                · replace hx := xif_t hc419 hx
                  refine wc_seq ?_
                  refine wc_region ?_
                  refine wv rfl (r_assign rfl) ?_
                  refine wl_nil ?_
                  refine sq_n ?_
                  refine wc_ret ?_
                  refine sq_ret ?_
                  obtain rfl := Option.some.inj hx
                  refine fin_ret [(.bool false)] ⟨rfl, trivial⟩ ?_
                  replace hM := hM.t0
                  have hM := hM.fewer rsN
                  exact ⟨(), rfl, hM.gives⟩
                · replace hx := xif_f hc419 hx
                  refine wc_skip ?_
                  refine sq_n ?_
                  refine wc_seq ?_
                  refine wc_region ?_
                  refine wv rfl (r_assign rfl) ?_
                  refine wl_nil ?_
                  refine sq_n ?_
                  refine wc_seq ?_
                  refine wc_region ?_
                  refine wv rfl (r_ldBS Try.underlying27 sz27 rfl (us := [(.string r257.1.name), (.int .i64 r257.1.from_), s260.v, s261.v, s262.v]) rfl hM (.tail _ (.tail _ (.tail _ (.tail _ (.tail _ (.tail _ (.tail _ (.tail _ (.tail _ (.tail _ (.head _))))))))))) rfl) ?_
                  refine wv rfl (r_move rfl) ?_
                  obtain ⟨r424, h425, hx⟩ := bind_some' hx
                  refine w_call rfl rfl (hM.callV fun X S oL hS hR hO => ct_laws_heldDoc _ X S (⟨r257.1.name, r257.1.from_, r354.2.text, r354.2.list, r354.2.seen⟩ : DDoc) s260 s261 s262 (1 : Int) hS (seeA hO (.tail _ (.tail _ (.tail _ (.tail _ (.tail _ (.head _))))))) (seeA hO (.tail _ (.tail _ (.tail _ (.tail _ (.tail _ (.tail _ (.head _)))))))) (seeA hO (.tail _ (.tail _ (.tail _ (.tail _ (.tail _ (.tail _ (.tail _ (.head _))))))))) oL h425) ?_
                  rintro _ w426 ⟨rfl, hR427⟩
                  have hM := hM.call hR427
                  refine wv rfl (r_assign rfl) ?_
                  refine wl_nil ?_
                  refine sq_n ?_
                  refine wc_seq ?_
                  refine wc_seq ?_
                  refine wc_region ?_
                  refine wv rfl (r_move rfl) ?_
                  refine wv rfl (r_lss rfl rfl) ?_
                  refine wl_nil ?_
                  refine sq_n ?_
                  refine wc_cond rfl (fun hc431 => ?_) (fun hc431 => ?_)
                  · replace hx := xif_t hc431 hx
                    refine wc_seq ?_
                    refine wc_region ?_
                    refine wv rfl (r_assign rfl) ?_
                    refine wl_nil ?_
                    refine sq_n ?_
                    refine wc_ret ?_
                    refine sq_ret ?_
                    obtain rfl := Option.some.inj hx
                    refine fin_ret [(.bool false)] ⟨rfl, trivial⟩ ?_
                    replace hM := hM.t0
                    have hM := hM.fewer rsN
                    exact ⟨(), rfl, hM.gives⟩
                  · replace hx := xif_f hc431 hx
                    refine wc_skip ?_
                    refine sq_n ?_
                    refine wc_seq ?_
                    refine wc_seq ?_
                    refine wc_region ?_
                    refine wv rfl (r_move rfl) ?_
                    refine wv rfl (r_move rfl) ?_
                    refine wv rfl (r_neq rfl rfl) ?_
                    refine wl_nil ?_
                    refine sq_n ?_
                    refine wc_cond rfl (fun hc436 => ?_) (fun hc436 => ?_)
                    · replace hx := xif_t hc436 hx
                      refine wc_seq ?_
                      refine wc_region ?_
                      refine wv rfl (r_assign rfl) ?_
                      refine wl_nil ?_
                      refine sq_n ?_
                      refine wc_ret ?_
                      refine sq_ret ?_
                      obtain rfl := Option.some.inj hx
                      refine fin_ret [(.bool false)] ⟨rfl, trivial⟩ ?_
                      replace hM := hM.t0
                      have hM := hM.fewer rsN
                      exact ⟨(), rfl, hM.gives⟩
                    · replace hx := xif_f hc436 hx
                      refine wc_skip ?_
                      refine sq_n ?_
                      refine wc_seq ?_
                      refine wc_region ?_
                      refine wv rfl (r_assign rfl) ?_
                      refine wl_nil ?_
                      refine sq_n ?_
                      refine wc_ret ?_
                      obtain rfl := Option.some.inj hx
                      refine fin_ret [(.bool true)] ⟨rfl, trivial⟩ ?_
                      replace hM := hM.t0
                      have hM := hM.fewer rsN
                      exact ⟨(), rfl, hM.gives⟩

end Go.Proofs.Ytmcakofnolmhpaa
