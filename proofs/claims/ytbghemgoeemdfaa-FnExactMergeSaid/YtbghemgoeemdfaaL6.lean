/- Walks of functions of this program (printed by a program of ours, by the rules of the layer). No condition. -/
import Derived.Test.YtbghemgoeemdfaaGN
import Derived.Test.YtbghemgoeemdfaaNr
namespace Go.Proofs.Ytbghemgoeemdfaa
open Go.RowKit

noncomputable def x_laws_toIntS_b0 (a : List Int) (i34 : Int) (l35 : List Int) : Option (Lr (Int × List Int) (List Int)) :=
  bif decide (i34 < (a.length : Int)) then (xg (0 ≤ i34 ∧ i34 < (a.length : Int)) <| xg (0 ≤ i34 ∧ i34 < (l35.length : Int)) <| xg (inI (i34 + 1)) <| some (Lr.go (i34 + 1, l35.set i34.toNat (el a i34.toNat)))) else (some (Lr.out l35))
noncomputable def x_laws_toIntS_f0 (a : List Int) (s79 : Int × List Int) : Option (Lr (Int × List Int) (List Int)) := x_laws_toIntS_b0 a s79.1 s79.2
noncomputable def x_laws_toIntS (a : List Int) : Option (List Int) :=
  xg (0 ≤ (a.length : Int) ∧ (a.length : Int) ≤ 1099511627776) <| Option.bind (iter (x_laws_toIntS_f0 a) (0, List.replicate ((a.length : Int).toNat) 0)) fun (y80 : List Int) => some y80
theorem ct_laws_toIntS (w : World) (X S : Bs) (a : List Int) (s_a : Sv) (hS : ∀ b, S b → b < w.heap.size ∧ ¬ X b) (a_a_0 : (cSl 1 fI a).rd S w s_a.v) (oL : Sep [] X w) {r : List Int} (hx : x_laws_toIntS a = some r) :
    Ret Try.prog 14 [s_a.v] w (fun u w' => ∃ y : Sv, u = y.v ∧ Gives X S w [oC (cSl 1 fI r) y.v] [] w') := by
  unfold x_laws_toIntS at hx
  refine enter Try.func14 rfl Try.ntmps14 (by kernel_rfl) rfl ?_
  have hM := St.enter oL hS
  have hM := hM.addE (r := rV s_a.v (cSl 1 fI a)) a_a_0
  refine wc_seq ?_
  refine wc_region ?_
  refine wv rfl (r_assign rfl) ?_
  refine wl_nil ?_
  refine sq_n ?_
  refine wc_seq ?_
  refine wc_region ?_
  refine wv rfl (r_move rfl) ?_
  refine wv rfl (r_lenC Try.underlying22 rfl (hM.seeR (.head _))) ?_
  obtain ⟨hg89, hx⟩ := xg_some hx
  have hk90 : (a.length : Int) = ((a.length : Int).toNat : Int) := by omega
  refine w_ex rfl (x_make (f := fI) (k := ((a.length : Int).toNat)) 0 Try.underlying22 sz3 (fun _ => rfl) (fun _ => zP (pV _ rfl) zN) (by rw [← hk90]; rfl) (by omega) rfl hM ?_); intro s88 w87 hR91 hM
  refine wv rfl (r_assign rfl) ?_
  refine wl_nil ?_
  refine sq_n ?_
  refine wc_seq ?_
  refine wc_seq ?_
  refine wc_region ?_
  refine wv rfl (r_assign rfl) ?_
  refine wl_nil ?_
  refine sq_n ?_
  refine wc_block ?_
  obtain ⟨y95, hx, hx96⟩ := bind_some' hx
  obtain ⟨m101, hx⟩ := iter_run hx
  refine wc_loop (un fun (m99 : Nat) => un fun (i97 : Int) => fun (l98 : List Int) => [(0, s_a.v), (3, s88.v), (4, (.int .i64 i97))]) (un fun (m99 : Nat) => un fun (i97 : Int) => fun (l98 : List Int) w' => St ⟨w, X, S⟩ [oC (cSl 1 fI l98) s88.v] [rV s_a.v (cSl 1 fI a)] w' ∧ iterN _ m99 (i97, l98) = some y95) (fun p => p.1) (m101, 0, List.replicate ((a.length : Int).toNat) 0) ⟨rfl, rfl, rfl, trivial⟩ ⟨hM, hx⟩ ?_
  rintro ⟨m99, i97, l98⟩ w102 ⟨hM, hx⟩
  obtain ⟨m103, z104, rfl, hx, hx105⟩ := iterN_step hx
  unfold x_laws_toIntS_f0 x_laws_toIntS_b0 at hx
  try dsimp only at hx
  refine wc_seq ?_
  refine wc_seq ?_
  refine wc_region ?_
  refine wv rfl (r_move rfl) ?_
  refine wv rfl (r_move rfl) ?_
  refine wv rfl (r_lenC Try.underlying22 rfl (hM.seeR (.head _))) ?_
  refine wv rfl (r_lss rfl rfl) ?_
  refine wl_nil ?_
  refine sq_n ?_
  refine wc_cond rfl (fun hc110 => ?_) (fun hc110 => ?_)
  · replace hx := xif_t hc110 hx
    refine wc_skip ?_
    refine sq_n ?_
    refine wc_seq ?_
    refine wc_block ?_
    refine wc_region ?_
    refine wv rfl (r_move rfl) ?_
    refine wv rfl (r_move rfl) ?_
    refine wv rfl (r_move rfl) ?_
    refine wv rfl (r_move rfl) ?_
    obtain ⟨hg117, hx⟩ := xg_some hx
    have hi116 : i97.toNat < a.length := by omega
    refine wv rfl (r_ixC Try.underlying22 sz3 rfl rfl (hM.seeR (.head _)) hg117) ?_
    refine wv rfl (r_ld Try.underlying3 rfl rfl (Cs.get (i := i97.toNat) (j := 0) (hM.seeR (.head _)) (fun _ => rfl) hi116 rfl)) ?_
    obtain ⟨hg121, hx⟩ := xg_some hx
    have hi120 : i97.toNat < l98.length := by omega
    refine wv rfl (r_ixC Try.underlying22 sz3 rfl rfl (hM.seeO (.head _)) hg121) ?_
    refine w_exu (x_stE (f := fI) (k := 1) (L := l98) (i := i97.toNat) (j := 0) (el a i97.toNat) [cI (el a i97.toNat)] sz3 (fun _ => rfl) rfl rfl hi120 rfl rfl rfl rfl rfl (fun _ => zP (pV _ rfl) zN) hM ?_); intro w122 hM
    refine wl_nil ?_
    refine bk_n ?_
    refine sq_n ?_
    refine wc_region ?_
    refine wv rfl (r_move rfl) ?_
    obtain ⟨hg126, hx⟩ := xg_some hx
    refine wv rfl (r_add rfl rfl hg126) ?_
    refine wv rfl (r_assign rfl) ?_
    refine wl_nil ?_
    obtain rfl := Option.some.inj hx
    exact lp_end (m103, i97 + 1, l98.set i97.toNat (el a i97.toNat)) (Nat.lt_succ_self _) ⟨rfl, rfl, rfl, trivial⟩ ⟨hM, hx105⟩
  · replace hx := xif_f hc110 hx
    refine wc_exit ?_
    refine sq_exit ?_
    refine lp1_exit ?_
    obtain rfl := Option.some.inj hx
    obtain rfl := Option.some.inj hx105
    replace hx := hx96
    try dsimp only [Sum.elim_inl, Sum.elim_inr] at hx
    refine bk_here ?_
    refine sq_n ?_
    refine wc_seq ?_
    refine wc_region ?_
    refine wv rfl (r_move rfl) ?_
    refine wv rfl (r_assign rfl) ?_
    refine wl_nil ?_
    refine sq_n ?_
    refine wc_ret ?_
    obtain rfl := Option.some.inj hx
    refine fin_ret [s88.v] ⟨rfl, trivial⟩ ?_
    replace hM := hM.t1
    have hM := hM.fewer rsN
    exact ⟨s88, rfl, hM.gives⟩

noncomputable def x_laws_eqIntS_b0 (a : List Int) (b : List Int) (i9 : Int) : Option (Lr Int (Sum Unit Unit)) :=
  bif decide (i9 < (a.length : Int)) then (xg (0 ≤ i9 ∧ i9 < (a.length : Int)) <| xg (0 ≤ i9 ∧ i9 < (b.length : Int)) <| bif !decide ((el a i9.toNat) = (el b i9.toNat)) then (some (Lr.out (Sum.inr (())))) else (xg (inI (i9 + 1)) <| some (Lr.go (i9 + 1)))) else (some (Lr.out (Sum.inl ())))
noncomputable def x_laws_eqIntS_f0 (a : List Int) (b : List Int) (s58 : Int) : Option (Lr Int (Sum Unit Unit)) := x_laws_eqIntS_b0 a b s58
noncomputable def x_laws_eqIntS (a : List Int) (b : List Int) : Option Bool :=
  bif !decide ((a.length : Int) = (b.length : Int)) then (some false) else (Option.bind (iter (x_laws_eqIntS_f0 a b) 0) fun (y59 : Sum Unit Unit) => Sum.elim (fun _y60 => some true) (fun _y61 => some false) y59)
theorem ct_laws_eqIntS (w : World) (X S : Bs) (a : List Int) (s_a : Sv) (b : List Int) (s_b : Sv) (hS : ∀ b, S b → b < w.heap.size ∧ ¬ X b) (a_a_0 : (cSl 1 fI a).rd S w s_a.v) (a_b_0 : (cSl 1 fI b).rd S w s_b.v) (oL : Sep [] X w) {r : Bool} (hx : x_laws_eqIntS a b = some r) :
    Ret Try.prog 16 [s_a.v, s_b.v] w (fun u w' => ∃ _ : Unit, u = (.bool r) ∧ Gives X S w [] [] w') := by
  unfold x_laws_eqIntS at hx
  refine enter Try.func16 rfl Try.ntmps16 (by kernel_rfl) rfl ?_
  have hM := St.enter oL hS
  have hM := hM.addE (r := rV s_a.v (cSl 1 fI a)) a_a_0
  have hM := hM.addE (r := rV s_b.v (cSl 1 fI b)) a_b_0
  refine wc_seq ?_
  refine wc_region ?_
  refine wv rfl (r_assign rfl) ?_
  refine wl_nil ?_
  refine sq_n ?_
  refine wc_seq ?_
  refine wc_seq ?_
  refine wc_region ?_
  refine wv rfl (r_move rfl) ?_
  refine wv rfl (r_lenC Try.underlying22 rfl (hM.seeR (.tail _ (.head _)))) ?_
  refine wv rfl (r_move rfl) ?_
  refine wv rfl (r_lenC Try.underlying22 rfl (hM.seeR (.head _))) ?_
  refine wv rfl (r_neq rfl rfl) ?_
  refine wl_nil ?_
  refine sq_n ?_
  refine wc_cond rfl (fun hc69 => ?_) (fun hc69 => ?_)
  · replace hx := xif_t hc69 hx
    refine wc_seq ?_
    refine wc_region ?_
    refine wv rfl (r_assign rfl) ?_
    refine wl_nil ?_
    refine sq_n ?_
    refine wc_ret ?_
    refine sq_ret ?_
    obtain rfl := Option.some.inj hx
    refine fin_ret [(.bool false)] ⟨rfl, trivial⟩ ?_
    replace hM := hM.t0
    have hM := hM.fewer rsN
    exact ⟨(), rfl, hM.gives⟩
  · replace hx := xif_f hc69 hx
    refine wc_skip ?_
    refine sq_n ?_
    refine wc_seq ?_
    refine wc_seq ?_
    refine wc_region ?_
    refine wv rfl (r_assign rfl) ?_
    refine wl_nil ?_
    refine sq_n ?_
    refine wc_block ?_
    obtain ⟨y72, hx, hx73⟩ := bind_some' hx
    have hM := hM.fewer (rsC (.tail _ (.head _)) (rsC (.head _) rsN))
    replace hM : St ⟨w, X, S⟩ [] [rV s_a.v (cSl 1 fI a), rV s_b.v (cSl 1 fI b)] _ := hM
    obtain ⟨m77, hx⟩ := iter_run hx
    refine wc_loop (un fun (m75 : Nat) => fun (i74 : Int) => [(0, s_a.v), (1, s_b.v), (5, (.int .i64 i74))]) (un fun (m75 : Nat) => fun (i74 : Int) w' => St ⟨w, X, S⟩ [] [rV s_a.v (cSl 1 fI a), rV s_b.v (cSl 1 fI b)] w' ∧ iterN _ m75 i74 = some y72) (fun p => p.1) (m77, 0) ⟨rfl, rfl, rfl, trivial⟩ ⟨hM, hx⟩ ?_
    rintro ⟨m75, i74⟩ w78 ⟨hM, hx⟩
    obtain ⟨m79, z80, rfl, hx, hx81⟩ := iterN_step hx
    unfold x_laws_eqIntS_f0 x_laws_eqIntS_b0 at hx
    try dsimp only at hx
    refine wc_seq ?_
    refine wc_seq ?_
    refine wc_region ?_
    refine wv rfl (r_move rfl) ?_
    refine wv rfl (r_move rfl) ?_
    refine wv rfl (r_lenC Try.underlying22 rfl (hM.seeR (.head _))) ?_
    refine wv rfl (r_lss rfl rfl) ?_
    refine wl_nil ?_
    refine sq_n ?_
    refine wc_cond rfl (fun hc86 => ?_) (fun hc86 => ?_)
    · replace hx := xif_t hc86 hx
      refine wc_skip ?_
      refine sq_n ?_
      refine wc_seq ?_
      refine wc_block ?_
      refine wc_seq ?_
      refine wc_draw [(0, 0), (1, 0), (2, 0), (3, 0), (4, 0), (5, 0), (6, 0), (7, 0), (8, 0)] Try_mixed (by kernel_rfl) rfl (by kernel_rfl) rfl ?_
      refine ov rfl (fun w' h' => r_move rfl) ?_
      refine ov rfl (fun w' h' => r_move rfl) ?_
      obtain ⟨hg91, hx⟩ := xg_some hx
      have hi90 : i74.toNat < a.length := by omega
      refine ov rfl (fun w' h' => r_ixC Try.underlying22 sz3 rfl rfl ((hM.call h').seeR (.head _)) hg91) ?_
      refine ov rfl (fun w' h' => r_ld Try.underlying3 rfl rfl (Cs.get (i := i74.toNat) (j := 0) ((hM.call h').seeR (.head _)) (fun _ => rfl) hi90 rfl)) ?_
      refine ov rfl (fun w' h' => r_move rfl) ?_
      refine ov rfl (fun w' h' => r_move rfl) ?_
      obtain ⟨hg97, hx⟩ := xg_some hx
      have hi96 : i74.toNat < b.length := by omega
      refine ov rfl (fun w' h' => r_ixC Try.underlying22 sz3 rfl rfl ((hM.call h').seeR (.tail _ (.head _))) hg97) ?_
      refine ov rfl (fun w' h' => r_ld Try.underlying3 rfl rfl (Cs.get (i := i74.toNat) (j := 0) ((hM.call h').seeR (.tail _ (.head _))) (fun _ => rfl) hi96 rfl)) ?_
      refine ov rfl (fun w' h' => r_neq rfl rfl) ?_
      refine o_nil fun w100 hw101 => ?_
      have hM := hM.call hw101
      refine sq_n ?_
      refine wc_cond rfl (fun hc102 => ?_) (fun hc102 => ?_)
      · replace hx := xif_t hc102 hx
        refine wc_seq ?_
        refine wc_region ?_
        refine wv rfl (r_assign rfl) ?_
        refine wl_nil ?_
        refine sq_n ?_
        refine wc_ret ?_
        refine bk_ret ?_
        refine sq_ret ?_
        refine lp1_ret ?_
        obtain rfl := Option.some.inj hx
        obtain rfl := Option.some.inj hx81
        replace hx := hx73
        try dsimp only [Sum.elim_inl, Sum.elim_inr] at hx
        refine bk_ret ?_
        refine sq_ret ?_
        obtain rfl := Option.some.inj hx
        refine fin_ret [(.bool false)] ⟨rfl, trivial⟩ ?_
        replace hM := hM.t0
        have hM := hM.fewer rsN
        exact ⟨(), rfl, hM.gives⟩
      · replace hx := xif_f hc102 hx
        refine wc_skip ?_
        refine bk_n ?_
        refine sq_n ?_
        refine wc_region ?_
        refine wv rfl (r_move rfl) ?_
        obtain ⟨hg106, hx⟩ := xg_some hx
        refine wv rfl (r_add rfl rfl hg106) ?_
        refine wv rfl (r_assign rfl) ?_
        refine wl_nil ?_
        obtain rfl := Option.some.inj hx
        exact lp_end (m79, i74 + 1) (Nat.lt_succ_self _) ⟨rfl, rfl, rfl, trivial⟩ ⟨hM, hx81⟩
    · replace hx := xif_f hc86 hx
      refine wc_exit ?_
      refine sq_exit ?_
      refine lp1_exit ?_
      obtain rfl := Option.some.inj hx
      obtain rfl := Option.some.inj hx81
      replace hx := hx73
      try dsimp only [Sum.elim_inl, Sum.elim_inr] at hx
      refine bk_here ?_
      refine sq_n ?_
      refine wc_seq ?_
      refine wc_region ?_
      refine wv rfl (r_assign rfl) ?_
      refine wl_nil ?_
      refine sq_n ?_
      refine wc_ret ?_
      obtain rfl := Option.some.inj hx
      refine fin_ret [(.bool true)] ⟨rfl, trivial⟩ ?_
      replace hM := hM.t0
      have hM := hM.fewer rsN
      exact ⟨(), rfl, hM.gives⟩

noncomputable def x_laws_markIntS_b0 (k26 : Int) (i27 : Int) (l28 : List Int) : Option (Lr (Int × Int × List Int) (Int × List Int)) :=
  bif decide (i27 < (l28.length : Int)) then (xg (0 ≤ i27 ∧ i27 < (l28.length : Int)) <| xg (inI (k26 + 1)) <| xg (inI (i27 + 1)) <| some (Lr.go (k26 + 1, i27 + 1, l28.set i27.toNat k26))) else (some (Lr.out (k26, l28)))
noncomputable def x_laws_markIntS_f0 (s70 : Int × Int × List Int) : Option (Lr (Int × Int × List Int) (Int × List Int)) := x_laws_markIntS_b0 s70.1 s70.2.1 s70.2.2
noncomputable def x_laws_markIntS (a : List Int) (k : Int) : Option (Int × List Int) :=
  Option.bind (iter (x_laws_markIntS_f0) (k, 0, a)) fun (y71 : Int × List Int) => some (y71.1, y71.2)
theorem ct_laws_markIntS (w : World) (X S : Bs) (a : List Int) (s_a : Sv) (k : Int) (hS : ∀ b, S b → b < w.heap.size ∧ ¬ X b)  (oL : Sep [oC (cSl 1 fI a) s_a.v] X w) {r : Int × List Int} (hx : x_laws_markIntS a k = some r) :
    Ret Try.prog 17 [s_a.v, (.int .i64 k)] w (fun u w' => ∃ _ : Unit, u = (.int .i64 r.1) ∧ Gives X S w [oC (cSl 1 fI r.2) s_a.v] [] w') := by
  unfold x_laws_markIntS at hx
  refine enter Try.func17 rfl Try.ntmps17 (by kernel_rfl) rfl ?_
  have hM := St.enter oL hS
  refine wc_seq ?_
  refine wc_region ?_
  refine wv rfl (r_assign rfl) ?_
  refine wl_nil ?_
  refine sq_n ?_
  refine wc_seq ?_
  refine wc_seq ?_
  refine wc_region ?_
  refine wv rfl (r_assign rfl) ?_
  refine wl_nil ?_
  refine sq_n ?_
  refine wc_block ?_
  obtain ⟨y77, hx, hx78⟩ := bind_some' hx
  obtain ⟨m84, hx⟩ := iter_run hx
  refine wc_loop (un fun (m82 : Nat) => un fun (k79 : Int) => un fun (i80 : Int) => fun (l81 : List Int) => [(0, s_a.v), (1, (.int .i64 k79)), (5, (.int .i64 i80))]) (un fun (m82 : Nat) => un fun (k79 : Int) => un fun (i80 : Int) => fun (l81 : List Int) w' => St ⟨w, X, S⟩ [oC (cSl 1 fI l81) s_a.v] [] w' ∧ iterN _ m82 (k79, i80, l81) = some y77) (fun p => p.1) (m84, k, 0, a) ⟨rfl, rfl, rfl, trivial⟩ ⟨hM, hx⟩ ?_
  rintro ⟨m82, k79, i80, l81⟩ w85 ⟨hM, hx⟩
  obtain ⟨m86, z87, rfl, hx, hx88⟩ := iterN_step hx
  unfold x_laws_markIntS_f0 x_laws_markIntS_b0 at hx
  try dsimp only at hx
  refine wc_seq ?_
  refine wc_seq ?_
  refine wc_region ?_
  refine wv rfl (r_move rfl) ?_
  refine wv rfl (r_move rfl) ?_
  refine wv rfl (r_lenC Try.underlying22 rfl (hM.seeO (.head _))) ?_
  refine wv rfl (r_lss rfl rfl) ?_
  refine wl_nil ?_
  refine sq_n ?_
  refine wc_cond rfl (fun hc93 => ?_) (fun hc93 => ?_)
  · replace hx := xif_t hc93 hx
    refine wc_skip ?_
    refine sq_n ?_
    refine wc_seq ?_
    refine wc_block ?_
    refine wc_seq ?_
    refine wc_region ?_
    refine wv rfl (r_move rfl) ?_
    refine wv rfl (r_move rfl) ?_
    refine wv rfl (r_move rfl) ?_
    obtain ⟨hg99, hx⟩ := xg_some hx
    have hi98 : i80.toNat < l81.length := by omega
    refine wv rfl (r_ixC Try.underlying22 sz3 rfl rfl (hM.seeO (.head _)) hg99) ?_
    refine w_exu (x_stE (f := fI) (k := 1) (L := l81) (i := i80.toNat) (j := 0) k79 [cI k79] sz3 (fun _ => rfl) rfl rfl hi98 rfl rfl rfl rfl rfl (fun _ => zP (pV _ rfl) zN) hM ?_); intro w100 hM
    refine wl_nil ?_
    refine sq_n ?_
    refine wc_region ?_
    refine wv rfl (r_move rfl) ?_
    obtain ⟨hg104, hx⟩ := xg_some hx
    refine wv rfl (r_add rfl rfl hg104) ?_
    refine wv rfl (r_assign rfl) ?_
    refine wl_nil ?_
    refine bk_n ?_
    refine sq_n ?_
    refine wc_region ?_
    refine wv rfl (r_move rfl) ?_
    obtain ⟨hg108, hx⟩ := xg_some hx
    refine wv rfl (r_add rfl rfl hg108) ?_
    refine wv rfl (r_assign rfl) ?_
    refine wl_nil ?_
    obtain rfl := Option.some.inj hx
    exact lp_end (m86, k79 + 1, i80 + 1, l81.set i80.toNat k79) (Nat.lt_succ_self _) ⟨rfl, rfl, rfl, trivial⟩ ⟨hM, hx88⟩
  · replace hx := xif_f hc93 hx
    refine wc_exit ?_
    refine sq_exit ?_
    refine lp1_exit ?_
    obtain rfl := Option.some.inj hx
    obtain rfl := Option.some.inj hx88
    replace hx := hx78
    try dsimp only [Sum.elim_inl, Sum.elim_inr] at hx
    refine bk_here ?_
    refine sq_n ?_
    refine wc_seq ?_
    refine wc_region ?_
    refine wv rfl (r_move rfl) ?_
    refine wv rfl (r_assign rfl) ?_
    refine wl_nil ?_
    refine sq_n ?_
    refine wc_ret ?_
    obtain rfl := Option.some.inj hx
    refine fin_ret [(.int .i64 k79)] ⟨rfl, trivial⟩ ?_
    replace hM := hM.t1
    have hM := hM.fewer rsN
    exact ⟨(), rfl, hM.gives⟩

noncomputable def x_laws_heldIntS_b0 (a : List Int) (k3 : Int) (i4 : Int) : Option (Lr (Int × Int) (Sum Int Int)) :=
  bif decide (i4 < (a.length : Int)) then (xg (0 ≤ i4 ∧ i4 < (a.length : Int)) <| bif !decide ((el a i4.toNat) = k3) then (some (Lr.out (Sum.inr (-1)))) else (xg (inI (k3 + 1)) <| xg (inI (i4 + 1)) <| some (Lr.go (k3 + 1, i4 + 1)))) else (some (Lr.out (Sum.inl k3)))
noncomputable def x_laws_heldIntS_f0 (a : List Int) (s47 : Int × Int) : Option (Lr (Int × Int) (Sum Int Int)) := x_laws_heldIntS_b0 a s47.1 s47.2
noncomputable def x_laws_heldIntS (a : List Int) (k : Int) : Option Int :=
  Option.bind (iter (x_laws_heldIntS_f0 a) (k, 0)) fun (y48 : Sum Int Int) => Sum.elim (fun y49 => some y49) (fun y50 => some y50) y48
theorem ct_laws_heldIntS (w : World) (X S : Bs) (a : List Int) (s_a : Sv) (k : Int) (hS : ∀ b, S b → b < w.heap.size ∧ ¬ X b) (a_a_0 : (cSl 1 fI a).rd S w s_a.v) (oL : Sep [] X w) {r : Int} (hx : x_laws_heldIntS a k = some r) :
    Ret Try.prog 18 [s_a.v, (.int .i64 k)] w (fun u w' => ∃ _ : Unit, u = (.int .i64 r) ∧ Gives X S w [] [] w') := by
  unfold x_laws_heldIntS at hx
  refine enter Try.func18 rfl Try.ntmps18 (by kernel_rfl) rfl ?_
  have hM := St.enter oL hS
  have hM := hM.addE (r := rV s_a.v (cSl 1 fI a)) a_a_0
  refine wc_seq ?_
  refine wc_region ?_
  refine wv rfl (r_assign rfl) ?_
  refine wl_nil ?_
  refine sq_n ?_
  refine wc_seq ?_
  refine wc_seq ?_
  refine wc_region ?_
  refine wv rfl (r_assign rfl) ?_
  refine wl_nil ?_
  refine sq_n ?_
  refine wc_block ?_
  obtain ⟨y55, hx, hx56⟩ := bind_some' hx
  obtain ⟨m61, hx⟩ := iter_run hx
  refine wc_loop (un fun (m59 : Nat) => un fun (k57 : Int) => fun (i58 : Int) => [(0, s_a.v), (1, (.int .i64 k57)), (5, (.int .i64 i58))]) (un fun (m59 : Nat) => un fun (k57 : Int) => fun (i58 : Int) w' => St ⟨w, X, S⟩ [] [rV s_a.v (cSl 1 fI a)] w' ∧ iterN _ m59 (k57, i58) = some y55) (fun p => p.1) (m61, k, 0) ⟨rfl, rfl, rfl, trivial⟩ ⟨hM, hx⟩ ?_
  rintro ⟨m59, k57, i58⟩ w62 ⟨hM, hx⟩
  obtain ⟨m63, z64, rfl, hx, hx65⟩ := iterN_step hx
  unfold x_laws_heldIntS_f0 x_laws_heldIntS_b0 at hx
  try dsimp only at hx
  refine wc_seq ?_
  refine wc_seq ?_
  refine wc_region ?_
  refine wv rfl (r_move rfl) ?_
  refine wv rfl (r_move rfl) ?_
  refine wv rfl (r_lenC Try.underlying22 rfl (hM.seeR (.head _))) ?_
  refine wv rfl (r_lss rfl rfl) ?_
  refine wl_nil ?_
  refine sq_n ?_
  refine wc_cond rfl (fun hc70 => ?_) (fun hc70 => ?_)
  · replace hx := xif_t hc70 hx
    refine wc_skip ?_
    refine sq_n ?_
    refine wc_seq ?_
    refine wc_block ?_
    refine wc_seq ?_
    refine wc_seq ?_
    refine wc_region ?_
    refine wv rfl (r_move rfl) ?_
    refine wv rfl (r_move rfl) ?_
    obtain ⟨hg75, hx⟩ := xg_some hx
    have hi74 : i58.toNat < a.length := by omega
    refine wv rfl (r_ixC Try.underlying22 sz3 rfl rfl (hM.seeR (.head _)) hg75) ?_
    refine wv rfl (r_ld Try.underlying3 rfl rfl (Cs.get (i := i58.toNat) (j := 0) (hM.seeR (.head _)) (fun _ => rfl) hi74 rfl)) ?_
    refine wv rfl (r_move rfl) ?_
    refine wv rfl (r_neq rfl rfl) ?_
    refine wl_nil ?_
    refine sq_n ?_
    refine wc_cond rfl (fun hc79 => ?_) (fun hc79 => ?_)
    · replace hx := xif_t hc79 hx
      refine wc_seq ?_
      refine wc_region ?_
      refine wv rfl (r_assign rfl) ?_
      refine wl_nil ?_
      refine sq_n ?_
      refine wc_ret ?_
      refine sq_ret ?_
      refine bk_ret ?_
      refine sq_ret ?_
      refine lp1_ret ?_
      obtain rfl := Option.some.inj hx
      obtain rfl := Option.some.inj hx65
      replace hx := hx56
      try dsimp only [Sum.elim_inl, Sum.elim_inr] at hx
      refine bk_ret ?_
      refine sq_ret ?_
      obtain rfl := Option.some.inj hx
      refine fin_ret [(.int .i64 (-1))] ⟨rfl, trivial⟩ ?_
      replace hM := hM.t0
      have hM := hM.fewer rsN
      exact ⟨(), rfl, hM.gives⟩
    · replace hx := xif_f hc79 hx
      refine wc_skip ?_
      refine sq_n ?_
      refine wc_region ?_
      refine wv rfl (r_move rfl) ?_
      obtain ⟨hg83, hx⟩ := xg_some hx
      refine wv rfl (r_add rfl rfl hg83) ?_
      refine wv rfl (r_assign rfl) ?_
      refine wl_nil ?_
      refine bk_n ?_
      refine sq_n ?_
      refine wc_region ?_
      refine wv rfl (r_move rfl) ?_
      obtain ⟨hg87, hx⟩ := xg_some hx
      refine wv rfl (r_add rfl rfl hg87) ?_
      refine wv rfl (r_assign rfl) ?_
      refine wl_nil ?_
      obtain rfl := Option.some.inj hx
      exact lp_end (m63, k57 + 1, i58 + 1) (Nat.lt_succ_self _) ⟨rfl, rfl, rfl, trivial⟩ ⟨hM, hx65⟩
  · replace hx := xif_f hc70 hx
    refine wc_exit ?_
    refine sq_exit ?_
    refine lp1_exit ?_
    obtain rfl := Option.some.inj hx
    obtain rfl := Option.some.inj hx65
    replace hx := hx56
    try dsimp only [Sum.elim_inl, Sum.elim_inr] at hx
    refine bk_here ?_
    refine sq_n ?_
    refine wc_seq ?_
    refine wc_region ?_
    refine wv rfl (r_move rfl) ?_
    refine wv rfl (r_assign rfl) ?_
    refine wl_nil ?_
    refine sq_n ?_
    refine wc_ret ?_
    obtain rfl := Option.some.inj hx
    refine fin_ret [(.int .i64 k57)] ⟨rfl, trivial⟩ ?_
    replace hM := hM.t0
    have hM := hM.fewer rsN
    exact ⟨(), rfl, hM.gives⟩

noncomputable def x_laws_FnExactMerge (aT : List Int) (aA : List Int) (aB : List Int) : Option Bool :=
  bif decide ((1048576 : Int) < (aT.length : Int)) then (some true) else (bif decide ((1048576 : Int) < (aA.length : Int)) then (some true) else (bif decide ((1048576 : Int) < (aB.length : Int)) then (some true) else (Option.bind (x_laws_toIntS aT) fun r15 => Option.bind (x_laws_toIntS aA) fun r21 => Option.bind (x_laws_toIntS aB) fun r27 => Option.bind (x_spec_Merge r15 r21 r27) fun r32 => Option.bind (x_laws_toIntS aT) fun r43 => Option.bind (x_laws_toIntS aA) fun r50 => Option.bind (x_laws_toIntS aB) fun r57 => Option.bind (x_impl_Merge r43 r50 r57) fun r66 => Option.bind (x_laws_eqIntS r66.1 r32.1) fun r78 => Option.bind (bif !r78 then (some true) else (some (!(r66.2 == r32.2)))) fun c84 => bif c84 then (some false) else (Option.bind (x_laws_toIntS aT) fun r95 => Option.bind (x_laws_eqIntS r43 r95) fun r100 => bif !r100 then (some false) else (Option.bind (x_laws_toIntS aA) fun r108 => Option.bind (x_laws_eqIntS r50 r108) fun r113 => bif !r113 then (some false) else (Option.bind (x_laws_toIntS aB) fun r121 => Option.bind (x_laws_eqIntS r57 r121) fun r126 => bif !r126 then (some false) else (Option.bind (x_laws_markIntS r43 1) fun r135 => Option.bind (x_laws_markIntS r50 r135.1) fun r141 => Option.bind (x_laws_markIntS r57 r141.1) fun r147 => Option.bind (bif decide (r147.1 < 0) then (some true) else (Option.bind (x_laws_eqIntS r66.1 r32.1) fun r165 => some (!r165))) fun c154 => Option.bind (bif c154 then (some true) else (some (!(r66.2 == r32.2)))) fun c171 => bif c171 then (some false) else (Option.bind (x_laws_markIntS r66.1 1) fun r183 => Option.bind (x_laws_heldIntS r183.2 1) fun r190 => bif decide (r190 < 0) then (some false) else (bif !decide (r190 = r183.1) then (some false) else (Option.bind (x_laws_toIntS aT) fun r203 => Option.bind (x_laws_toIntS aA) fun r209 => Option.bind (x_laws_toIntS aB) fun r215 => Option.bind (x_impl_Merge r203 r209 r215) fun r220 => Option.bind (x_laws_eqIntS r220.1 r32.1) fun r232 => Option.bind (bif !r232 then (some true) else (some (!(r220.2 == r32.2)))) fun c238 => bif c238 then (some false) else (Option.bind (x_laws_heldIntS r183.2 1) fun r250 => bif decide (r250 < 0) then (some false) else (bif !decide (r250 = r183.1) then (some false) else (some true)))))))))))))
theorem ct_laws_FnExactMerge (w : World) (X S : Bs) (aT : List Int) (s_aT : Sv) (aA : List Int) (s_aA : Sv) (aB : List Int) (s_aB : Sv) (hS : ∀ b, S b → b < w.heap.size ∧ ¬ X b) (a_aT_0 : (cSl 1 fI aT).rd S w s_aT.v) (a_aA_0 : (cSl 1 fI aA).rd S w s_aA.v) (a_aB_0 : (cSl 1 fI aB).rd S w s_aB.v) (oL : Sep [] X w) {r : Bool} (hx : x_laws_FnExactMerge aT aA aB = some r) :
    Ret Try.prog 3 [s_aT.v, s_aA.v, s_aB.v] w (fun u w' => ∃ _ : Unit, u = (.bool r) ∧ Gives X S w [] [] w') := by
  unfold x_laws_FnExactMerge at hx
  refine enter Try.func3 rfl Try.ntmps3 (by kernel_rfl) rfl ?_
  have hM := St.enter oL hS
  have hM := hM.addE (r := rV s_aT.v (cSl 1 fI aT)) a_aT_0
  have hM := hM.addE (r := rV s_aA.v (cSl 1 fI aA)) a_aA_0
  have hM := hM.addE (r := rV s_aB.v (cSl 1 fI aB)) a_aB_0
  refine wc_seq ?_
  refine wc_region ?_
  refine wv rfl (r_assign rfl) ?_
  refine wl_nil ?_
  refine sq_n ?_
  refine wc_seq ?_
  refine wc_seq ?_
  refine wc_region ?_
  refine wv rfl (r_move rfl) ?_
  refine wv rfl (r_lenC Try.underlying22 rfl (hM.seeR (.tail _ (.tail _ (.head _))))) ?_
  refine wv rfl (r_gtr rfl rfl) ?_
  refine wl_nil ?_
  refine sq_n ?_
  refine wc_cond rfl (fun hc267 => ?_) (fun hc267 => ?_)
  · replace hx := xif_t hc267 hx
    refine wc_seq ?_
    refine wc_region ?_
    refine wv rfl (r_assign rfl) ?_
    refine wl_nil ?_
    refine sq_n ?_
    refine wc_ret ?_
    refine sq_ret ?_
    obtain rfl := Option.some.inj hx
    refine fin_ret [(.bool true)] ⟨rfl, trivial⟩ ?_
    replace hM := hM.t0
    have hM := hM.fewer rsN
    exact ⟨(), rfl, hM.gives⟩
  · replace hx := xif_f hc267 hx
    refine wc_skip ?_
    refine sq_n ?_
    refine wc_seq ?_
    refine wc_seq ?_
    refine wc_region ?_
    refine wv rfl (r_move rfl) ?_
    refine wv rfl (r_lenC Try.underlying22 rfl (hM.seeR (.tail _ (.head _)))) ?_
    refine wv rfl (r_gtr rfl rfl) ?_
    refine wl_nil ?_
    refine sq_n ?_
    refine wc_cond rfl (fun hc272 => ?_) (fun hc272 => ?_)
    · replace hx := xif_t hc272 hx
      refine wc_seq ?_
      refine wc_region ?_
      refine wv rfl (r_assign rfl) ?_
      refine wl_nil ?_
      refine sq_n ?_
      refine wc_ret ?_
      refine sq_ret ?_
      obtain rfl := Option.some.inj hx
      refine fin_ret [(.bool true)] ⟨rfl, trivial⟩ ?_
      replace hM := hM.t0
      have hM := hM.fewer rsN
      exact ⟨(), rfl, hM.gives⟩
    · replace hx := xif_f hc272 hx
      refine wc_skip ?_
      refine sq_n ?_
      refine wc_seq ?_
      refine wc_seq ?_
      refine wc_region ?_
      refine wv rfl (r_move rfl) ?_
      refine wv rfl (r_lenC Try.underlying22 rfl (hM.seeR (.head _))) ?_
      refine wv rfl (r_gtr rfl rfl) ?_
      refine wl_nil ?_
      refine sq_n ?_
      refine wc_cond rfl (fun hc277 => ?_) (fun hc277 => ?_)
      · replace hx := xif_t hc277 hx
        refine wc_seq ?_
        refine wc_region ?_
        refine wv rfl (r_assign rfl) ?_
        refine wl_nil ?_
        refine sq_n ?_
        refine wc_ret ?_
        refine sq_ret ?_
        obtain rfl := Option.some.inj hx
        refine fin_ret [(.bool true)] ⟨rfl, trivial⟩ ?_
        replace hM := hM.t0
        have hM := hM.fewer rsN
        exact ⟨(), rfl, hM.gives⟩
      · replace hx := xif_f hc277 hx
        refine wc_skip ?_
        refine sq_n ?_
        refine wc_seq ?_
        refine wc_region ?_
        refine wv rfl (r_move rfl) ?_
        obtain ⟨r280, h281, hx⟩ := bind_some' hx
        refine w_call rfl rfl (hM.callO (l := []) fun X S oL hS hR hO => ct_laws_toIntS _ X S aT s_aT hS (hR _ (.tail _ (.tail _ (.head _)))) oL h281) ?_
        rintro _ w282 ⟨s283, rfl, hM⟩
        replace hM : St ⟨w, X, S⟩ [oC (cSl 1 fI r280) s283.v] [rV s_aB.v (cSl 1 fI aB), rV s_aA.v (cSl 1 fI aA), rV s_aT.v (cSl 1 fI aT)] _ := hM
        refine wv rfl (r_move rfl) ?_
        obtain ⟨r286, h287, hx⟩ := bind_some' hx
        refine w_call rfl rfl (hM.callO (l := []) fun X S oL hS hR hO => ct_laws_toIntS _ X S aA s_aA hS (hR _ (.tail _ (.head _))) oL h287) ?_
        rintro _ w288 ⟨s289, rfl, hM⟩
        replace hM : St ⟨w, X, S⟩ [oC (cSl 1 fI r286) s289.v, oC (cSl 1 fI r280) s283.v] [rV s_aB.v (cSl 1 fI aB), rV s_aA.v (cSl 1 fI aA), rV s_aT.v (cSl 1 fI aT)] _ := hM
        refine wv rfl (r_move rfl) ?_
        obtain ⟨r292, h293, hx⟩ := bind_some' hx
        refine w_call rfl rfl (hM.callO (l := []) fun X S oL hS hR hO => ct_laws_toIntS _ X S aB s_aB hS (hR _ (.head _)) oL h293) ?_
        rintro _ w294 ⟨s295, rfl, hM⟩
        replace hM : St ⟨w, X, S⟩ [oC (cSl 1 fI r292) s295.v, oC (cSl 1 fI r286) s289.v, oC (cSl 1 fI r280) s283.v] [rV s_aB.v (cSl 1 fI aB), rV s_aA.v (cSl 1 fI aA), rV s_aT.v (cSl 1 fI aT)] _ := hM
        obtain ⟨r297, h298, hx⟩ := bind_some' hx
        refine w_call rfl rfl (hM.callO (l := []) fun X S oL hS hR hO => ct_spec_Merge _ X S r280 s283 r286 s289 r292 s295 hS (seeA hO (.tail _ (.tail _ (.head _)))) (seeA hO (.tail _ (.head _))) (seeA hO (.head _)) oL h298) ?_
        rintro _ w299 ⟨s300, rfl, hM⟩
        replace hM : St ⟨w, X, S⟩ [oC (cSl 1 fI r297.1) s300.v, oC (cSl 1 fI r292) s295.v, oC (cSl 1 fI r286) s289.v, oC (cSl 1 fI r280) s283.v] [rV s_aB.v (cSl 1 fI aB), rV s_aA.v (cSl 1 fI aA), rV s_aT.v (cSl 1 fI aT)] _ := hM
        refine wv rfl (r_move rfl) ?_
        refine wv rfl (r_extract rfl rfl) ?_
        refine wv rfl (r_extract rfl rfl) ?_
        refine wv rfl (r_assign rfl) ?_
        refine wv rfl (r_assign rfl) ?_
        refine wl_nil ?_
        refine sq_n ?_
        refine wc_seq ?_
        refine wc_region ?_
        refine wv rfl (r_move rfl) ?_
        obtain ⟨r308, h309, hx⟩ := bind_some' hx
        refine w_call rfl rfl (hM.callO (l := []) fun X S oL hS hR hO => ct_laws_toIntS _ X S aT s_aT hS (hR _ (.tail _ (.tail _ (.head _)))) oL h309) ?_
        rintro _ w310 ⟨s311, rfl, hM⟩
        replace hM : St ⟨w, X, S⟩ [oC (cSl 1 fI r308) s311.v, oC (cSl 1 fI r297.1) s300.v, oC (cSl 1 fI r292) s295.v, oC (cSl 1 fI r286) s289.v, oC (cSl 1 fI r280) s283.v] [rV s_aB.v (cSl 1 fI aB), rV s_aA.v (cSl 1 fI aA), rV s_aT.v (cSl 1 fI aT)] _ := hM
        refine wv rfl (r_assign rfl) ?_
        refine wl_nil ?_
        refine sq_n ?_
        refine wc_seq ?_
        refine wc_region ?_
        refine wv rfl (r_move rfl) ?_
        obtain ⟨r315, h316, hx⟩ := bind_some' hx
        refine w_call rfl rfl (hM.callO (l := []) fun X S oL hS hR hO => ct_laws_toIntS _ X S aA s_aA hS (hR _ (.tail _ (.head _))) oL h316) ?_
        rintro _ w317 ⟨s318, rfl, hM⟩
        replace hM : St ⟨w, X, S⟩ [oC (cSl 1 fI r315) s318.v, oC (cSl 1 fI r308) s311.v, oC (cSl 1 fI r297.1) s300.v, oC (cSl 1 fI r292) s295.v, oC (cSl 1 fI r286) s289.v, oC (cSl 1 fI r280) s283.v] [rV s_aB.v (cSl 1 fI aB), rV s_aA.v (cSl 1 fI aA), rV s_aT.v (cSl 1 fI aT)] _ := hM
        refine wv rfl (r_assign rfl) ?_
        refine wl_nil ?_
        refine sq_n ?_
        refine wc_seq ?_
        refine wc_region ?_
        refine wv rfl (r_move rfl) ?_
        obtain ⟨r322, h323, hx⟩ := bind_some' hx
        refine w_call rfl rfl (hM.callO (l := []) fun X S oL hS hR hO => ct_laws_toIntS _ X S aB s_aB hS (hR _ (.head _)) oL h323) ?_
        rintro _ w324 ⟨s325, rfl, hM⟩
        replace hM : St ⟨w, X, S⟩ [oC (cSl 1 fI r322) s325.v, oC (cSl 1 fI r315) s318.v, oC (cSl 1 fI r308) s311.v, oC (cSl 1 fI r297.1) s300.v, oC (cSl 1 fI r292) s295.v, oC (cSl 1 fI r286) s289.v, oC (cSl 1 fI r280) s283.v] [rV s_aB.v (cSl 1 fI aB), rV s_aA.v (cSl 1 fI aA), rV s_aT.v (cSl 1 fI aT)] _ := hM
        refine wv rfl (r_assign rfl) ?_
        refine wl_nil ?_
        refine sq_n ?_
        refine wc_seq ?_
        refine wc_region ?_
        refine wv rfl (r_move rfl) ?_
        refine wv rfl (r_move rfl) ?_
        refine wv rfl (r_move rfl) ?_
        obtain ⟨r331, h332, hx⟩ := bind_some' hx
        refine w_call rfl rfl (hM.callO (l := []) fun X S oL hS hR hO => ct_impl_Merge _ X S r308 s311 r315 s318 r322 s325 hS (seeA hO (.tail _ (.tail _ (.head _)))) (seeA hO (.tail _ (.head _))) (seeA hO (.head _)) oL h332) ?_
        rintro _ w333 ⟨s334, rfl, hM⟩
        replace hM : St ⟨w, X, S⟩ [oC (cSl 1 fI r331.1) s334.v, oC (cSl 1 fI r322) s325.v, oC (cSl 1 fI r315) s318.v, oC (cSl 1 fI r308) s311.v, oC (cSl 1 fI r297.1) s300.v, oC (cSl 1 fI r292) s295.v, oC (cSl 1 fI r286) s289.v, oC (cSl 1 fI r280) s283.v] [rV s_aB.v (cSl 1 fI aB), rV s_aA.v (cSl 1 fI aA), rV s_aT.v (cSl 1 fI aT)] _ := hM
        refine wv rfl (r_move rfl) ?_
        refine wv rfl (r_extract rfl rfl) ?_
        refine wv rfl (r_extract rfl rfl) ?_
        refine wv rfl (r_assign rfl) ?_
        refine wv rfl (r_assign rfl) ?_
        refine wl_nil ?_
        refine sq_n ?_
        refine wc_seq ?_
        refine wc_seq ?_
        refine wc_region ?_
        refine wv rfl (r_move rfl) ?_
        refine wv rfl (r_move rfl) ?_
        obtain ⟨r343, h344, hx⟩ := bind_some' hx
        refine w_call rfl rfl (hM.callV fun X S oL hS hR hO => ct_laws_eqIntS _ X S r331.1 s334 r297.1 s300 hS (seeA hO (.head _)) (seeA hO (.tail _ (.tail _ (.tail _ (.tail _ (.head _)))))) oL h344) ?_
        rintro _ w345 ⟨rfl, hR346⟩
        have hM := hM.call hR346
        refine wv rfl (r_not rfl) ?_
        refine wv rfl (r_move rfl) ?_
        obtain ⟨c349, hx, hx354⟩ := bind_some' hx
        refine wl_mid 4 (fun _ : Unit => [(59, (.bool c349)), (0, s_aT.v), (1, s_aA.v), (2, s_aB.v), (7, s300.v), (8, (.bool r297.2)), (9, s311.v), (10, s318.v), (11, s325.v), (12, s334.v), (13, (.bool r331.2))]) (fun _ w' => St ⟨w, X, S⟩ [oC (cSl 1 fI r331.1) s334.v, oC (cSl 1 fI r322) s325.v, oC (cSl 1 fI r315) s318.v, oC (cSl 1 fI r308) s311.v, oC (cSl 1 fI r297.1) s300.v, oC (cSl 1 fI r292) s295.v, oC (cSl 1 fI r286) s289.v, oC (cSl 1 fI r280) s283.v] [rV s_aB.v (cSl 1 fI aB), rV s_aA.v (cSl 1 fI aA), rV s_aT.v (cSl 1 fI aT)] w') ?_ ?_
        · rcases Bool.eq_false_or_eq_true (!r343) with hg350 | hg350
          · replace hx := xif_t hg350 hx
            refine gs rfl (isB_no hg350) rfl ?_
            refine gs rfl (isB_no hg350) rfl ?_
            refine gs rfl (isB_no hg350) rfl ?_
            refine wv rfl (p_t rfl hg350 rfl) ?_
            obtain rfl := Option.some.inj hx
            exact mid_nil () ⟨rfl, rfl, rfl, rfl, rfl, rfl, rfl, rfl, rfl, rfl, rfl, trivial⟩ hM
          · replace hx := xif_f hg350 hx
            refine gv rfl hg350 rfl (r_move rfl) ?_
            refine gv rfl hg350 rfl (r_move rfl) ?_
            refine gv rfl hg350 rfl (r_neqb Try.underlying4 rfl rfl) ?_
            refine wv rfl (p_f rfl hg350 rfl) ?_
            obtain rfl := Option.some.inj hx
            exact mid_nil () ⟨rfl, rfl, rfl, rfl, rfl, rfl, rfl, rfl, rfl, rfl, rfl, trivial⟩ hM
        rintro _ w358 hM
        replace hx := hx354
        refine wl_nil ?_
        refine sq_n ?_
        refine wc_cond rfl (fun hc359 => ?_) (fun hc359 => ?_)
        · replace hx := xif_t hc359 hx
          refine wc_seq ?_
          refine wc_region ?_
          refine wv rfl (r_assign rfl) ?_
          refine wl_nil ?_
          refine sq_n ?_
          refine wc_ret ?_
          refine sq_ret ?_
          obtain rfl := Option.some.inj hx
          refine fin_ret [(.bool false)] ⟨rfl, trivial⟩ ?_
          replace hM := hM.t0
          have hM := hM.fewer rsN
          exact ⟨(), rfl, hM.gives⟩
        · replace hx := xif_f hc359 hx
          refine wc_skip ?_
          refine sq_n ?_
          refine wc_seq ?_
          refine wc_seq ?_
          refine wc_region ?_
          refine wv rfl (r_move rfl) ?_
          refine wv rfl (r_move rfl) ?_
          obtain ⟨r363, h364, hx⟩ := bind_some' hx
          refine w_call rfl rfl (hM.callO (l := []) fun X S oL hS hR hO => ct_laws_toIntS _ X S aT s_aT hS (hR _ (.tail _ (.tail _ (.head _)))) oL h364) ?_
          rintro _ w365 ⟨s366, rfl, hM⟩
          replace hM : St ⟨w, X, S⟩ [oC (cSl 1 fI r363) s366.v, oC (cSl 1 fI r331.1) s334.v, oC (cSl 1 fI r322) s325.v, oC (cSl 1 fI r315) s318.v, oC (cSl 1 fI r308) s311.v, oC (cSl 1 fI r297.1) s300.v, oC (cSl 1 fI r292) s295.v, oC (cSl 1 fI r286) s289.v, oC (cSl 1 fI r280) s283.v] [rV s_aB.v (cSl 1 fI aB), rV s_aA.v (cSl 1 fI aA), rV s_aT.v (cSl 1 fI aT)] _ := hM
          obtain ⟨r368, h369, hx⟩ := bind_some' hx
          refine w_call rfl rfl (hM.callV fun X S oL hS hR hO => ct_laws_eqIntS _ X S r308 s311 r363 s366 hS (seeA hO (.tail _ (.tail _ (.tail _ (.tail _ (.head _)))))) (seeA hO (.head _)) oL h369) ?_
          rintro _ w370 ⟨rfl, hR371⟩
          have hM := hM.call hR371
          refine wv rfl (r_not rfl) ?_
          refine wl_nil ?_
          refine sq_n ?_
          refine wc_cond rfl (fun hc373 => ?_) (fun hc373 => ?_)
          · replace hx := xif_t hc373 hx
            refine wc_seq ?_
            refine wc_region ?_
            refine wv rfl (r_assign rfl) ?_
            refine wl_nil ?_
            refine sq_n ?_
            refine wc_ret ?_
            refine sq_ret ?_
            obtain rfl := Option.some.inj hx
            refine fin_ret [(.bool false)] ⟨rfl, trivial⟩ ?_
            replace hM := hM.t0
            have hM := hM.fewer rsN
            exact ⟨(), rfl, hM.gives⟩
          · replace hx := xif_f hc373 hx
            refine wc_skip ?_
            refine sq_n ?_
            refine wc_seq ?_
            refine wc_seq ?_
            refine wc_region ?_
            refine wv rfl (r_move rfl) ?_
            refine wv rfl (r_move rfl) ?_
            obtain ⟨r377, h378, hx⟩ := bind_some' hx
            refine w_call rfl rfl (hM.callO (l := []) fun X S oL hS hR hO => ct_laws_toIntS _ X S aA s_aA hS (hR _ (.tail _ (.head _))) oL h378) ?_
            rintro _ w379 ⟨s380, rfl, hM⟩
            replace hM : St ⟨w, X, S⟩ [oC (cSl 1 fI r377) s380.v, oC (cSl 1 fI r363) s366.v, oC (cSl 1 fI r331.1) s334.v, oC (cSl 1 fI r322) s325.v, oC (cSl 1 fI r315) s318.v, oC (cSl 1 fI r308) s311.v, oC (cSl 1 fI r297.1) s300.v, oC (cSl 1 fI r292) s295.v, oC (cSl 1 fI r286) s289.v, oC (cSl 1 fI r280) s283.v] [rV s_aB.v (cSl 1 fI aB), rV s_aA.v (cSl 1 fI aA), rV s_aT.v (cSl 1 fI aT)] _ := hM
            obtain ⟨r382, h383, hx⟩ := bind_some' hx
            refine w_call rfl rfl (hM.callV fun X S oL hS hR hO => ct_laws_eqIntS _ X S r315 s318 r377 s380 hS (seeA hO (.tail _ (.tail _ (.tail _ (.tail _ (.head _)))))) (seeA hO (.head _)) oL h383) ?_
            rintro _ w384 ⟨rfl, hR385⟩
            have hM := hM.call hR385
            refine wv rfl (r_not rfl) ?_
            refine wl_nil ?_
            refine sq_n ?_
            refine wc_cond rfl (fun hc387 => ?_) (fun hc387 => ?_)
            · replace hx := xif_t hc387 hx
              refine wc_seq ?_
              refine wc_region ?_
              refine wv rfl (r_assign rfl) ?_
              refine wl_nil ?_
              refine sq_n ?_
              refine wc_ret ?_
              refine sq_ret ?_
              obtain rfl := Option.some.inj hx
              refine fin_ret [(.bool false)] ⟨rfl, trivial⟩ ?_
              replace hM := hM.t0
              have hM := hM.fewer rsN
              exact ⟨(), rfl, hM.gives⟩
            · replace hx := xif_f hc387 hx
              refine wc_skip ?_
              refine sq_n ?_
              refine wc_seq ?_
              refine wc_seq ?_
              refine wc_region ?_
              refine wv rfl (r_move rfl) ?_
              refine wv rfl (r_move rfl) ?_
              obtain ⟨r391, h392, hx⟩ := bind_some' hx
              refine w_call rfl rfl (hM.callO (l := []) fun X S oL hS hR hO => ct_laws_toIntS _ X S aB s_aB hS (hR _ (.head _)) oL h392) ?_
              rintro _ w393 ⟨s394, rfl, hM⟩
              replace hM : St ⟨w, X, S⟩ [oC (cSl 1 fI r391) s394.v, oC (cSl 1 fI r377) s380.v, oC (cSl 1 fI r363) s366.v, oC (cSl 1 fI r331.1) s334.v, oC (cSl 1 fI r322) s325.v, oC (cSl 1 fI r315) s318.v, oC (cSl 1 fI r308) s311.v, oC (cSl 1 fI r297.1) s300.v, oC (cSl 1 fI r292) s295.v, oC (cSl 1 fI r286) s289.v, oC (cSl 1 fI r280) s283.v] [rV s_aB.v (cSl 1 fI aB), rV s_aA.v (cSl 1 fI aA), rV s_aT.v (cSl 1 fI aT)] _ := hM
              obtain ⟨r396, h397, hx⟩ := bind_some' hx
              refine w_call rfl rfl (hM.callV fun X S oL hS hR hO => ct_laws_eqIntS _ X S r322 s325 r391 s394 hS (seeA hO (.tail _ (.tail _ (.tail _ (.tail _ (.head _)))))) (seeA hO (.head _)) oL h397) ?_
              rintro _ w398 ⟨rfl, hR399⟩
              have hM := hM.call hR399
              refine wv rfl (r_not rfl) ?_
              refine wl_nil ?_
              refine sq_n ?_
              refine wc_cond rfl (fun hc401 => ?_) (fun hc401 => ?_)
              · replace hx := xif_t hc401 hx
                refine wc_seq ?_
                refine wc_region ?_
                refine wv rfl (r_assign rfl) ?_
                refine wl_nil ?_
                refine sq_n ?_
                refine wc_ret ?_
                refine sq_ret ?_
                obtain rfl := Option.some.inj hx
                refine fin_ret [(.bool false)] ⟨rfl, trivial⟩ ?_
                replace hM := hM.t0
                have hM := hM.fewer rsN
                exact ⟨(), rfl, hM.gives⟩
              · replace hx := xif_f hc401 hx
                refine wc_skip ?_
                refine sq_n ?_
                refine wc_seq ?_
                refine wc_region ?_
                refine wv rfl (r_assign rfl) ?_
                refine wl_nil ?_
                refine sq_n ?_
                refine wc_seq ?_
                refine wc_region ?_
                refine wv rfl (r_move rfl) ?_
                refine wv rfl (r_move rfl) ?_
                replace hM := hM.p6
                obtain ⟨r406, h407, hx⟩ := bind_some' hx
                refine w_call rfl rfl (hM.callO (l := [oC (cSl 1 fI r308) s311.v]) fun X S oL hS hR hO => ct_laws_markIntS _ X S r308 s311 (1 : Int) hS  oL h407) ?_
                rintro _ w408 ⟨_, rfl, hM⟩
                replace hM : St ⟨w, X, S⟩ [oC (cSl 1 fI r406.2) s311.v, oC (cSl 1 fI r391) s394.v, oC (cSl 1 fI r377) s380.v, oC (cSl 1 fI r363) s366.v, oC (cSl 1 fI r331.1) s334.v, oC (cSl 1 fI r322) s325.v, oC (cSl 1 fI r315) s318.v, oC (cSl 1 fI r297.1) s300.v, oC (cSl 1 fI r292) s295.v, oC (cSl 1 fI r286) s289.v, oC (cSl 1 fI r280) s283.v] [rV s_aB.v (cSl 1 fI aB), rV s_aA.v (cSl 1 fI aA), rV s_aT.v (cSl 1 fI aT)] _ := hM
                refine wv rfl (r_assign rfl) ?_
                refine wl_nil ?_
                refine sq_n ?_
                refine wc_seq ?_
                refine wc_region ?_
                refine wv rfl (r_move rfl) ?_
                refine wv rfl (r_move rfl) ?_
                replace hM := hM.p6
                obtain ⟨r412, h413, hx⟩ := bind_some' hx
                refine w_call rfl rfl (hM.callO (l := [oC (cSl 1 fI r315) s318.v]) fun X S oL hS hR hO => ct_laws_markIntS _ X S r315 s318 r406.1 hS  oL h413) ?_
                rintro _ w414 ⟨_, rfl, hM⟩
                replace hM : St ⟨w, X, S⟩ [oC (cSl 1 fI r412.2) s318.v, oC (cSl 1 fI r406.2) s311.v, oC (cSl 1 fI r391) s394.v, oC (cSl 1 fI r377) s380.v, oC (cSl 1 fI r363) s366.v, oC (cSl 1 fI r331.1) s334.v, oC (cSl 1 fI r322) s325.v, oC (cSl 1 fI r297.1) s300.v, oC (cSl 1 fI r292) s295.v, oC (cSl 1 fI r286) s289.v, oC (cSl 1 fI r280) s283.v] [rV s_aB.v (cSl 1 fI aB), rV s_aA.v (cSl 1 fI aA), rV s_aT.v (cSl 1 fI aT)] _ := hM
                refine wv rfl (r_assign rfl) ?_
                refine wl_nil ?_
                refine sq_n ?_
                refine wc_seq ?_
                refine wc_region ?_
                refine wv rfl (r_move rfl) ?_
                refine wv rfl (r_move rfl) ?_
                replace hM := hM.p6
                obtain ⟨r418, h419, hx⟩ := bind_some' hx
                refine w_call rfl rfl (hM.callO (l := [oC (cSl 1 fI r322) s325.v]) fun X S oL hS hR hO => ct_laws_markIntS _ X S r322 s325 r412.1 hS  oL h419) ?_
                rintro _ w420 ⟨_, rfl, hM⟩
                replace hM : St ⟨w, X, S⟩ [oC (cSl 1 fI r418.2) s325.v, oC (cSl 1 fI r412.2) s318.v, oC (cSl 1 fI r406.2) s311.v, oC (cSl 1 fI r391) s394.v, oC (cSl 1 fI r377) s380.v, oC (cSl 1 fI r363) s366.v, oC (cSl 1 fI r331.1) s334.v, oC (cSl 1 fI r297.1) s300.v, oC (cSl 1 fI r292) s295.v, oC (cSl 1 fI r286) s289.v, oC (cSl 1 fI r280) s283.v] [rV s_aB.v (cSl 1 fI aB), rV s_aA.v (cSl 1 fI aA), rV s_aT.v (cSl 1 fI aT)] _ := hM
                refine wv rfl (r_assign rfl) ?_
                refine wl_nil ?_
                refine sq_n ?_
                refine wc_seq ?_
                refine wc_seq ?_
                refine wc_region ?_
                refine wv rfl (r_move rfl) ?_
                refine wv rfl (r_lss rfl rfl) ?_
                refine wv rfl (r_move rfl) ?_
                obtain ⟨c425, hx, hx434⟩ := bind_some' hx
                refine wl_mid 5 (fun _ : Unit => [(91, (.bool c425)), (0, s_aT.v), (1, s_aA.v), (2, s_aB.v), (7, s300.v), (8, (.bool r297.2)), (12, s334.v), (13, (.bool r331.2))]) (fun _ w' => St ⟨w, X, S⟩ [oC (cSl 1 fI r418.2) s325.v, oC (cSl 1 fI r412.2) s318.v, oC (cSl 1 fI r406.2) s311.v, oC (cSl 1 fI r391) s394.v, oC (cSl 1 fI r377) s380.v, oC (cSl 1 fI r363) s366.v, oC (cSl 1 fI r331.1) s334.v, oC (cSl 1 fI r297.1) s300.v, oC (cSl 1 fI r292) s295.v, oC (cSl 1 fI r286) s289.v, oC (cSl 1 fI r280) s283.v] [rV s_aB.v (cSl 1 fI aB), rV s_aA.v (cSl 1 fI aA), rV s_aT.v (cSl 1 fI aT)] w') ?_ ?_
                · rcases Bool.eq_false_or_eq_true (decide (r418.1 < 0)) with hg426 | hg426
                  · replace hx := xif_t hg426 hx
                    refine gs rfl (isB_no hg426) rfl ?_
                    refine gs rfl (isB_no hg426) rfl ?_
                    refine gs rfl (isB_no hg426) rfl ?_
                    refine gs rfl (isB_no hg426) rfl ?_
                    refine wv rfl (p_t rfl hg426 rfl) ?_
                    obtain rfl := Option.some.inj hx
                    exact mid_nil () ⟨rfl, rfl, rfl, rfl, rfl, rfl, rfl, rfl, trivial⟩ hM
                  · replace hx := xif_f hg426 hx
                    refine gv rfl hg426 rfl (r_move rfl) ?_
                    refine gv rfl hg426 rfl (r_move rfl) ?_
                    obtain ⟨r437, h438, hx⟩ := bind_some' hx
                    refine gc rfl hg426 rfl rfl (hM.callV fun X S oL hS hR hO => ct_laws_eqIntS _ X S r331.1 s334 r297.1 s300 hS (seeA hO (.tail _ (.tail _ (.tail _ (.tail _ (.tail _ (.tail _ (.head _)))))))) (seeA hO (.tail _ (.tail _ (.tail _ (.tail _ (.tail _ (.tail _ (.tail _ (.head _))))))))) oL h438) ?_
                    rintro _ w439 ⟨rfl, hR440⟩
                    have hM := hM.call hR440
                    refine gv rfl hg426 rfl (r_not rfl) ?_
                    refine wv rfl (p_f rfl hg426 rfl) ?_
                    obtain rfl := Option.some.inj hx
                    exact mid_nil () ⟨rfl, rfl, rfl, rfl, rfl, rfl, rfl, rfl, trivial⟩ hM
                rintro _ w442 hM
                replace hx := hx434
                refine wv rfl (r_move rfl) ?_
                obtain ⟨c444, hx, hx449⟩ := bind_some' hx
                refine wl_mid 4 (fun _ : Unit => [(96, (.bool c444)), (0, s_aT.v), (1, s_aA.v), (2, s_aB.v), (7, s300.v), (8, (.bool r297.2)), (12, s334.v)]) (fun _ w' => St ⟨w, X, S⟩ [oC (cSl 1 fI r418.2) s325.v, oC (cSl 1 fI r412.2) s318.v, oC (cSl 1 fI r406.2) s311.v, oC (cSl 1 fI r391) s394.v, oC (cSl 1 fI r377) s380.v, oC (cSl 1 fI r363) s366.v, oC (cSl 1 fI r331.1) s334.v, oC (cSl 1 fI r297.1) s300.v, oC (cSl 1 fI r292) s295.v, oC (cSl 1 fI r286) s289.v, oC (cSl 1 fI r280) s283.v] [rV s_aB.v (cSl 1 fI aB), rV s_aA.v (cSl 1 fI aA), rV s_aT.v (cSl 1 fI aT)] w') ?_ ?_
                · rcases Bool.eq_false_or_eq_true c425 with hg445 | hg445
                  · replace hx := xif_t hg445 hx
                    refine gs rfl (isB_no hg445) rfl ?_
                    refine gs rfl (isB_no hg445) rfl ?_
                    refine gs rfl (isB_no hg445) rfl ?_
                    refine wv rfl (p_t rfl hg445 rfl) ?_
                    obtain rfl := Option.some.inj hx
                    exact mid_nil () ⟨rfl, rfl, rfl, rfl, rfl, rfl, rfl, trivial⟩ hM
                  · replace hx := xif_f hg445 hx
                    refine gv rfl hg445 rfl (r_move rfl) ?_
                    refine gv rfl hg445 rfl (r_move rfl) ?_
                    refine gv rfl hg445 rfl (r_neqb Try.underlying4 rfl rfl) ?_
                    refine wv rfl (p_f rfl hg445 rfl) ?_
                    obtain rfl := Option.some.inj hx
                    exact mid_nil () ⟨rfl, rfl, rfl, rfl, rfl, rfl, rfl, trivial⟩ hM
                rintro _ w453 hM
                replace hx := hx449
                refine wl_nil ?_
                refine sq_n ?_
                refine wc_cond rfl (fun hc454 => ?_) (fun hc454 => ?_)
                · replace hx := xif_t hc454 hx
                  refine wc_seq ?_
                  refine wc_region ?_
                  refine wv rfl (r_assign rfl) ?_
                  refine wl_nil ?_
                  refine sq_n ?_
                  refine wc_ret ?_
                  refine sq_ret ?_
                  obtain rfl := Option.some.inj hx
                  refine fin_ret [(.bool false)] ⟨rfl, trivial⟩ ?_
                  replace hM := hM.t0
                  have hM := hM.fewer rsN
                  exact ⟨(), rfl, hM.gives⟩
                · replace hx := xif_f hc454 hx
                  refine wc_skip ?_
                  refine sq_n ?_
                  refine wc_seq ?_
                  refine wc_region ?_
                  refine wv rfl (r_assign rfl) ?_
                  refine wl_nil ?_
                  refine sq_n ?_
                  refine wc_seq ?_
                  refine wc_region ?_
                  refine wv rfl (r_move rfl) ?_
                  refine wv rfl (r_move rfl) ?_
                  replace hM := hM.p6
                  obtain ⟨r459, h460, hx⟩ := bind_some' hx
                  refine w_call rfl rfl (hM.callO (l := [oC (cSl 1 fI r331.1) s334.v]) fun X S oL hS hR hO => ct_laws_markIntS _ X S r331.1 s334 (1 : Int) hS  oL h460) ?_
                  rintro _ w461 ⟨_, rfl, hM⟩
                  replace hM : St ⟨w, X, S⟩ [oC (cSl 1 fI r459.2) s334.v, oC (cSl 1 fI r418.2) s325.v, oC (cSl 1 fI r412.2) s318.v, oC (cSl 1 fI r406.2) s311.v, oC (cSl 1 fI r391) s394.v, oC (cSl 1 fI r377) s380.v, oC (cSl 1 fI r363) s366.v, oC (cSl 1 fI r297.1) s300.v, oC (cSl 1 fI r292) s295.v, oC (cSl 1 fI r286) s289.v, oC (cSl 1 fI r280) s283.v] [rV s_aB.v (cSl 1 fI aB), rV s_aA.v (cSl 1 fI aA), rV s_aT.v (cSl 1 fI aT)] _ := hM
                  refine wv rfl (r_assign rfl) ?_
                  refine wl_nil ?_
                  refine sq_n ?_
                  refine wc_seq ?_
                  refine wc_region ?_
                  refine wv rfl (r_assign rfl) ?_
                  refine wl_nil ?_
                  refine sq_n ?_
                  refine wc_seq ?_
                  refine wc_region ?_
                  refine wv rfl (r_move rfl) ?_
                  refine wv rfl (r_move rfl) ?_
                  obtain ⟨r466, h467, hx⟩ := bind_some' hx
                  refine w_call rfl rfl (hM.callV fun X S oL hS hR hO => ct_laws_heldIntS _ X S r459.2 s334 (1 : Int) hS (seeA hO (.head _)) oL h467) ?_
                  rintro _ w468 ⟨rfl, hR469⟩
                  have hM := hM.call hR469
                  refine wv rfl (r_assign rfl) ?_
                  refine wl_nil ?_
                  refine sq_n ?_
                  refine wc_seq ?_
                  refine wc_seq ?_
                  refine wc_region ?_
                  refine wv rfl (r_move rfl) ?_
                  refine wv rfl (r_lss rfl rfl) ?_
                  refine wl_nil ?_
                  refine sq_n ?_
                  refine wc_cond rfl (fun hc473 => ?_) (fun hc473 => ?_)
                  · replace hx := xif_t hc473 hx
                    refine wc_seq ?_
                    refine wc_region ?_
                    refine wv rfl (r_assign rfl) ?_
                    refine wl_nil ?_
                    refine sq_n ?_
                    refine wc_ret ?_
                    refine sq_ret ?_
                    obtain rfl := Option.some.inj hx
                    refine fin_ret [(.bool false)] ⟨rfl, trivial⟩ ?_
                    replace hM := hM.t0
                    have hM := hM.fewer rsN
                    exact ⟨(), rfl, hM.gives⟩
                  · replace hx := xif_f hc473 hx
                    refine wc_skip ?_
                    refine sq_n ?_
                    refine wc_seq ?_
                    refine wc_seq ?_
                    refine wc_region ?_
                    refine wv rfl (r_move rfl) ?_
                    refine wv rfl (r_move rfl) ?_
                    refine wv rfl (r_neq rfl rfl) ?_
                    refine wl_nil ?_
                    refine sq_n ?_
                    refine wc_cond rfl (fun hc478 => ?_) (fun hc478 => ?_)
                    · replace hx := xif_t hc478 hx
                      refine wc_seq ?_
                      refine wc_region ?_
                      refine wv rfl (r_assign rfl) ?_
                      refine wl_nil ?_
                      refine sq_n ?_
                      refine wc_ret ?_
                      refine sq_ret ?_
                      obtain rfl := Option.some.inj hx
                      refine fin_ret [(.bool false)] ⟨rfl, trivial⟩ ?_
                      replace hM := hM.t0
                      have hM := hM.fewer rsN
                      exact ⟨(), rfl, hM.gives⟩
                    · replace hx := xif_f hc478 hx
                      refine wc_skip ?_
                      refine sq_n ?_
                      refine wc_seq ?_
                      refine wc_region ?_
                      refine wv rfl (r_move rfl) ?_
                      obtain ⟨r481, h482, hx⟩ := bind_some' hx
                      refine w_call rfl rfl (hM.callO (l := []) fun X S oL hS hR hO => ct_laws_toIntS _ X S aT s_aT hS (hR _ (.tail _ (.tail _ (.head _)))) oL h482) ?_
                      rintro _ w483 ⟨s484, rfl, hM⟩
                      replace hM : St ⟨w, X, S⟩ [oC (cSl 1 fI r481) s484.v, oC (cSl 1 fI r459.2) s334.v, oC (cSl 1 fI r418.2) s325.v, oC (cSl 1 fI r412.2) s318.v, oC (cSl 1 fI r406.2) s311.v, oC (cSl 1 fI r391) s394.v, oC (cSl 1 fI r377) s380.v, oC (cSl 1 fI r363) s366.v, oC (cSl 1 fI r297.1) s300.v, oC (cSl 1 fI r292) s295.v, oC (cSl 1 fI r286) s289.v, oC (cSl 1 fI r280) s283.v] [rV s_aB.v (cSl 1 fI aB), rV s_aA.v (cSl 1 fI aA), rV s_aT.v (cSl 1 fI aT)] _ := hM
                      refine wv rfl (r_move rfl) ?_
                      obtain ⟨r487, h488, hx⟩ := bind_some' hx
                      refine w_call rfl rfl (hM.callO (l := []) fun X S oL hS hR hO => ct_laws_toIntS _ X S aA s_aA hS (hR _ (.tail _ (.head _))) oL h488) ?_
                      rintro _ w489 ⟨s490, rfl, hM⟩
                      replace hM : St ⟨w, X, S⟩ [oC (cSl 1 fI r487) s490.v, oC (cSl 1 fI r481) s484.v, oC (cSl 1 fI r459.2) s334.v, oC (cSl 1 fI r418.2) s325.v, oC (cSl 1 fI r412.2) s318.v, oC (cSl 1 fI r406.2) s311.v, oC (cSl 1 fI r391) s394.v, oC (cSl 1 fI r377) s380.v, oC (cSl 1 fI r363) s366.v, oC (cSl 1 fI r297.1) s300.v, oC (cSl 1 fI r292) s295.v, oC (cSl 1 fI r286) s289.v, oC (cSl 1 fI r280) s283.v] [rV s_aB.v (cSl 1 fI aB), rV s_aA.v (cSl 1 fI aA), rV s_aT.v (cSl 1 fI aT)] _ := hM
                      refine wv rfl (r_move rfl) ?_
                      obtain ⟨r493, h494, hx⟩ := bind_some' hx
                      refine w_call rfl rfl (hM.callO (l := []) fun X S oL hS hR hO => ct_laws_toIntS _ X S aB s_aB hS (hR _ (.head _)) oL h494) ?_
                      rintro _ w495 ⟨s496, rfl, hM⟩
                      replace hM : St ⟨w, X, S⟩ [oC (cSl 1 fI r493) s496.v, oC (cSl 1 fI r487) s490.v, oC (cSl 1 fI r481) s484.v, oC (cSl 1 fI r459.2) s334.v, oC (cSl 1 fI r418.2) s325.v, oC (cSl 1 fI r412.2) s318.v, oC (cSl 1 fI r406.2) s311.v, oC (cSl 1 fI r391) s394.v, oC (cSl 1 fI r377) s380.v, oC (cSl 1 fI r363) s366.v, oC (cSl 1 fI r297.1) s300.v, oC (cSl 1 fI r292) s295.v, oC (cSl 1 fI r286) s289.v, oC (cSl 1 fI r280) s283.v] [rV s_aB.v (cSl 1 fI aB), rV s_aA.v (cSl 1 fI aA), rV s_aT.v (cSl 1 fI aT)] _ := hM
                      obtain ⟨r498, h499, hx⟩ := bind_some' hx
                      refine w_call rfl rfl (hM.callO (l := []) fun X S oL hS hR hO => ct_impl_Merge _ X S r481 s484 r487 s490 r493 s496 hS (seeA hO (.tail _ (.tail _ (.head _)))) (seeA hO (.tail _ (.head _))) (seeA hO (.head _)) oL h499) ?_
                      rintro _ w500 ⟨s501, rfl, hM⟩
                      replace hM : St ⟨w, X, S⟩ [oC (cSl 1 fI r498.1) s501.v, oC (cSl 1 fI r493) s496.v, oC (cSl 1 fI r487) s490.v, oC (cSl 1 fI r481) s484.v, oC (cSl 1 fI r459.2) s334.v, oC (cSl 1 fI r418.2) s325.v, oC (cSl 1 fI r412.2) s318.v, oC (cSl 1 fI r406.2) s311.v, oC (cSl 1 fI r391) s394.v, oC (cSl 1 fI r377) s380.v, oC (cSl 1 fI r363) s366.v, oC (cSl 1 fI r297.1) s300.v, oC (cSl 1 fI r292) s295.v, oC (cSl 1 fI r286) s289.v, oC (cSl 1 fI r280) s283.v] [rV s_aB.v (cSl 1 fI aB), rV s_aA.v (cSl 1 fI aA), rV s_aT.v (cSl 1 fI aT)] _ := hM
                      refine wv rfl (r_move rfl) ?_
                      refine wv rfl (r_extract rfl rfl) ?_
                      refine wv rfl (r_extract rfl rfl) ?_
                      refine wv rfl (r_assign rfl) ?_
                      refine wv rfl (r_assign rfl) ?_
                      refine wl_nil ?_
                      refine sq_n ?_
                      refine wc_seq ?_
                      refine wc_seq ?_
                      refine wc_region ?_
                      refine wv rfl (r_move rfl) ?_
                      refine wv rfl (r_move rfl) ?_
                      obtain ⟨r510, h511, hx⟩ := bind_some' hx
                      refine w_call rfl rfl (hM.callV fun X S oL hS hR hO => ct_laws_eqIntS _ X S r498.1 s501 r297.1 s300 hS (seeA hO (.head _)) (seeA hO (.tail _ (.tail _ (.tail _ (.tail _ (.tail _ (.tail _ (.tail _ (.tail _ (.tail _ (.tail _ (.tail _ (.head _))))))))))))) oL h511) ?_
                      rintro _ w512 ⟨rfl, hR513⟩
                      have hM := hM.call hR513
                      refine wv rfl (r_not rfl) ?_
                      refine wv rfl (r_move rfl) ?_
                      obtain ⟨c516, hx, hx521⟩ := bind_some' hx
                      refine wl_mid 4 (fun _ : Unit => [(126, (.bool c516)), (12, s334.v), (15, (.int .i64 r459.1))]) (fun _ w' => St ⟨w, X, S⟩ [oC (cSl 1 fI r498.1) s501.v, oC (cSl 1 fI r493) s496.v, oC (cSl 1 fI r487) s490.v, oC (cSl 1 fI r481) s484.v, oC (cSl 1 fI r459.2) s334.v, oC (cSl 1 fI r418.2) s325.v, oC (cSl 1 fI r412.2) s318.v, oC (cSl 1 fI r406.2) s311.v, oC (cSl 1 fI r391) s394.v, oC (cSl 1 fI r377) s380.v, oC (cSl 1 fI r363) s366.v, oC (cSl 1 fI r297.1) s300.v, oC (cSl 1 fI r292) s295.v, oC (cSl 1 fI r286) s289.v, oC (cSl 1 fI r280) s283.v] [rV s_aB.v (cSl 1 fI aB), rV s_aA.v (cSl 1 fI aA), rV s_aT.v (cSl 1 fI aT)] w') ?_ ?_
                      · rcases Bool.eq_false_or_eq_true (!r510) with hg517 | hg517
                        · replace hx := xif_t hg517 hx
                          refine gs rfl (isB_no hg517) rfl ?_
                          refine gs rfl (isB_no hg517) rfl ?_
                          refine gs rfl (isB_no hg517) rfl ?_
                          refine wv rfl (p_t rfl hg517 rfl) ?_
                          obtain rfl := Option.some.inj hx
                          exact mid_nil () ⟨rfl, rfl, rfl, trivial⟩ hM
                        · replace hx := xif_f hg517 hx
                          refine gv rfl hg517 rfl (r_move rfl) ?_
                          refine gv rfl hg517 rfl (r_move rfl) ?_
                          refine gv rfl hg517 rfl (r_neqb Try.underlying4 rfl rfl) ?_
                          refine wv rfl (p_f rfl hg517 rfl) ?_
                          obtain rfl := Option.some.inj hx
                          exact mid_nil () ⟨rfl, rfl, rfl, trivial⟩ hM
                      rintro _ w525 hM
                      replace hx := hx521
                      refine wl_nil ?_
                      refine sq_n ?_
                      refine wc_cond rfl (fun hc526 => ?_) (fun hc526 => ?_)
                      · replace hx := xif_t hc526 hx
                        refine wc_seq ?_
                        refine wc_region ?_
                        refine wv rfl (r_assign rfl) ?_
                        refine wl_nil ?_
                        refine sq_n ?_
                        refine wc_ret ?_
                        refine sq_ret ?_
                        obtain rfl := Option.some.inj hx
                        refine fin_ret [(.bool false)] ⟨rfl, trivial⟩ ?_
                        replace hM := hM.t0
                        have hM := hM.fewer rsN
                        exact ⟨(), rfl, hM.gives⟩
                      · replace hx := xif_f hc526 hx
                        refine wc_skip ?_
                        refine sq_n ?_
                        refine wc_seq ?_
                        refine wc_region ?_
                        refine wv rfl (r_assign rfl) ?_
                        refine wl_nil ?_
                        refine sq_n ?_
                        refine wc_seq ?_
                        refine wc_region ?_
                        refine wv rfl (r_move rfl) ?_
                        refine wv rfl (r_move rfl) ?_
                        obtain ⟨r531, h532, hx⟩ := bind_some' hx
                        refine w_call rfl rfl (hM.callV fun X S oL hS hR hO => ct_laws_heldIntS _ X S r459.2 s334 (1 : Int) hS (seeA hO (.tail _ (.tail _ (.tail _ (.tail _ (.head _)))))) oL h532) ?_
                        rintro _ w533 ⟨rfl, hR534⟩
                        have hM := hM.call hR534
                        refine wv rfl (r_assign rfl) ?_
                        refine wl_nil ?_
                        refine sq_n ?_
                        refine wc_seq ?_
                        refine wc_seq ?_
                        refine wc_region ?_
                        refine wv rfl (r_move rfl) ?_
                        refine wv rfl (r_lss rfl rfl) ?_
                        refine wl_nil ?_
                        refine sq_n ?_
                        refine wc_cond rfl (fun hc538 => ?_) (fun hc538 => ?_)
                        · replace hx := xif_t hc538 hx
                          refine wc_seq ?_
                          refine wc_region ?_
                          refine wv rfl (r_assign rfl) ?_
                          refine wl_nil ?_
                          refine sq_n ?_
                          refine wc_ret ?_
                          refine sq_ret ?_
                          obtain rfl := Option.some.inj hx
                          refine fin_ret [(.bool false)] ⟨rfl, trivial⟩ ?_
                          replace hM := hM.t0
                          have hM := hM.fewer rsN
                          exact ⟨(), rfl, hM.gives⟩
                        · replace hx := xif_f hc538 hx
                          refine wc_skip ?_
                          refine sq_n ?_
                          refine wc_seq ?_
                          refine wc_seq ?_
                          refine wc_region ?_
                          refine wv rfl (r_move rfl) ?_
                          refine wv rfl (r_move rfl) ?_
                          refine wv rfl (r_neq rfl rfl) ?_
                          refine wl_nil ?_
                          refine sq_n ?_
                          refine wc_cond rfl (fun hc543 => ?_) (fun hc543 => ?_)
                          · replace hx := xif_t hc543 hx
                            refine wc_seq ?_
                            refine wc_region ?_
                            refine wv rfl (r_assign rfl) ?_
                            refine wl_nil ?_
                            refine sq_n ?_
                            refine wc_ret ?_
                            refine sq_ret ?_
                            obtain rfl := Option.some.inj hx
                            refine fin_ret [(.bool false)] ⟨rfl, trivial⟩ ?_
                            replace hM := hM.t0
                            have hM := hM.fewer rsN
                            exact ⟨(), rfl, hM.gives⟩
                          · replace hx := xif_f hc543 hx
                            refine wc_skip ?_
                            refine sq_n ?_
                            refine wc_seq ?_
                            refine wc_region ?_
                            refine wv rfl (r_assign rfl) ?_
                            refine wl_nil ?_
                            refine sq_n ?_
                            refine wc_ret ?_
                            obtain rfl := Option.some.inj hx
                            refine fin_ret [(.bool true)] ⟨rfl, trivial⟩ ?_
                            replace hM := hM.t0
                            have hM := hM.fewer rsN
                            exact ⟨(), rfl, hM.gives⟩

end Go.Proofs.Ytbghemgoeemdfaa
