/- Walks of functions of this program (printed by a program of ours, by the rules of the layer). No condition. -/
import Derived.Test.YtbapjbanejimiaaT1
import Derived.Test.YtbapjbanejimiaaNs
namespace Go.Proofs.Ytbapjbanejimiaa
open Go.RowKit

noncomputable def x_laws_szIntS (a : List Int) (left : Int) : Option Int :=
  xg (inI (left - (a.length : Int))) <| bif decide ((left - (a.length : Int)) < 0) then (some (-1)) else (some (left - (a.length : Int)))
theorem ct_laws_szIntS (w : World) (X S : Bs) (a : List Int) (s_a : Sv) (left : Int) (hS : ∀ b, S b → b < w.heap.size ∧ ¬ X b) (a_a_0 : (cSl 1 fI a).rd S w s_a.v) (oL : Sep [] X w) {r : Int} (hx : x_laws_szIntS a left = some r) :
    Ret Try.prog 31 [s_a.v, (.int .i64 left)] w (fun u w' => ∃ _ : Unit, u = (.int .i64 r) ∧ Gives X S w [] [] w') := by
  unfold x_laws_szIntS at hx
  refine enter Try.func31 rfl Try.ntmps31 (by kernel_rfl) rfl ?_
  have hM := St.enter oL hS
  have hM := hM.addE (r := rV s_a.v (cSl 1 fI a)) a_a_0
  refine wc_seq ?_
  refine wc_region ?_
  refine wv rfl (r_assign rfl) ?_
  refine wl_nil ?_
  refine sq_n ?_
  refine wc_seq ?_
  refine wc_region ?_
  refine wv rfl (r_move rfl) ?_
  refine wv rfl (r_move rfl) ?_
  refine wv rfl (r_lenC Try.underlying23 rfl (hM.seeR (.head _))) ?_
  obtain ⟨hg18, hx⟩ := xg_some hx
  refine wv rfl (r_sub rfl rfl hg18) ?_
  refine wv rfl (r_assign rfl) ?_
  refine wl_nil ?_
  refine sq_n ?_
  refine wc_seq ?_
  refine wc_seq ?_
  refine wc_region ?_
  refine wv rfl (r_move rfl) ?_
  refine wv rfl (r_lss rfl rfl) ?_
  refine wl_nil ?_
  refine sq_n ?_
  refine wc_cond rfl (fun hc22 => ?_) (fun hc22 => ?_)
  · replace hx := xif_t hc22 hx
    refine wc_seq ?_
    refine wc_region ?_
    refine wv rfl (r_assign rfl) ?_
    refine wl_nil ?_
    refine sq_n ?_
    refine wc_ret ?_
    refine sq_ret ?_
    obtain rfl := Option.some.inj hx
    refine fin_ret [(.int .i64 (-1))] ⟨rfl, trivial⟩ ?_
    replace hM := hM.t0
    have hM := hM.fewer rsN
    exact ⟨(), rfl, hM.gives⟩
  · replace hx := xif_f hc22 hx
    refine wc_skip ?_
    refine sq_n ?_
    refine wc_seq ?_
    refine wc_region ?_
    refine wv rfl (r_move rfl) ?_
    refine wv rfl (r_assign rfl) ?_
    refine wl_nil ?_
    refine sq_n ?_
    refine wc_ret ?_
    obtain rfl := Option.some.inj hx
    refine fin_ret [(.int .i64 (left - (a.length : Int)))] ⟨rfl, trivial⟩ ?_
    replace hM := hM.t0
    have hM := hM.fewer rsN
    exact ⟨(), rfl, hM.gives⟩

noncomputable def x_laws_szPart (a : DPart) (left : Int) : Option Int :=
  Option.bind (x_laws_szIntS a.signs left) fun r9 => bif decide (r9 < 0) then (some (-1)) else (some r9)
theorem ct_laws_szPart (w : World) (X S : Bs) (a : DPart) (s_a_2 : Sv) (left : Int) (hS : ∀ b, S b → b < w.heap.size ∧ ¬ X b) (a_a_2 : (cSl 1 fI a.signs).rd S w s_a_2.v) (oL : Sep [] X w) {r : Int} (hx : x_laws_szPart a left = some r) :
    Ret Try.prog 79 [(.agg #[(.int .i64 a.kind), (.int .i64 a.n), s_a_2.v]), (.int .i64 left)] w (fun u w' => ∃ _ : Unit, u = (.int .i64 r) ∧ Gives X S w [] [] w') := by
  unfold x_laws_szPart at hx
  refine enter Try.func79 rfl Try.ntmps79 (by kernel_rfl) rfl ?_
  have hM := St.enter oL hS
  have hM := hM.addE (r := rV s_a_2.v (cSl 1 fI a.signs)) a_a_2
  refine wc_seq ?_
  refine wc_region ?_
  refine w_ex rfl (x_box rfl hM ?_); intro b20 w19 hR21 hM
  replace hM : St ⟨w, X, S⟩ [oBox b20 #[(.int .i64 a.kind), (.int .i64 a.n), s_a_2.v] 117] [rV s_a_2.v (cSl 1 fI a.signs)] _ := hM
  refine wv rfl (r_assign rfl) ?_
  refine wl_nil ?_
  refine sq_n ?_
  refine wc_seq ?_
  refine wc_region ?_
  refine wv rfl (r_fld Try.underlying117 rfl rfl sz23 rfl) ?_
  refine wv rfl (r_ldB Try.underlying23 rfl rfl hM (.head _) rfl) ?_
  refine wv rfl (r_move rfl) ?_
  obtain ⟨r27, h28, hx⟩ := bind_some' hx
  refine w_call rfl rfl (hM.callV fun X S oL hS hR hO => ct_laws_szIntS _ X S a.signs s_a_2 left hS (hR _ (.head _)) oL h28) ?_
  rintro _ w29 ⟨rfl, hR30⟩
  have hM := hM.call hR30
  refine wv rfl (r_assign rfl) ?_
  refine wl_nil ?_
  refine sq_n ?_
  refine wc_seq ?_
  refine wc_seq ?_
  refine wc_region ?_
  refine wv rfl (r_move rfl) ?_
  refine wv rfl (r_lss rfl rfl) ?_
  refine wl_nil ?_
  refine sq_n ?_
  refine wc_cond rfl (fun hc34 => ?_) (fun hc34 => ?_)
  · replace hx := xif_t hc34 hx
    refine wc_seq ?_
    refine wc_region ?_
    refine wv rfl (r_assign rfl) ?_
    refine wl_nil ?_
    refine sq_n ?_
    refine wc_ret ?_
    refine sq_ret ?_
    obtain rfl := Option.some.inj hx
    refine fin_ret [(.int .i64 (-1))] ⟨rfl, trivial⟩ ?_
    replace hM := hM.t0
    have hM := hM.fewer rsN
    exact ⟨(), rfl, hM.gives⟩
  · replace hx := xif_f hc34 hx
    refine wc_skip ?_
    refine sq_n ?_
    refine wc_seq ?_
    refine wc_region ?_
    refine wv rfl (r_move rfl) ?_
    refine wv rfl (r_assign rfl) ?_
    refine wl_nil ?_
    refine sq_n ?_
    refine wc_ret ?_
    obtain rfl := Option.some.inj hx
    refine fin_ret [(.int .i64 r27)] ⟨rfl, trivial⟩ ?_
    replace hM := hM.t0
    have hM := hM.fewer rsN
    exact ⟨(), rfl, hM.gives⟩

noncomputable def x_laws_szPartS_b0 (a : List DPart) (left12 : Int) (i13 : Int) : Option (Lr (Int × Int) (Sum Int Int)) :=
  bif decide (i13 < (a.length : Int)) then (xg (0 ≤ i13 ∧ i13 < (a.length : Int)) <| Option.bind (x_laws_szPart (el a i13.toNat) left12) fun r52 => bif decide (r52 < 0) then (some (Lr.out (Sum.inr (-1)))) else (xg (inI (i13 + 1)) <| some (Lr.go (r52, i13 + 1)))) else (some (Lr.out (Sum.inl left12)))
noncomputable def x_laws_szPartS_f0 (a : List DPart) (s64 : Int × Int) : Option (Lr (Int × Int) (Sum Int Int)) := x_laws_szPartS_b0 a s64.1 s64.2
noncomputable def x_laws_szPartS (a : List DPart) (left : Int) : Option Int :=
  xg (inI (left - (a.length : Int))) <| bif decide ((left - (a.length : Int)) < 0) then (some (-1)) else (Option.bind (iter (x_laws_szPartS_f0 a) (left - (a.length : Int), 0)) fun (y65 : Sum Int Int) => Sum.elim (fun y66 => some y66) (fun y67 => some y67) y65)
theorem ct_laws_szPartS (w : World) (X S : Bs) (a : List DPart) (s_a : Sv) (left : Int) (hS : ∀ b, S b → b < w.heap.size ∧ ¬ X b) (a_a_0 : (cSl 3 fDPart a).rd S w s_a.v) (oL : Sep [] X w) {r : Int} (hx : x_laws_szPartS a left = some r) :
    Ret Try.prog 49 [s_a.v, (.int .i64 left)] w (fun u w' => ∃ _ : Unit, u = (.int .i64 r) ∧ Gives X S w [] [] w') := by
  unfold x_laws_szPartS at hx
  refine enter Try.func49 rfl Try.ntmps49 (by kernel_rfl) rfl ?_
  have hM := St.enter oL hS
  have hM := hM.addE (r := rV s_a.v (cSl 3 fDPart a)) a_a_0
  refine wc_seq ?_
  refine wc_region ?_
  refine wv rfl (r_assign rfl) ?_
  refine wl_nil ?_
  refine sq_n ?_
  refine wc_seq ?_
  refine wc_region ?_
  refine wv rfl (r_move rfl) ?_
  refine wv rfl (r_move rfl) ?_
  refine wv rfl (r_lenC Try.underlying22 rfl (hM.seeR (.head _))) ?_
  obtain ⟨hg75, hx⟩ := xg_some hx
  refine wv rfl (r_sub rfl rfl hg75) ?_
  refine wv rfl (r_assign rfl) ?_
  refine wl_nil ?_
  refine sq_n ?_
  refine wc_seq ?_
  refine wc_seq ?_
  refine wc_region ?_
  refine wv rfl (r_move rfl) ?_
  refine wv rfl (r_lss rfl rfl) ?_
  refine wl_nil ?_
  refine sq_n ?_
  refine wc_cond rfl (fun hc79 => ?_) (fun hc79 => ?_)
  · replace hx := xif_t hc79 hx
    refine wc_seq ?_
    refine wc_region ?_
    refine wv rfl (r_assign rfl) ?_
    refine wl_nil ?_
    refine sq_n ?_
    refine wc_ret ?_
    refine sq_ret ?_
    obtain rfl := Option.some.inj hx
    refine fin_ret [(.int .i64 (-1))] ⟨rfl, trivial⟩ ?_
    replace hM := hM.t0
    have hM := hM.fewer rsN
    exact ⟨(), rfl, hM.gives⟩
  · replace hx := xif_f hc79 hx
    refine wc_skip ?_
    refine sq_n ?_
    refine wc_seq ?_
    refine wc_seq ?_
    refine wc_region ?_
    refine wv rfl (r_assign rfl) ?_
    refine wl_nil ?_
    refine sq_n ?_
    refine wc_block ?_
    obtain ⟨y82, hx, hx83⟩ := bind_some' hx
    obtain ⟨m88, hx⟩ := iter_run hx
    refine wc_loop (un fun (m86 : Nat) => un fun (left84 : Int) => fun (i85 : Int) => [(0, s_a.v), (1, (.int .i64 left84)), (5, (.int .i64 i85))]) (un fun (m86 : Nat) => un fun (left84 : Int) => fun (i85 : Int) w' => St ⟨w, X, S⟩ [] [rV s_a.v (cSl 3 fDPart a)] w' ∧ iterN _ m86 (left84, i85) = some y82) (fun p => p.1) (m88, left - (a.length : Int), 0) ⟨rfl, rfl, rfl, trivial⟩ ⟨hM, hx⟩ ?_
    rintro ⟨m86, left84, i85⟩ w89 ⟨hM, hx⟩
    obtain ⟨m90, z91, rfl, hx, hx92⟩ := iterN_step hx
    unfold x_laws_szPartS_f0 x_laws_szPartS_b0 at hx
    try dsimp only at hx
    refine wc_seq ?_
    refine wc_seq ?_
    refine wc_region ?_
    refine wv rfl (r_move rfl) ?_
    refine wv rfl (r_move rfl) ?_
    refine wv rfl (r_lenC Try.underlying22 rfl (hM.seeR (.head _))) ?_
    refine wv rfl (r_lss rfl rfl) ?_
    refine wl_nil ?_
    refine sq_n ?_
    refine wc_cond rfl (fun hc97 => ?_) (fun hc97 => ?_)
    · replace hx := xif_t hc97 hx
      refine wc_skip ?_
      refine sq_n ?_
      refine wc_seq ?_
      refine wc_block ?_
      refine wc_seq ?_
      refine wc_region ?_
      refine wv rfl (r_move rfl) ?_
      refine wv rfl (r_move rfl) ?_
      obtain ⟨hg102, hx⟩ := xg_some hx
      have hi101 : i85.toNat < a.length := by omega
      refine wv rfl (r_ixC Try.underlying22 sz117 rfl rfl (hM.seeR (.head _)) hg102) ?_
      obtain ⟨s104, hM, hc105⟩ := hM.leaf (i := i85.toNat) (j := 2) (.head _) (fun _ => rfl) hi101 rfl
      refine wv rfl (r_ldC (o := i85.toNat * 3) Try.underlying117 sz117 rfl (us := [(.int .i64 ((el a i85.toNat).kind)), (.int .i64 ((el a i85.toNat).n)), s104.v]) rfl (hM.seeR (.tail _ (.head _))) hi101 ⟨(Cs.get (i := i85.toNat) (j := 0) (hM.seeR (.tail _ (.head _))) (fun _ => rfl) hi101 rfl), (Cs.get (i := i85.toNat) (j := 1) (hM.seeR (.tail _ (.head _))) (fun _ => rfl) hi101 rfl), (hc105 _ (Rel.refl _)), trivial⟩) ?_
      refine wv rfl (r_move rfl) ?_
      obtain ⟨r107, h108, hx⟩ := bind_some' hx
      refine w_call rfl rfl (hM.callV fun X S oL hS hR hO => ct_laws_szPart _ X S (el a i85.toNat) s104 left84 hS (hR _ (.head _)) oL h108) ?_
      rintro _ w109 ⟨rfl, hR110⟩
      have hM := hM.call hR110
      refine wv rfl (r_assign rfl) ?_
      refine wl_nil ?_
      refine sq_n ?_
      refine wc_seq ?_
      refine wc_region ?_
      refine wv rfl (r_move rfl) ?_
      refine wv rfl (r_lss rfl rfl) ?_
      refine wl_nil ?_
      refine sq_n ?_
      refine wc_cond rfl (fun hc114 => ?_) (fun hc114 => ?_)
      · replace hx := xif_t hc114 hx
        refine wc_seq ?_
        refine wc_region ?_
        refine wv rfl (r_assign rfl) ?_
        refine wl_nil ?_
        refine sq_n ?_
        refine wc_ret ?_
        refine bk_ret ?_
        refine sq_ret ?_
        refine lp1_ret ?_
        obtain rfl := Option.some.inj hx
        obtain rfl := Option.some.inj hx92
        replace hx := hx83
        try dsimp only [Sum.elim_inl, Sum.elim_inr] at hx
        refine bk_ret ?_
        refine sq_ret ?_
        obtain rfl := Option.some.inj hx
        refine fin_ret [(.int .i64 (-1))] ⟨rfl, trivial⟩ ?_
        replace hM := hM.t0
        have hM := hM.fewer rsN
        exact ⟨(), rfl, hM.gives⟩
      · replace hx := xif_f hc114 hx
        refine wc_skip ?_
        refine bk_n ?_
        refine sq_n ?_
        refine wc_region ?_
        refine wv rfl (r_move rfl) ?_
        obtain ⟨hg118, hx⟩ := xg_some hx
        refine wv rfl (r_add rfl rfl hg118) ?_
        refine wv rfl (r_assign rfl) ?_
        refine wl_nil ?_
        obtain rfl := Option.some.inj hx
        have hM := hM.fewer (rsC (.tail _ (.head _)) rsN)
        replace hM : St ⟨w, X, S⟩ [] [rV s_a.v (cSl 3 fDPart a)] _ := hM
        exact lp_end (m90, r107, i85 + 1) (Nat.lt_succ_self _) ⟨rfl, rfl, rfl, trivial⟩ ⟨hM, hx92⟩
    · replace hx := xif_f hc97 hx
      refine wc_exit ?_
      refine sq_exit ?_
      refine lp1_exit ?_
      obtain rfl := Option.some.inj hx
      obtain rfl := Option.some.inj hx92
      replace hx := hx83
      try dsimp only [Sum.elim_inl, Sum.elim_inr] at hx
      refine bk_here ?_
      refine sq_n ?_
      refine wc_seq ?_
      refine wc_region ?_
      refine wv rfl (r_move rfl) ?_
      refine wv rfl (r_assign rfl) ?_
      refine wl_nil ?_
      refine sq_n ?_
      refine wc_ret ?_
      obtain rfl := Option.some.inj hx
      refine fin_ret [(.int .i64 left84)] ⟨rfl, trivial⟩ ?_
      replace hM := hM.t0
      have hM := hM.fewer rsN
      exact ⟨(), rfl, hM.gives⟩

noncomputable def x_laws_szCall (a : DCall) (left : Int) : Option Int :=
  xg (inI (left - (a.doc.size : Int))) <| bif decide ((left - (a.doc.size : Int)) < 0) then (some (-1)) else (Option.bind (x_laws_szPartS a.o (left - (a.doc.size : Int))) fun r19 => bif decide (r19 < 0) then (some (-1)) else (Option.bind (x_laws_szIntS a.text r19) fun r30 => bif decide (r30 < 0) then (some (-1)) else (some r30)))
theorem ct_laws_szCall (w : World) (X S : Bs) (a : DCall) (s_a_5 : Sv) (s_a_6 : Sv) (left : Int) (hS : ∀ b, S b → b < w.heap.size ∧ ¬ X b) (a_a_5 : (cSl 3 fDPart a.o).rd S w s_a_5.v) (a_a_6 : (cSl 1 fI a.text).rd S w s_a_6.v) (oL : Sep [] X w) {r : Int} (hx : x_laws_szCall a left = some r) :
    Ret Try.prog 19 [(.agg #[(.int .i64 a.kind), (.string a.doc), (.int .i64 a.client), (.int .i64 a.seq), (.int .i64 a.n), s_a_5.v, s_a_6.v]), (.int .i64 left)] w (fun u w' => ∃ _ : Unit, u = (.int .i64 r) ∧ Gives X S w [] [] w') := by
  unfold x_laws_szCall at hx
  refine enter Try.func19 rfl Try.ntmps19 (by kernel_rfl) rfl ?_
  have hM := St.enter oL hS
  have hM := hM.addE (r := rV s_a_5.v (cSl 3 fDPart a.o)) a_a_5
  have hM := hM.addE (r := rV s_a_6.v (cSl 1 fI a.text)) a_a_6
  refine wc_seq ?_
  refine wc_region ?_
  refine w_ex rfl (x_box rfl hM ?_); intro b41 w40 hR42 hM
  replace hM : St ⟨w, X, S⟩ [oBox b41 #[(.int .i64 a.kind), (.string a.doc), (.int .i64 a.client), (.int .i64 a.seq), (.int .i64 a.n), s_a_5.v, s_a_6.v] 25] [rV s_a_6.v (cSl 1 fI a.text), rV s_a_5.v (cSl 3 fDPart a.o)] _ := hM
  refine wv rfl (r_assign rfl) ?_
  refine wl_nil ?_
  refine sq_n ?_
  refine wc_seq ?_
  refine wc_region ?_
  refine wv rfl (r_move rfl) ?_
  refine wv rfl (r_fld Try.underlying25 rfl rfl sz9 rfl) ?_
  refine wv rfl (r_ldB Try.underlying9 rfl rfl hM (.head _) rfl) ?_
  refine wv rfl (r_lens Try.underlying9 rfl) ?_
  obtain ⟨hg50, hx⟩ := xg_some hx
  refine wv rfl (r_sub rfl rfl hg50) ?_
  refine wv rfl (r_assign rfl) ?_
  refine wl_nil ?_
  refine sq_n ?_
  refine wc_seq ?_
  refine wc_seq ?_
  refine wc_region ?_
  refine wv rfl (r_move rfl) ?_
  refine wv rfl (r_lss rfl rfl) ?_
  refine wl_nil ?_
  refine sq_n ?_
  refine wc_cond rfl (fun hc54 => ?_) (fun hc54 => ?_)
  · replace hx := xif_t hc54 hx
    refine wc_seq ?_
    refine wc_region ?_
    refine wv rfl (r_assign rfl) ?_
    refine wl_nil ?_
    refine sq_n ?_
    refine wc_ret ?_
    refine sq_ret ?_
    obtain rfl := Option.some.inj hx
    refine fin_ret [(.int .i64 (-1))] ⟨rfl, trivial⟩ ?_
    replace hM := hM.t0
    have hM := hM.fewer rsN
    exact ⟨(), rfl, hM.gives⟩
  · replace hx := xif_f hc54 hx
    refine wc_skip ?_
    refine sq_n ?_
    refine wc_seq ?_
    refine wc_region ?_
    refine wv rfl (r_fld Try.underlying25 rfl rfl sz22 rfl) ?_
    refine wv rfl (r_ldB Try.underlying22 rfl rfl hM (.head _) rfl) ?_
    refine wv rfl (r_move rfl) ?_
    obtain ⟨r59, h60, hx⟩ := bind_some' hx
    refine w_call rfl rfl (hM.callV fun X S oL hS hR hO => ct_laws_szPartS _ X S a.o s_a_5 (left - (a.doc.size : Int)) hS (hR _ (.tail _ (.head _))) oL h60) ?_
    rintro _ w61 ⟨rfl, hR62⟩
    have hM := hM.call hR62
    refine wv rfl (r_assign rfl) ?_
    refine wl_nil ?_
    refine sq_n ?_
    refine wc_seq ?_
    refine wc_seq ?_
    refine wc_region ?_
    refine wv rfl (r_move rfl) ?_
    refine wv rfl (r_lss rfl rfl) ?_
    refine wl_nil ?_
    refine sq_n ?_
    refine wc_cond rfl (fun hc66 => ?_) (fun hc66 => ?_)
    · replace hx := xif_t hc66 hx
      refine wc_seq ?_
      refine wc_region ?_
      refine wv rfl (r_assign rfl) ?_
      refine wl_nil ?_
      refine sq_n ?_
      refine wc_ret ?_
      refine sq_ret ?_
      obtain rfl := Option.some.inj hx
      refine fin_ret [(.int .i64 (-1))] ⟨rfl, trivial⟩ ?_
      replace hM := hM.t0
      have hM := hM.fewer rsN
      exact ⟨(), rfl, hM.gives⟩
    · replace hx := xif_f hc66 hx
      refine wc_skip ?_
      refine sq_n ?_
      refine wc_seq ?_
      refine wc_region ?_
      refine wv rfl (r_fld Try.underlying25 rfl rfl sz23 rfl) ?_
      refine wv rfl (r_ldB Try.underlying23 rfl rfl hM (.head _) rfl) ?_
      refine wv rfl (r_move rfl) ?_
      obtain ⟨r71, h72, hx⟩ := bind_some' hx
      refine w_call rfl rfl (hM.callV fun X S oL hS hR hO => ct_laws_szIntS _ X S a.text s_a_6 r59 hS (hR _ (.head _)) oL h72) ?_
      rintro _ w73 ⟨rfl, hR74⟩
      have hM := hM.call hR74
      refine wv rfl (r_assign rfl) ?_
      refine wl_nil ?_
      refine sq_n ?_
      refine wc_seq ?_
      refine wc_seq ?_
      refine wc_region ?_
      refine wv rfl (r_move rfl) ?_
      refine wv rfl (r_lss rfl rfl) ?_
      refine wl_nil ?_
      refine sq_n ?_
      refine wc_cond rfl (fun hc78 => ?_) (fun hc78 => ?_)
      · replace hx := xif_t hc78 hx
        refine wc_seq ?_
        refine wc_region ?_
        refine wv rfl (r_assign rfl) ?_
        refine wl_nil ?_
        refine sq_n ?_
        refine wc_ret ?_
        refine sq_ret ?_
        obtain rfl := Option.some.inj hx
        refine fin_ret [(.int .i64 (-1))] ⟨rfl, trivial⟩ ?_
        replace hM := hM.t0
        have hM := hM.fewer rsN
        exact ⟨(), rfl, hM.gives⟩
      · replace hx := xif_f hc78 hx
        refine wc_skip ?_
        refine sq_n ?_
        refine wc_seq ?_
        refine wc_region ?_
        refine wv rfl (r_move rfl) ?_
        refine wv rfl (r_assign rfl) ?_
        refine wl_nil ?_
        refine sq_n ?_
        refine wc_ret ?_
        obtain rfl := Option.some.inj hx
        refine fin_ret [(.int .i64 r71)] ⟨rfl, trivial⟩ ?_
        replace hM := hM.t0
        have hM := hM.fewer rsN
        exact ⟨(), rfl, hM.gives⟩

noncomputable def x_laws_szEntry (a : DEntry) (left : Int) : Option Int :=
  Option.bind (x_laws_szPartS a.o left) fun r9 => bif decide (r9 < 0) then (some (-1)) else (some r9)
theorem ct_laws_szEntry (w : World) (X S : Bs) (a : DEntry) (s_a_2 : Sv) (left : Int) (hS : ∀ b, S b → b < w.heap.size ∧ ¬ X b) (a_a_2 : (cSl 3 fDPart a.o).rd S w s_a_2.v) (oL : Sep [] X w) {r : Int} (hx : x_laws_szEntry a left = some r) :
    Ret Try.prog 55 [(.agg #[(.int .i64 a.client), (.int .i64 a.seq), s_a_2.v]), (.int .i64 left)] w (fun u w' => ∃ _ : Unit, u = (.int .i64 r) ∧ Gives X S w [] [] w') := by
  unfold x_laws_szEntry at hx
  refine enter Try.func55 rfl Try.ntmps55 (by kernel_rfl) rfl ?_
  have hM := St.enter oL hS
  have hM := hM.addE (r := rV s_a_2.v (cSl 3 fDPart a.o)) a_a_2
  refine wc_seq ?_
  refine wc_region ?_
  refine w_ex rfl (x_box rfl hM ?_); intro b20 w19 hR21 hM
  replace hM : St ⟨w, X, S⟩ [oBox b20 #[(.int .i64 a.client), (.int .i64 a.seq), s_a_2.v] 94] [rV s_a_2.v (cSl 3 fDPart a.o)] _ := hM
  refine wv rfl (r_assign rfl) ?_
  refine wl_nil ?_
  refine sq_n ?_
  refine wc_seq ?_
  refine wc_region ?_
  refine wv rfl (r_fld Try.underlying94 rfl rfl sz22 rfl) ?_
  refine wv rfl (r_ldB Try.underlying22 rfl rfl hM (.head _) rfl) ?_
  refine wv rfl (r_move rfl) ?_
  obtain ⟨r27, h28, hx⟩ := bind_some' hx
  refine w_call rfl rfl (hM.callV fun X S oL hS hR hO => ct_laws_szPartS _ X S a.o s_a_2 left hS (hR _ (.head _)) oL h28) ?_
  rintro _ w29 ⟨rfl, hR30⟩
  have hM := hM.call hR30
  refine wv rfl (r_assign rfl) ?_
  refine wl_nil ?_
  refine sq_n ?_
  refine wc_seq ?_
  refine wc_seq ?_
  refine wc_region ?_
  refine wv rfl (r_move rfl) ?_
  refine wv rfl (r_lss rfl rfl) ?_
  refine wl_nil ?_
  refine sq_n ?_
  refine wc_cond rfl (fun hc34 => ?_) (fun hc34 => ?_)
  · replace hx := xif_t hc34 hx
    refine wc_seq ?_
    refine wc_region ?_
    refine wv rfl (r_assign rfl) ?_
    refine wl_nil ?_
    refine sq_n ?_
    refine wc_ret ?_
    refine sq_ret ?_
    obtain rfl := Option.some.inj hx
    refine fin_ret [(.int .i64 (-1))] ⟨rfl, trivial⟩ ?_
    replace hM := hM.t0
    have hM := hM.fewer rsN
    exact ⟨(), rfl, hM.gives⟩
  · replace hx := xif_f hc34 hx
    refine wc_skip ?_
    refine sq_n ?_
    refine wc_seq ?_
    refine wc_region ?_
    refine wv rfl (r_move rfl) ?_
    refine wv rfl (r_assign rfl) ?_
    refine wl_nil ?_
    refine sq_n ?_
    refine wc_ret ?_
    obtain rfl := Option.some.inj hx
    refine fin_ret [(.int .i64 r27)] ⟨rfl, trivial⟩ ?_
    replace hM := hM.t0
    have hM := hM.fewer rsN
    exact ⟨(), rfl, hM.gives⟩

noncomputable def x_laws_szEntryS_b0 (a : List DEntry) (left12 : Int) (i13 : Int) : Option (Lr (Int × Int) (Sum Int Int)) :=
  bif decide (i13 < (a.length : Int)) then (xg (0 ≤ i13 ∧ i13 < (a.length : Int)) <| Option.bind (x_laws_szEntry (el a i13.toNat) left12) fun r52 => bif decide (r52 < 0) then (some (Lr.out (Sum.inr (-1)))) else (xg (inI (i13 + 1)) <| some (Lr.go (r52, i13 + 1)))) else (some (Lr.out (Sum.inl left12)))
noncomputable def x_laws_szEntryS_f0 (a : List DEntry) (s64 : Int × Int) : Option (Lr (Int × Int) (Sum Int Int)) := x_laws_szEntryS_b0 a s64.1 s64.2
noncomputable def x_laws_szEntryS (a : List DEntry) (left : Int) : Option Int :=
  xg (inI (left - (a.length : Int))) <| bif decide ((left - (a.length : Int)) < 0) then (some (-1)) else (Option.bind (iter (x_laws_szEntryS_f0 a) (left - (a.length : Int), 0)) fun (y65 : Sum Int Int) => Sum.elim (fun y66 => some y66) (fun y67 => some y67) y65)
theorem ct_laws_szEntryS (w : World) (X S : Bs) (a : List DEntry) (s_a : Sv) (left : Int) (hS : ∀ b, S b → b < w.heap.size ∧ ¬ X b) (a_a_0 : (cSl 3 fDEntry a).rd S w s_a.v) (oL : Sep [] X w) {r : Int} (hx : x_laws_szEntryS a left = some r) :
    Ret Try.prog 32 [s_a.v, (.int .i64 left)] w (fun u w' => ∃ _ : Unit, u = (.int .i64 r) ∧ Gives X S w [] [] w') := by
  unfold x_laws_szEntryS at hx
  refine enter Try.func32 rfl Try.ntmps32 (by kernel_rfl) rfl ?_
  have hM := St.enter oL hS
  have hM := hM.addE (r := rV s_a.v (cSl 3 fDEntry a)) a_a_0
  refine wc_seq ?_
  refine wc_region ?_
  refine wv rfl (r_assign rfl) ?_
  refine wl_nil ?_
  refine sq_n ?_
  refine wc_seq ?_
  refine wc_region ?_
  refine wv rfl (r_move rfl) ?_
  refine wv rfl (r_move rfl) ?_
  refine wv rfl (r_lenC Try.underlying26 rfl (hM.seeR (.head _))) ?_
  obtain ⟨hg75, hx⟩ := xg_some hx
  refine wv rfl (r_sub rfl rfl hg75) ?_
  refine wv rfl (r_assign rfl) ?_
  refine wl_nil ?_
  refine sq_n ?_
  refine wc_seq ?_
  refine wc_seq ?_
  refine wc_region ?_
  refine wv rfl (r_move rfl) ?_
  refine wv rfl (r_lss rfl rfl) ?_
  refine wl_nil ?_
  refine sq_n ?_
  refine wc_cond rfl (fun hc79 => ?_) (fun hc79 => ?_)
  · replace hx := xif_t hc79 hx
    refine wc_seq ?_
    refine wc_region ?_
    refine wv rfl (r_assign rfl) ?_
    refine wl_nil ?_
    refine sq_n ?_
    refine wc_ret ?_
    refine sq_ret ?_
    obtain rfl := Option.some.inj hx
    refine fin_ret [(.int .i64 (-1))] ⟨rfl, trivial⟩ ?_
    replace hM := hM.t0
    have hM := hM.fewer rsN
    exact ⟨(), rfl, hM.gives⟩
  · replace hx := xif_f hc79 hx
    refine wc_skip ?_
    refine sq_n ?_
    refine wc_seq ?_
    refine wc_seq ?_
    refine wc_region ?_
    refine wv rfl (r_assign rfl) ?_
    refine wl_nil ?_
    refine sq_n ?_
    refine wc_block ?_
    obtain ⟨y82, hx, hx83⟩ := bind_some' hx
    obtain ⟨m88, hx⟩ := iter_run hx
    refine wc_loop (un fun (m86 : Nat) => un fun (left84 : Int) => fun (i85 : Int) => [(0, s_a.v), (1, (.int .i64 left84)), (5, (.int .i64 i85))]) (un fun (m86 : Nat) => un fun (left84 : Int) => fun (i85 : Int) w' => St ⟨w, X, S⟩ [] [rV s_a.v (cSl 3 fDEntry a)] w' ∧ iterN _ m86 (left84, i85) = some y82) (fun p => p.1) (m88, left - (a.length : Int), 0) ⟨rfl, rfl, rfl, trivial⟩ ⟨hM, hx⟩ ?_
    rintro ⟨m86, left84, i85⟩ w89 ⟨hM, hx⟩
    obtain ⟨m90, z91, rfl, hx, hx92⟩ := iterN_step hx
    unfold x_laws_szEntryS_f0 x_laws_szEntryS_b0 at hx
    try dsimp only at hx
    refine wc_seq ?_
    refine wc_seq ?_
    refine wc_region ?_
    refine wv rfl (r_move rfl) ?_
    refine wv rfl (r_move rfl) ?_
    refine wv rfl (r_lenC Try.underlying26 rfl (hM.seeR (.head _))) ?_
    refine wv rfl (r_lss rfl rfl) ?_
    refine wl_nil ?_
    refine sq_n ?_
    refine wc_cond rfl (fun hc97 => ?_) (fun hc97 => ?_)
    · replace hx := xif_t hc97 hx
      refine wc_skip ?_
      refine sq_n ?_
      refine wc_seq ?_
      refine wc_block ?_
      refine wc_seq ?_
      refine wc_region ?_
      refine wv rfl (r_move rfl) ?_
      refine wv rfl (r_move rfl) ?_
      obtain ⟨hg102, hx⟩ := xg_some hx
      have hi101 : i85.toNat < a.length := by omega
      refine wv rfl (r_ixC Try.underlying26 sz94 rfl rfl (hM.seeR (.head _)) hg102) ?_
      obtain ⟨s104, hM, hc105⟩ := hM.leaf (i := i85.toNat) (j := 2) (.head _) (fun _ => rfl) hi101 rfl
      refine wv rfl (r_ldC (o := i85.toNat * 3) Try.underlying94 sz94 rfl (us := [(.int .i64 ((el a i85.toNat).client)), (.int .i64 ((el a i85.toNat).seq)), s104.v]) rfl (hM.seeR (.tail _ (.head _))) hi101 ⟨(Cs.get (i := i85.toNat) (j := 0) (hM.seeR (.tail _ (.head _))) (fun _ => rfl) hi101 rfl), (Cs.get (i := i85.toNat) (j := 1) (hM.seeR (.tail _ (.head _))) (fun _ => rfl) hi101 rfl), (hc105 _ (Rel.refl _)), trivial⟩) ?_
      refine wv rfl (r_move rfl) ?_
      obtain ⟨r107, h108, hx⟩ := bind_some' hx
      refine w_call rfl rfl (hM.callV fun X S oL hS hR hO => ct_laws_szEntry _ X S (el a i85.toNat) s104 left84 hS (hR _ (.head _)) oL h108) ?_
      rintro _ w109 ⟨rfl, hR110⟩
      have hM := hM.call hR110
      refine wv rfl (r_assign rfl) ?_
      refine wl_nil ?_
      refine sq_n ?_
      refine wc_seq ?_
      refine wc_region ?_
      refine wv rfl (r_move rfl) ?_
      refine wv rfl (r_lss rfl rfl) ?_
      refine wl_nil ?_
      refine sq_n ?_
      refine wc_cond rfl (fun hc114 => ?_) (fun hc114 => ?_)
      · replace hx := xif_t hc114 hx
        refine wc_seq ?_
        refine wc_region ?_
        refine wv rfl (r_assign rfl) ?_
        refine wl_nil ?_
        refine sq_n ?_
        refine wc_ret ?_
        refine bk_ret ?_
        refine sq_ret ?_
        refine lp1_ret ?_
        obtain rfl := Option.some.inj hx
        obtain rfl := Option.some.inj hx92
        replace hx := hx83
        try dsimp only [Sum.elim_inl, Sum.elim_inr] at hx
        refine bk_ret ?_
        refine sq_ret ?_
        obtain rfl := Option.some.inj hx
        refine fin_ret [(.int .i64 (-1))] ⟨rfl, trivial⟩ ?_
        replace hM := hM.t0
        have hM := hM.fewer rsN
        exact ⟨(), rfl, hM.gives⟩
      · replace hx := xif_f hc114 hx
        refine wc_skip ?_
        refine bk_n ?_
        refine sq_n ?_
        refine wc_region ?_
        refine wv rfl (r_move rfl) ?_
        obtain ⟨hg118, hx⟩ := xg_some hx
        refine wv rfl (r_add rfl rfl hg118) ?_
        refine wv rfl (r_assign rfl) ?_
        refine wl_nil ?_
        obtain rfl := Option.some.inj hx
        have hM := hM.fewer (rsC (.tail _ (.head _)) rsN)
        replace hM : St ⟨w, X, S⟩ [] [rV s_a.v (cSl 3 fDEntry a)] _ := hM
        exact lp_end (m90, r107, i85 + 1) (Nat.lt_succ_self _) ⟨rfl, rfl, rfl, trivial⟩ ⟨hM, hx92⟩
    · replace hx := xif_f hc97 hx
      refine wc_exit ?_
      refine sq_exit ?_
      refine lp1_exit ?_
      obtain rfl := Option.some.inj hx
      obtain rfl := Option.some.inj hx92
      replace hx := hx83
      try dsimp only [Sum.elim_inl, Sum.elim_inr] at hx
      refine bk_here ?_
      refine sq_n ?_
      refine wc_seq ?_
      refine wc_region ?_
      refine wv rfl (r_move rfl) ?_
      refine wv rfl (r_assign rfl) ?_
      refine wl_nil ?_
      refine sq_n ?_
      refine wc_ret ?_
      obtain rfl := Option.some.inj hx
      refine fin_ret [(.int .i64 left84)] ⟨rfl, trivial⟩ ?_
      replace hM := hM.t0
      have hM := hM.fewer rsN
      exact ⟨(), rfl, hM.gives⟩

noncomputable def x_laws_szAnswer (a : DAnswer) (left : Int) : Option Int :=
  Option.bind (x_laws_szIntS a.text left) fun r9 => bif decide (r9 < 0) then (some (-1)) else (Option.bind (x_laws_szEntryS a.list r9) fun r20 => bif decide (r20 < 0) then (some (-1)) else (some r20))
theorem ct_laws_szAnswer (w : World) (X S : Bs) (a : DAnswer) (s_a_2 : Sv) (s_a_3 : Sv) (left : Int) (hS : ∀ b, S b → b < w.heap.size ∧ ¬ X b) (a_a_2 : (cSl 1 fI a.text).rd S w s_a_2.v) (a_a_3 : (cSl 3 fDEntry a.list).rd S w s_a_3.v) (oL : Sep [] X w) {r : Int} (hx : x_laws_szAnswer a left = some r) :
    Ret Try.prog 20 [(.agg #[(.int .i64 a.code), (.int .i64 a.rev), s_a_2.v, s_a_3.v]), (.int .i64 left)] w (fun u w' => ∃ _ : Unit, u = (.int .i64 r) ∧ Gives X S w [] [] w') := by
  unfold x_laws_szAnswer at hx
  refine enter Try.func20 rfl Try.ntmps20 (by kernel_rfl) rfl ?_
  have hM := St.enter oL hS
  have hM := hM.addE (r := rV s_a_2.v (cSl 1 fI a.text)) a_a_2
  have hM := hM.addE (r := rV s_a_3.v (cSl 3 fDEntry a.list)) a_a_3
  refine wc_seq ?_
  refine wc_region ?_
  refine w_ex rfl (x_box rfl hM ?_); intro b31 w30 hR32 hM
  replace hM : St ⟨w, X, S⟩ [oBox b31 #[(.int .i64 a.code), (.int .i64 a.rev), s_a_2.v, s_a_3.v] 28] [rV s_a_3.v (cSl 3 fDEntry a.list), rV s_a_2.v (cSl 1 fI a.text)] _ := hM
  refine wv rfl (r_assign rfl) ?_
  refine wl_nil ?_
  refine sq_n ?_
  refine wc_seq ?_
  refine wc_region ?_
  refine wv rfl (r_fld Try.underlying28 rfl rfl sz23 rfl) ?_
  refine wv rfl (r_ldB Try.underlying23 rfl rfl hM (.head _) rfl) ?_
  refine wv rfl (r_move rfl) ?_
  obtain ⟨r38, h39, hx⟩ := bind_some' hx
  refine w_call rfl rfl (hM.callV fun X S oL hS hR hO => ct_laws_szIntS _ X S a.text s_a_2 left hS (hR _ (.tail _ (.head _))) oL h39) ?_
  rintro _ w40 ⟨rfl, hR41⟩
  have hM := hM.call hR41
  refine wv rfl (r_assign rfl) ?_
  refine wl_nil ?_
  refine sq_n ?_
  refine wc_seq ?_
  refine wc_seq ?_
  refine wc_region ?_
  refine wv rfl (r_move rfl) ?_
  refine wv rfl (r_lss rfl rfl) ?_
  refine wl_nil ?_
  refine sq_n ?_
  refine wc_cond rfl (fun hc45 => ?_) (fun hc45 => ?_)
  · replace hx := xif_t hc45 hx
    refine wc_seq ?_
    refine wc_region ?_
    refine wv rfl (r_assign rfl) ?_
    refine wl_nil ?_
    refine sq_n ?_
    refine wc_ret ?_
    refine sq_ret ?_
    obtain rfl := Option.some.inj hx
    refine fin_ret [(.int .i64 (-1))] ⟨rfl, trivial⟩ ?_
    replace hM := hM.t0
    have hM := hM.fewer rsN
    exact ⟨(), rfl, hM.gives⟩
  · replace hx := xif_f hc45 hx
    refine wc_skip ?_
    refine sq_n ?_
    refine wc_seq ?_
    refine wc_region ?_
    refine wv rfl (r_fld Try.underlying28 rfl rfl sz26 rfl) ?_
    refine wv rfl (r_ldB Try.underlying26 rfl rfl hM (.head _) rfl) ?_
    refine wv rfl (r_move rfl) ?_
    obtain ⟨r50, h51, hx⟩ := bind_some' hx
    refine w_call rfl rfl (hM.callV fun X S oL hS hR hO => ct_laws_szEntryS _ X S a.list s_a_3 r38 hS (hR _ (.head _)) oL h51) ?_
    rintro _ w52 ⟨rfl, hR53⟩
    have hM := hM.call hR53
    refine wv rfl (r_assign rfl) ?_
    refine wl_nil ?_
    refine sq_n ?_
    refine wc_seq ?_
    refine wc_seq ?_
    refine wc_region ?_
    refine wv rfl (r_move rfl) ?_
    refine wv rfl (r_lss rfl rfl) ?_
    refine wl_nil ?_
    refine sq_n ?_
    refine wc_cond rfl (fun hc57 => ?_) (fun hc57 => ?_)
    · replace hx := xif_t hc57 hx
      refine wc_seq ?_
      refine wc_region ?_
      refine wv rfl (r_assign rfl) ?_
      refine wl_nil ?_
      refine sq_n ?_
      refine wc_ret ?_
      refine sq_ret ?_
      obtain rfl := Option.some.inj hx
      refine fin_ret [(.int .i64 (-1))] ⟨rfl, trivial⟩ ?_
      replace hM := hM.t0
      have hM := hM.fewer rsN
      exact ⟨(), rfl, hM.gives⟩
    · replace hx := xif_f hc57 hx
      refine wc_skip ?_
      refine sq_n ?_
      refine wc_seq ?_
      refine wc_region ?_
      refine wv rfl (r_move rfl) ?_
      refine wv rfl (r_assign rfl) ?_
      refine wl_nil ?_
      refine sq_n ?_
      refine wc_ret ?_
      obtain rfl := Option.some.inj hx
      refine fin_ret [(.int .i64 r50)] ⟨rfl, trivial⟩ ?_
      replace hM := hM.t0
      have hM := hM.fewer rsN
      exact ⟨(), rfl, hM.gives⟩

noncomputable def x_laws_szTask (a : DTask) (left : Int) : Option Int :=
  Option.bind (x_laws_szCall a.c left) fun r9 => bif decide (r9 < 0) then (some (-1)) else (Option.bind (x_laws_szAnswer a.a r9) fun r20 => bif decide (r20 < 0) then (some (-1)) else (some r20))
theorem ct_laws_szTask (w : World) (X S : Bs) (a : DTask) (s_a_5 : Sv) (s_a_6 : Sv) (s_a_13 : Sv) (s_a_14 : Sv) (left : Int) (hS : ∀ b, S b → b < w.heap.size ∧ ¬ X b) (a_a_5 : (cSl 3 fDPart a.c.o).rd S w s_a_5.v) (a_a_6 : (cSl 1 fI a.c.text).rd S w s_a_6.v) (a_a_13 : (cSl 1 fI a.a.text).rd S w s_a_13.v) (a_a_14 : (cSl 3 fDEntry a.a.list).rd S w s_a_14.v) (oL : Sep [] X w) {r : Int} (hx : x_laws_szTask a left = some r) :
    Ret Try.prog 5 [(.agg #[(.int .i64 a.c.kind), (.string a.c.doc), (.int .i64 a.c.client), (.int .i64 a.c.seq), (.int .i64 a.c.n), s_a_5.v, s_a_6.v, (.int .i64 a.pc), (.int .i64 a.inv), (.int .i64 a.lin), (.int .i64 a.res), (.int .i64 a.a.code), (.int .i64 a.a.rev), s_a_13.v, s_a_14.v]), (.int .i64 left)] w (fun u w' => ∃ _ : Unit, u = (.int .i64 r) ∧ Gives X S w [] [] w') := by
  unfold x_laws_szTask at hx
  refine enter Try.func5 rfl Try.ntmps5 (by kernel_rfl) rfl ?_
  have hM := St.enter oL hS
  have hM := hM.addE (r := rV s_a_5.v (cSl 3 fDPart a.c.o)) a_a_5
  have hM := hM.addE (r := rV s_a_6.v (cSl 1 fI a.c.text)) a_a_6
  have hM := hM.addE (r := rV s_a_13.v (cSl 1 fI a.a.text)) a_a_13
  have hM := hM.addE (r := rV s_a_14.v (cSl 3 fDEntry a.a.list)) a_a_14
  refine wc_seq ?_
  refine wc_region ?_
  refine w_ex rfl (x_box rfl hM ?_); intro b31 w30 hR32 hM
  replace hM : St ⟨w, X, S⟩ [oBox b31 #[(.int .i64 a.c.kind), (.string a.c.doc), (.int .i64 a.c.client), (.int .i64 a.c.seq), (.int .i64 a.c.n), s_a_5.v, s_a_6.v, (.int .i64 a.pc), (.int .i64 a.inv), (.int .i64 a.lin), (.int .i64 a.res), (.int .i64 a.a.code), (.int .i64 a.a.rev), s_a_13.v, s_a_14.v] 30] [rV s_a_14.v (cSl 3 fDEntry a.a.list), rV s_a_13.v (cSl 1 fI a.a.text), rV s_a_6.v (cSl 1 fI a.c.text), rV s_a_5.v (cSl 3 fDPart a.c.o)] _ := hM
  refine wv rfl (r_assign rfl) ?_
  refine wl_nil ?_
  refine sq_n ?_
  refine wc_seq ?_
  refine wc_region ?_
  refine wv rfl (r_fld Try.underlying30 rfl rfl sz25 rfl) ?_
  refine wv rfl (r_ldBS Try.underlying25 sz25 rfl (us := [(.int .i64 a.c.kind), (.string a.c.doc), (.int .i64 a.c.client), (.int .i64 a.c.seq), (.int .i64 a.c.n), s_a_5.v, s_a_6.v]) rfl hM (.head _) rfl) ?_
  refine wv rfl (r_move rfl) ?_
  obtain ⟨r38, h39, hx⟩ := bind_some' hx
  refine w_call rfl rfl (hM.callV fun X S oL hS hR hO => ct_laws_szCall _ X S a.c s_a_5 s_a_6 left hS (hR _ (.tail _ (.tail _ (.tail _ (.head _))))) (hR _ (.tail _ (.tail _ (.head _)))) oL h39) ?_
  rintro _ w40 ⟨rfl, hR41⟩
  have hM := hM.call hR41
  refine wv rfl (r_assign rfl) ?_
  refine wl_nil ?_
  refine sq_n ?_
  refine wc_seq ?_
  refine wc_seq ?_
  refine wc_region ?_
  refine wv rfl (r_move rfl) ?_
  refine wv rfl (r_lss rfl rfl) ?_
  refine wl_nil ?_
  refine sq_n ?_
  refine wc_cond rfl (fun hc45 => ?_) (fun hc45 => ?_)
  · replace hx := xif_t hc45 hx
    refine wc_seq ?_
    refine wc_region ?_
    refine wv rfl (r_assign rfl) ?_
    refine wl_nil ?_
    refine sq_n ?_
    refine wc_ret ?_
    refine sq_ret ?_
    obtain rfl := Option.some.inj hx
    refine fin_ret [(.int .i64 (-1))] ⟨rfl, trivial⟩ ?_
    replace hM := hM.t0
    have hM := hM.fewer rsN
    exact ⟨(), rfl, hM.gives⟩
  · replace hx := xif_f hc45 hx
    refine wc_skip ?_
    refine sq_n ?_
    refine wc_seq ?_
    refine wc_region ?_
    refine wv rfl (r_fld Try.underlying30 rfl rfl sz28 rfl) ?_
    refine wv rfl (r_ldBS Try.underlying28 sz28 rfl (us := [(.int .i64 a.a.code), (.int .i64 a.a.rev), s_a_13.v, s_a_14.v]) rfl hM (.head _) rfl) ?_
    refine wv rfl (r_move rfl) ?_
    obtain ⟨r50, h51, hx⟩ := bind_some' hx
    refine w_call rfl rfl (hM.callV fun X S oL hS hR hO => ct_laws_szAnswer _ X S a.a s_a_13 s_a_14 r38 hS (hR _ (.tail _ (.head _))) (hR _ (.head _)) oL h51) ?_
    rintro _ w52 ⟨rfl, hR53⟩
    have hM := hM.call hR53
    refine wv rfl (r_assign rfl) ?_
    refine wl_nil ?_
    refine sq_n ?_
    refine wc_seq ?_
    refine wc_seq ?_
    refine wc_region ?_
    refine wv rfl (r_move rfl) ?_
    refine wv rfl (r_lss rfl rfl) ?_
    refine wl_nil ?_
    refine sq_n ?_
    refine wc_cond rfl (fun hc57 => ?_) (fun hc57 => ?_)
    · replace hx := xif_t hc57 hx
      refine wc_seq ?_
      refine wc_region ?_
      refine wv rfl (r_assign rfl) ?_
      refine wl_nil ?_
      refine sq_n ?_
      refine wc_ret ?_
      refine sq_ret ?_
      obtain rfl := Option.some.inj hx
      refine fin_ret [(.int .i64 (-1))] ⟨rfl, trivial⟩ ?_
      replace hM := hM.t0
      have hM := hM.fewer rsN
      exact ⟨(), rfl, hM.gives⟩
    · replace hx := xif_f hc57 hx
      refine wc_skip ?_
      refine sq_n ?_
      refine wc_seq ?_
      refine wc_region ?_
      refine wv rfl (r_move rfl) ?_
      refine wv rfl (r_assign rfl) ?_
      refine wl_nil ?_
      refine sq_n ?_
      refine wc_ret ?_
      obtain rfl := Option.some.inj hx
      refine fin_ret [(.int .i64 r50)] ⟨rfl, trivial⟩ ?_
      replace hM := hM.t0
      have hM := hM.fewer rsN
      exact ⟨(), rfl, hM.gives⟩

noncomputable def x_laws_toIntS_b0 (a : List Int) (i34 : Int) (l35 : List Int) : Option (Lr (Int × List Int) (List Int)) :=
  bif decide (i34 < (a.length : Int)) then (xg (0 ≤ i34 ∧ i34 < (a.length : Int)) <| xg (0 ≤ i34 ∧ i34 < (l35.length : Int)) <| xg (inI (i34 + 1)) <| some (Lr.go (i34 + 1, l35.set i34.toNat (el a i34.toNat)))) else (some (Lr.out l35))
noncomputable def x_laws_toIntS_f0 (a : List Int) (s79 : Int × List Int) : Option (Lr (Int × List Int) (List Int)) := x_laws_toIntS_b0 a s79.1 s79.2
noncomputable def x_laws_toIntS (a : List Int) : Option (List Int) :=
  xg (0 ≤ (a.length : Int) ∧ (a.length : Int) ≤ 1099511627776) <| Option.bind (iter (x_laws_toIntS_f0 a) (0, List.replicate ((a.length : Int).toNat) 0)) fun (y80 : List Int) => some y80
theorem ct_laws_toIntS (w : World) (X S : Bs) (a : List Int) (s_a : Sv) (hS : ∀ b, S b → b < w.heap.size ∧ ¬ X b) (a_a_0 : (cSl 1 fI a).rd S w s_a.v) (oL : Sep [] X w) {r : List Int} (hx : x_laws_toIntS a = some r) :
    Ret Try.prog 37 [s_a.v] w (fun u w' => ∃ y : Sv, u = y.v ∧ Gives X S w [oC (cSl 1 fI r) y.v] [] w') := by
  unfold x_laws_toIntS at hx
  refine enter Try.func37 rfl Try.ntmps37 (by kernel_rfl) rfl ?_
  have hM := St.enter oL hS
  have hM := hM.addE (r := rV s_a.v (cSl 1 fI a)) a_a_0
  refine wc_seq ?_
  refine wc_region ?_
  refine wv rfl (r_assign rfl) ?_
  refine wl_nil ?_
  refine sq_n ?_
  refine wc_seq ?_
  refine wc_region ?_
  refine wv rfl (r_move rfl) ?_
  refine wv rfl (r_lenC Try.underlying23 rfl (hM.seeR (.head _))) ?_
  obtain ⟨hg89, hx⟩ := xg_some hx
  have hk90 : (a.length : Int) = ((a.length : Int).toNat : Int) := by omega
  refine w_ex rfl (x_make (f := fI) (k := ((a.length : Int).toNat)) 0 Try.underlying23 sz3 (fun _ => rfl) (fun _ => zP (pV _ rfl) zN) (by rw [← hk90]; rfl) (by omega) rfl hM ?_); intro s88 w87 hR91 hM
  refine wv rfl (r_assign rfl) ?_
  refine wl_nil ?_
  refine sq_n ?_
  refine wc_seq ?_
  refine wc_seq ?_
  refine wc_region ?_
  refine wv rfl (r_assign rfl) ?_
  refine wl_nil ?_
  refine sq_n ?_
  refine wc_block ?_
  obtain ⟨y95, hx, hx96⟩ := bind_some' hx
  obtain ⟨m101, hx⟩ := iter_run hx
  refine wc_loop (un fun (m99 : Nat) => un fun (i97 : Int) => fun (l98 : List Int) => [(0, s_a.v), (3, s88.v), (4, (.int .i64 i97))]) (un fun (m99 : Nat) => un fun (i97 : Int) => fun (l98 : List Int) w' => St ⟨w, X, S⟩ [oC (cSl 1 fI l98) s88.v] [rV s_a.v (cSl 1 fI a)] w' ∧ iterN _ m99 (i97, l98) = some y95) (fun p => p.1) (m101, 0, List.replicate ((a.length : Int).toNat) 0) ⟨rfl, rfl, rfl, trivial⟩ ⟨hM, hx⟩ ?_
  rintro ⟨m99, i97, l98⟩ w102 ⟨hM, hx⟩
  obtain ⟨m103, z104, rfl, hx, hx105⟩ := iterN_step hx
  unfold x_laws_toIntS_f0 x_laws_toIntS_b0 at hx
  try dsimp only at hx
  refine wc_seq ?_
  refine wc_seq ?_
  refine wc_region ?_
  refine wv rfl (r_move rfl) ?_
  refine wv rfl (r_move rfl) ?_
  refine wv rfl (r_lenC Try.underlying23 rfl (hM.seeR (.head _))) ?_
  refine wv rfl (r_lss rfl rfl) ?_
  refine wl_nil ?_
  refine sq_n ?_
  refine wc_cond rfl (fun hc110 => ?_) (fun hc110 => ?_)
  · replace hx := xif_t hc110 hx
    refine wc_skip ?_
    refine sq_n ?_
    refine wc_seq ?_
    refine wc_block ?_
    refine wc_region ?_
    refine wv rfl (r_move rfl) ?_
    refine wv rfl (r_move rfl) ?_
    refine wv rfl (r_move rfl) ?_
    refine wv rfl (r_move rfl) ?_
    obtain ⟨hg117, hx⟩ := xg_some hx
    have hi116 : i97.toNat < a.length := by omega
    refine wv rfl (r_ixC Try.underlying23 sz3 rfl rfl (hM.seeR (.head _)) hg117) ?_
    refine wv rfl (r_ld Try.underlying3 rfl rfl (Cs.get (i := i97.toNat) (j := 0) (hM.seeR (.head _)) (fun _ => rfl) hi116 rfl)) ?_
    obtain ⟨hg121, hx⟩ := xg_some hx
    have hi120 : i97.toNat < l98.length := by omega
    refine wv rfl (r_ixC Try.underlying23 sz3 rfl rfl (hM.seeO (.head _)) hg121) ?_
    refine w_exu (x_stE (f := fI) (k := 1) (L := l98) (i := i97.toNat) (j := 0) (el a i97.toNat) [cI (el a i97.toNat)] sz3 (fun _ => rfl) rfl rfl hi120 rfl rfl rfl rfl rfl (fun _ => zP (pV _ rfl) zN) hM ?_); intro w122 hM
    refine wl_nil ?_
    refine bk_n ?_
    refine sq_n ?_
    refine wc_region ?_
    refine wv rfl (r_move rfl) ?_
    obtain ⟨hg126, hx⟩ := xg_some hx
    refine wv rfl (r_add rfl rfl hg126) ?_
    refine wv rfl (r_assign rfl) ?_
    refine wl_nil ?_
    obtain rfl := Option.some.inj hx
    exact lp_end (m103, i97 + 1, l98.set i97.toNat (el a i97.toNat)) (Nat.lt_succ_self _) ⟨rfl, rfl, rfl, trivial⟩ ⟨hM, hx105⟩
  · replace hx := xif_f hc110 hx
    refine wc_exit ?_
    refine sq_exit ?_
    refine lp1_exit ?_
    obtain rfl := Option.some.inj hx
    obtain rfl := Option.some.inj hx105
    replace hx := hx96
    try dsimp only [Sum.elim_inl, Sum.elim_inr] at hx
    refine bk_here ?_
    refine sq_n ?_
    refine wc_seq ?_
    refine wc_region ?_
    refine wv rfl (r_move rfl) ?_
    refine wv rfl (r_assign rfl) ?_
    refine wl_nil ?_
    refine sq_n ?_
    refine wc_ret ?_
    obtain rfl := Option.some.inj hx
    refine fin_ret [s88.v] ⟨rfl, trivial⟩ ?_
    replace hM := hM.t1
    have hM := hM.fewer rsN
    exact ⟨s88, rfl, hM.gives⟩

noncomputable def x_laws_toPart (a : DPart) : Option DPart :=
  Option.bind (x_laws_toIntS a.signs) fun r25 => some (⟨a.kind, a.n, r25⟩ : DPart)
theorem ct_laws_toPart (w : World) (X S : Bs) (a : DPart) (s_a_2 : Sv) (hS : ∀ b, S b → b < w.heap.size ∧ ¬ X b) (a_a_2 : (cSl 1 fI a.signs).rd S w s_a_2.v) (oL : Sep [] X w) {r : DPart} (hx : x_laws_toPart a = some r) :
    Ret Try.prog 80 [(.agg #[(.int .i64 a.kind), (.int .i64 a.n), s_a_2.v])] w (fun u w' => ∃ y : Sv, u = .agg #[(.int .i64 r.kind), (.int .i64 r.n), y.v] ∧ Gives X S w [oC (cSl 1 fI r.signs) y.v] [] w') := by
  unfold x_laws_toPart at hx
  refine enter Try.func80 rfl Try.ntmps80 (by kernel_rfl) rfl ?_
  have hM := St.enter oL hS
  have hM := hM.addE (r := rV s_a_2.v (cSl 1 fI a.signs)) a_a_2
  refine wc_seq ?_
  refine wc_region ?_
  refine w_ex rfl (x_box rfl hM ?_); intro b37 w36 hR38 hM
  replace hM : St ⟨w, X, S⟩ [oBox b37 #[(.int .i64 a.kind), (.int .i64 a.n), s_a_2.v] 117] [rV s_a_2.v (cSl 1 fI a.signs)] _ := hM
  refine w_ex rfl (x_alloc sz105 hM ?_); intro b41 w40 hR42 hM
  replace hM : St ⟨w, X, S⟩ [oBox b41 #[(.int .i64 0), (.int .i64 0), (.slice none 0 0)] 105, oBox b37 #[(.int .i64 a.kind), (.int .i64 a.n), s_a_2.v] 117] [rV s_a_2.v (cSl 1 fI a.signs)] _ := hM
  refine wl_nil ?_
  refine sq_n ?_
  refine wc_seq ?_
  refine wc_region ?_
  refine w_ex rfl (x_alloc sz105 hM ?_); intro b45 w44 hR46 hM
  replace hM : St ⟨w, X, S⟩ [oBox b45 #[(.int .i64 0), (.int .i64 0), (.slice none 0 0)] 105, oBox b41 #[(.int .i64 0), (.int .i64 0), (.slice none 0 0)] 105, oBox b37 #[(.int .i64 a.kind), (.int .i64 a.n), s_a_2.v] 117] [rV s_a_2.v (cSl 1 fI a.signs)] _ := hM
  refine wl_nil ?_
  refine sq_n ?_
  refine wc_seq ?_
  refine wc_region ?_
  refine wv rfl (r_fld Try.underlying117 rfl rfl sz3 rfl) ?_
  refine wv rfl (r_ldB Try.underlying3 rfl rfl hM (.tail _ (.tail _ (.head _))) rfl) ?_
  refine wv rfl (r_fld Try.underlying105 rfl rfl sz3 rfl) ?_
  refine w_exu (x_stB #[(.int .i64 a.kind), (.int .i64 0), (.slice none 0 0)] sz3 rfl rfl rfl rfl rfl rfl hM ?_); intro w51 hM
  refine wl_nil ?_
  refine sq_n ?_
  refine wc_seq ?_
  refine wc_region ?_
  refine wv rfl (r_fld Try.underlying117 rfl rfl sz3 rfl) ?_
  refine wv rfl (r_ldB Try.underlying3 rfl rfl hM (.tail _ (.tail _ (.head _))) rfl) ?_
  refine wv rfl (r_fld Try.underlying105 rfl rfl sz3 rfl) ?_
  refine w_exu (x_stB #[(.int .i64 a.kind), (.int .i64 a.n), (.slice none 0 0)] sz3 rfl rfl rfl rfl rfl rfl hM ?_); intro w56 hM
  refine wl_nil ?_
  refine sq_n ?_
  refine wc_seq ?_
  refine wc_region ?_
  refine wv rfl (r_fld Try.underlying117 rfl rfl sz23 rfl) ?_
  refine wv rfl (r_ldB Try.underlying23 rfl rfl hM (.tail _ (.tail _ (.head _))) rfl) ?_
  obtain ⟨r60, h61, hx⟩ := bind_some' hx
  refine w_call rfl rfl (hM.callO (l := []) fun X S oL hS hR hO => ct_laws_toIntS _ X S a.signs s_a_2 hS (hR _ (.head _)) oL h61) ?_
  rintro _ w62 ⟨s63, rfl, hM⟩
  replace hM : St ⟨w, X, S⟩ [oC (cSl 1 fI r60) s63.v, oBox b45 #[(.int .i64 a.kind), (.int .i64 a.n), (.slice none 0 0)] 105, oBox b41 #[(.int .i64 0), (.int .i64 0), (.slice none 0 0)] 105, oBox b37 #[(.int .i64 a.kind), (.int .i64 a.n), s_a_2.v] 117] [rV s_a_2.v (cSl 1 fI a.signs)] _ := hM
  refine wv rfl (r_fld Try.underlying105 rfl rfl sz23 rfl) ?_
  replace hM := hM.p1
  refine w_exu (x_stB #[(.int .i64 a.kind), (.int .i64 a.n), s63.v] sz23 rfl rfl rfl rfl rfl rfl hM ?_); intro w66 hM
  refine wl_nil ?_
  refine sq_n ?_
  refine wc_seq ?_
  refine wc_region ?_
  refine wv rfl (r_ldBS Try.underlying105 sz105 rfl (us := [(.int .i64 a.kind), (.int .i64 a.n), s63.v]) rfl hM (.head _) rfl) ?_
  replace hM := hM.p2
  refine w_exu (x_stB #[(.int .i64 a.kind), (.int .i64 a.n), s63.v] sz105 rfl rfl rfl rfl rfl rfl hM ?_); intro w69 hM
  refine wl_nil ?_
  refine sq_n ?_
  refine wc_ret ?_
  obtain rfl := Option.some.inj hx
  refine fin_ret [(.agg #[(.int .i64 a.kind), (.int .i64 a.n), s63.v])] ⟨rv_box Try.underlying105 sz105 rfl rfl hM (.head _), trivial⟩ ?_
  replace hM := hM.p2
  replace hM := hM.t1
  have hM := hM.fewer rsN
  exact ⟨s63, rfl, hM.gives⟩

noncomputable def x_laws_toPartS_b0 (a : List DPart) (i41 : Int) (l42 : List DPart) : Option (Lr (Int × List DPart) (List DPart)) :=
  bif decide (i41 < (a.length : Int)) then (xg (0 ≤ i41 ∧ i41 < (a.length : Int)) <| Option.bind (x_laws_toPart (el a i41.toNat)) fun r86 => xg (0 ≤ i41 ∧ i41 < (l42.length : Int)) <| xg (inI (i41 + 1)) <| some (Lr.go (i41 + 1, l42.set i41.toNat r86))) else (some (Lr.out l42))
noncomputable def x_laws_toPartS_f0 (a : List DPart) (s100 : Int × List DPart) : Option (Lr (Int × List DPart) (List DPart)) := x_laws_toPartS_b0 a s100.1 s100.2
noncomputable def x_laws_toPartS (a : List DPart) : Option (List DPart) :=
  xg (0 ≤ (a.length : Int) ∧ (a.length : Int) ≤ 1099511627776) <| Option.bind (iter (x_laws_toPartS_f0 a) (0, List.replicate ((a.length : Int).toNat) (default : DPart))) fun (y101 : List DPart) => some y101
theorem ct_laws_toPartS (w : World) (X S : Bs) (a : List DPart) (s_a : Sv) (hS : ∀ b, S b → b < w.heap.size ∧ ¬ X b) (a_a_0 : (cSl 3 fDPart a).rd S w s_a.v) (oL : Sep [] X w) {r : List DPart} (hx : x_laws_toPartS a = some r) :
    Ret Try.prog 52 [s_a.v] w (fun u w' => ∃ y : Sv, u = y.v ∧ Gives X S w [oC (cSl 3 fDPart r) y.v] [] w') := by
  unfold x_laws_toPartS at hx
  refine enter Try.func52 rfl Try.ntmps52 (by kernel_rfl) rfl ?_
  have hM := St.enter oL hS
  have hM := hM.addE (r := rV s_a.v (cSl 3 fDPart a)) a_a_0
  refine wc_seq ?_
  refine wc_region ?_
  refine wv rfl (r_assign rfl) ?_
  refine wl_nil ?_
  refine sq_n ?_
  refine wc_seq ?_
  refine wc_region ?_
  refine wv rfl (r_move rfl) ?_
  refine wv rfl (r_lenC Try.underlying22 rfl (hM.seeR (.head _))) ?_
  obtain ⟨hg110, hx⟩ := xg_some hx
  have hk111 : (a.length : Int) = ((a.length : Int).toNat : Int) := by omega
  refine w_ex rfl (x_make (f := fDPart) (k := ((a.length : Int).toNat)) (default : DPart) Try.underlying33 sz105 (fun _ => rfl) (fun _ => zP (pV _ rfl) (zP (pV _ rfl) (zP (pN _ _) zN))) (by rw [← hk111]; rfl) (by omega) rfl hM ?_); intro s109 w108 hR112 hM
  refine wv rfl (r_assign rfl) ?_
  refine wl_nil ?_
  refine sq_n ?_
  refine wc_seq ?_
  refine wc_seq ?_
  refine wc_region ?_
  refine wv rfl (r_assign rfl) ?_
  refine wl_nil ?_
  refine sq_n ?_
  refine wc_block ?_
  obtain ⟨y116, hx, hx117⟩ := bind_some' hx
  obtain ⟨m122, hx⟩ := iter_run hx
  refine wc_loop (un fun (m120 : Nat) => un fun (i118 : Int) => fun (l119 : List DPart) => [(0, s_a.v), (3, s109.v), (4, (.int .i64 i118))]) (un fun (m120 : Nat) => un fun (i118 : Int) => fun (l119 : List DPart) w' => St ⟨w, X, S⟩ [oC (cSl 3 fDPart l119) s109.v] [rV s_a.v (cSl 3 fDPart a)] w' ∧ iterN _ m120 (i118, l119) = some y116) (fun p => p.1) (m122, 0, List.replicate ((a.length : Int).toNat) (default : DPart)) ⟨rfl, rfl, rfl, trivial⟩ ⟨hM, hx⟩ ?_
  rintro ⟨m120, i118, l119⟩ w123 ⟨hM, hx⟩
  obtain ⟨m124, z125, rfl, hx, hx126⟩ := iterN_step hx
  unfold x_laws_toPartS_f0 x_laws_toPartS_b0 at hx
  try dsimp only at hx
  refine wc_seq ?_
  refine wc_seq ?_
  refine wc_region ?_
  refine wv rfl (r_move rfl) ?_
  refine wv rfl (r_move rfl) ?_
  refine wv rfl (r_lenC Try.underlying22 rfl (hM.seeR (.head _))) ?_
  refine wv rfl (r_lss rfl rfl) ?_
  refine wl_nil ?_
  refine sq_n ?_
  refine wc_cond rfl (fun hc131 => ?_) (fun hc131 => ?_)
  · replace hx := xif_t hc131 hx
    refine wc_skip ?_
    refine sq_n ?_
    refine wc_seq ?_
    refine wc_block ?_
    refine wc_region ?_
    refine wv rfl (r_move rfl) ?_
    refine wv rfl (r_move rfl) ?_
    refine wv rfl (r_move rfl) ?_
    refine wv rfl (r_move rfl) ?_
    obtain ⟨hg138, hx⟩ := xg_some hx
    have hi137 : i118.toNat < a.length := by omega
    refine wv rfl (r_ixC Try.underlying22 sz117 rfl rfl (hM.seeR (.head _)) hg138) ?_
    obtain ⟨s140, hM, hc141⟩ := hM.leaf (i := i118.toNat) (j := 2) (.head _) (fun _ => rfl) hi137 rfl
    refine wv rfl (r_ldC (o := i118.toNat * 3) Try.underlying117 sz117 rfl (us := [(.int .i64 ((el a i118.toNat).kind)), (.int .i64 ((el a i118.toNat).n)), s140.v]) rfl (hM.seeR (.tail _ (.head _))) hi137 ⟨(Cs.get (i := i118.toNat) (j := 0) (hM.seeR (.tail _ (.head _))) (fun _ => rfl) hi137 rfl), (Cs.get (i := i118.toNat) (j := 1) (hM.seeR (.tail _ (.head _))) (fun _ => rfl) hi137 rfl), (hc141 _ (Rel.refl _)), trivial⟩) ?_
    obtain ⟨r142, h143, hx⟩ := bind_some' hx
    refine w_call rfl rfl (hM.callO (l := []) fun X S oL hS hR hO => ct_laws_toPart _ X S (el a i118.toNat) s140 hS (hR _ (.head _)) oL h143) ?_
    rintro _ w144 ⟨s145, rfl, hM⟩
    replace hM : St ⟨w, X, S⟩ [oC (cSl 1 fI r142.signs) s145.v, oC (cSl 3 fDPart l119) s109.v] [rV s140.v (cSl 1 fI ((el a i118.toNat).signs)), rV s_a.v (cSl 3 fDPart a)] _ := hM
    obtain ⟨hg149, hx⟩ := xg_some hx
    have hi148 : i118.toNat < l119.length := by omega
    refine wv rfl (r_ixC Try.underlying33 sz105 rfl rfl (hM.seeO (.tail _ (.head _))) hg149) ?_
    replace hM := hM.p1
    refine w_exu (x_stE (f := fDPart) (k := 3) (L := l119) (i := i118.toNat) (j := 0) r142 [cI r142.kind, cI r142.n, cSl 1 fI r142.signs] sz105 (fun _ => rfl) rfl rfl hi148 rfl rfl rfl rfl rfl (fun _ => zP (pV _ rfl) (zP (pV _ rfl) (zO zN))) hM ?_); intro w150 hM
    refine wl_nil ?_
    refine bk_n ?_
    refine sq_n ?_
    refine wc_region ?_
    refine wv rfl (r_move rfl) ?_
    obtain ⟨hg154, hx⟩ := xg_some hx
    refine wv rfl (r_add rfl rfl hg154) ?_
    refine wv rfl (r_assign rfl) ?_
    refine wl_nil ?_
    obtain rfl := Option.some.inj hx
    have hM := hM.fewer (rsC (.tail _ (.head _)) rsN)
    replace hM : St ⟨w, X, S⟩ [oC (cSl 3 fDPart (l119.set i118.toNat r142)) s109.v] [rV s_a.v (cSl 3 fDPart a)] _ := hM
    exact lp_end (m124, i118 + 1, l119.set i118.toNat r142) (Nat.lt_succ_self _) ⟨rfl, rfl, rfl, trivial⟩ ⟨hM, hx126⟩
  · replace hx := xif_f hc131 hx
    refine wc_exit ?_
    refine sq_exit ?_
    refine lp1_exit ?_
    obtain rfl := Option.some.inj hx
    obtain rfl := Option.some.inj hx126
    replace hx := hx117
    try dsimp only [Sum.elim_inl, Sum.elim_inr] at hx
    refine bk_here ?_
    refine sq_n ?_
    refine wc_seq ?_
    refine wc_region ?_
    refine wv rfl (r_move rfl) ?_
    refine wv rfl (r_assign rfl) ?_
    refine wl_nil ?_
    refine sq_n ?_
    refine wc_ret ?_
    obtain rfl := Option.some.inj hx
    refine fin_ret [s109.v] ⟨rfl, trivial⟩ ?_
    replace hM := hM.t1
    have hM := hM.fewer rsN
    exact ⟨s109, rfl, hM.gives⟩

noncomputable def x_laws_toCall (a : DCall) : Option DCall :=
  Option.bind (x_laws_toPartS a.o) fun r40 => Option.bind (x_laws_toIntS a.text) fun r50 => some (⟨a.kind, a.doc, a.client, a.seq, a.n, r40, r50⟩ : DCall)
theorem ct_laws_toCall (w : World) (X S : Bs) (a : DCall) (s_a_5 : Sv) (s_a_6 : Sv) (hS : ∀ b, S b → b < w.heap.size ∧ ¬ X b) (a_a_5 : (cSl 3 fDPart a.o).rd S w s_a_5.v) (a_a_6 : (cSl 1 fI a.text).rd S w s_a_6.v) (oL : Sep [] X w) {r : DCall} (hx : x_laws_toCall a = some r) :
    Ret Try.prog 24 [(.agg #[(.int .i64 a.kind), (.string a.doc), (.int .i64 a.client), (.int .i64 a.seq), (.int .i64 a.n), s_a_5.v, s_a_6.v])] w (fun u w' => ∃ y : Sv × Sv, u = .agg #[(.int .i64 r.kind), (.string r.doc), (.int .i64 r.client), (.int .i64 r.seq), (.int .i64 r.n), y.1.v, y.2.v] ∧ Gives X S w [oC (cSl 3 fDPart r.o) y.1.v, oC (cSl 1 fI r.text) y.2.v] [] w') := by
  unfold x_laws_toCall at hx
  refine enter Try.func24 rfl Try.ntmps24 (by kernel_rfl) rfl ?_
  have hM := St.enter oL hS
  have hM := hM.addE (r := rV s_a_5.v (cSl 3 fDPart a.o)) a_a_5
  have hM := hM.addE (r := rV s_a_6.v (cSl 1 fI a.text)) a_a_6
  refine wc_seq ?_
  refine wc_region ?_
  refine w_ex rfl (x_box rfl hM ?_); intro b62 w61 hR63 hM
  replace hM : St ⟨w, X, S⟩ [oBox b62 #[(.int .i64 a.kind), (.string a.doc), (.int .i64 a.client), (.int .i64 a.seq), (.int .i64 a.n), s_a_5.v, s_a_6.v] 25] [rV s_a_6.v (cSl 1 fI a.text), rV s_a_5.v (cSl 3 fDPart a.o)] _ := hM
  refine w_ex rfl (x_alloc sz35 hM ?_); intro b66 w65 hR67 hM
  replace hM : St ⟨w, X, S⟩ [oBox b66 #[(.int .i64 0), (.string ByteArray.empty), (.int .i64 0), (.int .i64 0), (.int .i64 0), (.slice none 0 0), (.slice none 0 0)] 35, oBox b62 #[(.int .i64 a.kind), (.string a.doc), (.int .i64 a.client), (.int .i64 a.seq), (.int .i64 a.n), s_a_5.v, s_a_6.v] 25] [rV s_a_6.v (cSl 1 fI a.text), rV s_a_5.v (cSl 3 fDPart a.o)] _ := hM
  refine wl_nil ?_
  refine sq_n ?_
  refine wc_seq ?_
  refine wc_region ?_
  refine w_ex rfl (x_alloc sz35 hM ?_); intro b70 w69 hR71 hM
  replace hM : St ⟨w, X, S⟩ [oBox b70 #[(.int .i64 0), (.string ByteArray.empty), (.int .i64 0), (.int .i64 0), (.int .i64 0), (.slice none 0 0), (.slice none 0 0)] 35, oBox b66 #[(.int .i64 0), (.string ByteArray.empty), (.int .i64 0), (.int .i64 0), (.int .i64 0), (.slice none 0 0), (.slice none 0 0)] 35, oBox b62 #[(.int .i64 a.kind), (.string a.doc), (.int .i64 a.client), (.int .i64 a.seq), (.int .i64 a.n), s_a_5.v, s_a_6.v] 25] [rV s_a_6.v (cSl 1 fI a.text), rV s_a_5.v (cSl 3 fDPart a.o)] _ := hM
  refine wl_nil ?_
  refine sq_n ?_
  refine wc_seq ?_
  refine wc_region ?_
  refine wv rfl (r_fld Try.underlying25 rfl rfl sz3 rfl) ?_
  refine wv rfl (r_ldB Try.underlying3 rfl rfl hM (.tail _ (.tail _ (.head _))) rfl) ?_
  refine wv rfl (r_fld Try.underlying35 rfl rfl sz3 rfl) ?_
  refine w_exu (x_stB #[(.int .i64 a.kind), (.string ByteArray.empty), (.int .i64 0), (.int .i64 0), (.int .i64 0), (.slice none 0 0), (.slice none 0 0)] sz3 rfl rfl rfl rfl rfl rfl hM ?_); intro w76 hM
  refine wl_nil ?_
  refine sq_n ?_
  refine wc_seq ?_
  refine wc_region ?_
  refine wv rfl (r_fld Try.underlying25 rfl rfl sz9 rfl) ?_
  refine wv rfl (r_ldB Try.underlying9 rfl rfl hM (.tail _ (.tail _ (.head _))) rfl) ?_
  refine wv rfl (r_fld Try.underlying35 rfl rfl sz9 rfl) ?_
  refine w_exu (x_stB #[(.int .i64 a.kind), (.string a.doc), (.int .i64 0), (.int .i64 0), (.int .i64 0), (.slice none 0 0), (.slice none 0 0)] sz9 rfl rfl rfl rfl rfl rfl hM ?_); intro w81 hM
  refine wl_nil ?_
  refine sq_n ?_
  refine wc_seq ?_
  refine wc_region ?_
  refine wv rfl (r_fld Try.underlying25 rfl rfl sz3 rfl) ?_
  refine wv rfl (r_ldB Try.underlying3 rfl rfl hM (.tail _ (.tail _ (.head _))) rfl) ?_
  refine wv rfl (r_fld Try.underlying35 rfl rfl sz3 rfl) ?_
  refine w_exu (x_stB #[(.int .i64 a.kind), (.string a.doc), (.int .i64 a.client), (.int .i64 0), (.int .i64 0), (.slice none 0 0), (.slice none 0 0)] sz3 rfl rfl rfl rfl rfl rfl hM ?_); intro w86 hM
  refine wl_nil ?_
  refine sq_n ?_
  refine wc_seq ?_
  refine wc_region ?_
  refine wv rfl (r_fld Try.underlying25 rfl rfl sz3 rfl) ?_
  refine wv rfl (r_ldB Try.underlying3 rfl rfl hM (.tail _ (.tail _ (.head _))) rfl) ?_
  refine wv rfl (r_fld Try.underlying35 rfl rfl sz3 rfl) ?_
  refine w_exu (x_stB #[(.int .i64 a.kind), (.string a.doc), (.int .i64 a.client), (.int .i64 a.seq), (.int .i64 0), (.slice none 0 0), (.slice none 0 0)] sz3 rfl rfl rfl rfl rfl rfl hM ?_); intro w91 hM
  refine wl_nil ?_
  refine sq_n ?_
  refine wc_seq ?_
  refine wc_region ?_
  refine wv rfl (r_fld Try.underlying25 rfl rfl sz3 rfl) ?_
  refine wv rfl (r_ldB Try.underlying3 rfl rfl hM (.tail _ (.tail _ (.head _))) rfl) ?_
  refine wv rfl (r_fld Try.underlying35 rfl rfl sz3 rfl) ?_
  refine w_exu (x_stB #[(.int .i64 a.kind), (.string a.doc), (.int .i64 a.client), (.int .i64 a.seq), (.int .i64 a.n), (.slice none 0 0), (.slice none 0 0)] sz3 rfl rfl rfl rfl rfl rfl hM ?_); intro w96 hM
  refine wl_nil ?_
  refine sq_n ?_
  refine wc_seq ?_
  refine wc_region ?_
  refine wv rfl (r_fld Try.underlying25 rfl rfl sz22 rfl) ?_
  refine wv rfl (r_ldB Try.underlying22 rfl rfl hM (.tail _ (.tail _ (.head _))) rfl) ?_
  obtain ⟨r100, h101, hx⟩ := bind_some' hx
  refine w_call rfl rfl (hM.callO (l := []) fun X S oL hS hR hO => ct_laws_toPartS _ X S a.o s_a_5 hS (hR _ (.tail _ (.head _))) oL h101) ?_
  rintro _ w102 ⟨s103, rfl, hM⟩
  replace hM : St ⟨w, X, S⟩ [oC (cSl 3 fDPart r100) s103.v, oBox b70 #[(.int .i64 a.kind), (.string a.doc), (.int .i64 a.client), (.int .i64 a.seq), (.int .i64 a.n), (.slice none 0 0), (.slice none 0 0)] 35, oBox b66 #[(.int .i64 0), (.string ByteArray.empty), (.int .i64 0), (.int .i64 0), (.int .i64 0), (.slice none 0 0), (.slice none 0 0)] 35, oBox b62 #[(.int .i64 a.kind), (.string a.doc), (.int .i64 a.client), (.int .i64 a.seq), (.int .i64 a.n), s_a_5.v, s_a_6.v] 25] [rV s_a_6.v (cSl 1 fI a.text), rV s_a_5.v (cSl 3 fDPart a.o)] _ := hM
  refine wv rfl (r_fld Try.underlying35 rfl rfl sz33 rfl) ?_
  replace hM := hM.p1
  refine w_exu (x_stB #[(.int .i64 a.kind), (.string a.doc), (.int .i64 a.client), (.int .i64 a.seq), (.int .i64 a.n), s103.v, (.slice none 0 0)] sz33 rfl rfl rfl rfl rfl rfl hM ?_); intro w106 hM
  refine wl_nil ?_
  refine sq_n ?_
  refine wc_seq ?_
  refine wc_region ?_
  refine wv rfl (r_fld Try.underlying25 rfl rfl sz23 rfl) ?_
  refine wv rfl (r_ldB Try.underlying23 rfl rfl hM (.tail _ (.tail _ (.tail _ (.head _)))) rfl) ?_
  obtain ⟨r110, h111, hx⟩ := bind_some' hx
  refine w_call rfl rfl (hM.callO (l := []) fun X S oL hS hR hO => ct_laws_toIntS _ X S a.text s_a_6 hS (hR _ (.head _)) oL h111) ?_
  rintro _ w112 ⟨s113, rfl, hM⟩
  replace hM : St ⟨w, X, S⟩ [oC (cSl 1 fI r110) s113.v, oBox b70 #[(.int .i64 a.kind), (.string a.doc), (.int .i64 a.client), (.int .i64 a.seq), (.int .i64 a.n), s103.v, (.slice none 0 0)] 35, oC (cSl 3 fDPart r100) s103.v, oBox b66 #[(.int .i64 0), (.string ByteArray.empty), (.int .i64 0), (.int .i64 0), (.int .i64 0), (.slice none 0 0), (.slice none 0 0)] 35, oBox b62 #[(.int .i64 a.kind), (.string a.doc), (.int .i64 a.client), (.int .i64 a.seq), (.int .i64 a.n), s_a_5.v, s_a_6.v] 25] [rV s_a_6.v (cSl 1 fI a.text), rV s_a_5.v (cSl 3 fDPart a.o)] _ := hM
  refine wv rfl (r_fld Try.underlying35 rfl rfl sz23 rfl) ?_
  replace hM := hM.p1
  refine w_exu (x_stB #[(.int .i64 a.kind), (.string a.doc), (.int .i64 a.client), (.int .i64 a.seq), (.int .i64 a.n), s103.v, s113.v] sz23 rfl rfl rfl rfl rfl rfl hM ?_); intro w116 hM
  refine wl_nil ?_
  refine sq_n ?_
  refine wc_seq ?_
  refine wc_region ?_
  refine wv rfl (r_ldBS Try.underlying35 sz35 rfl (us := [(.int .i64 a.kind), (.string a.doc), (.int .i64 a.client), (.int .i64 a.seq), (.int .i64 a.n), s103.v, s113.v]) rfl hM (.head _) rfl) ?_
  replace hM := hM.p3
  refine w_exu (x_stB #[(.int .i64 a.kind), (.string a.doc), (.int .i64 a.client), (.int .i64 a.seq), (.int .i64 a.n), s103.v, s113.v] sz35 rfl rfl rfl rfl rfl rfl hM ?_); intro w119 hM
  refine wl_nil ?_
  refine sq_n ?_
  refine wc_ret ?_
  obtain rfl := Option.some.inj hx
  refine fin_ret [(.agg #[(.int .i64 a.kind), (.string a.doc), (.int .i64 a.client), (.int .i64 a.seq), (.int .i64 a.n), s103.v, s113.v])] ⟨rv_box Try.underlying35 sz35 rfl rfl hM (.head _), trivial⟩ ?_
  replace hM := hM.p2.p3
  replace hM := hM.t2
  have hM := hM.fewer rsN
  exact ⟨(s103, s113), rfl, hM.gives⟩

noncomputable def x_laws_toEntry (a : DEntry) : Option DEntry :=
  Option.bind (x_laws_toPartS a.o) fun r25 => some (⟨a.client, a.seq, r25⟩ : DEntry)
theorem ct_laws_toEntry (w : World) (X S : Bs) (a : DEntry) (s_a_2 : Sv) (hS : ∀ b, S b → b < w.heap.size ∧ ¬ X b) (a_a_2 : (cSl 3 fDPart a.o).rd S w s_a_2.v) (oL : Sep [] X w) {r : DEntry} (hx : x_laws_toEntry a = some r) :
    Ret Try.prog 64 [(.agg #[(.int .i64 a.client), (.int .i64 a.seq), s_a_2.v])] w (fun u w' => ∃ y : Sv, u = .agg #[(.int .i64 r.client), (.int .i64 r.seq), y.v] ∧ Gives X S w [oC (cSl 3 fDPart r.o) y.v] [] w') := by
  unfold x_laws_toEntry at hx
  refine enter Try.func64 rfl Try.ntmps64 (by kernel_rfl) rfl ?_
  have hM := St.enter oL hS
  have hM := hM.addE (r := rV s_a_2.v (cSl 3 fDPart a.o)) a_a_2
  refine wc_seq ?_
  refine wc_region ?_
  refine w_ex rfl (x_box rfl hM ?_); intro b37 w36 hR38 hM
  replace hM : St ⟨w, X, S⟩ [oBox b37 #[(.int .i64 a.client), (.int .i64 a.seq), s_a_2.v] 94] [rV s_a_2.v (cSl 3 fDPart a.o)] _ := hM
  refine w_ex rfl (x_alloc sz73 hM ?_); intro b41 w40 hR42 hM
  replace hM : St ⟨w, X, S⟩ [oBox b41 #[(.int .i64 0), (.int .i64 0), (.slice none 0 0)] 73, oBox b37 #[(.int .i64 a.client), (.int .i64 a.seq), s_a_2.v] 94] [rV s_a_2.v (cSl 3 fDPart a.o)] _ := hM
  refine wl_nil ?_
  refine sq_n ?_
  refine wc_seq ?_
  refine wc_region ?_
  refine w_ex rfl (x_alloc sz73 hM ?_); intro b45 w44 hR46 hM
  replace hM : St ⟨w, X, S⟩ [oBox b45 #[(.int .i64 0), (.int .i64 0), (.slice none 0 0)] 73, oBox b41 #[(.int .i64 0), (.int .i64 0), (.slice none 0 0)] 73, oBox b37 #[(.int .i64 a.client), (.int .i64 a.seq), s_a_2.v] 94] [rV s_a_2.v (cSl 3 fDPart a.o)] _ := hM
  refine wl_nil ?_
  refine sq_n ?_
  refine wc_seq ?_
  refine wc_region ?_
  refine wv rfl (r_fld Try.underlying94 rfl rfl sz3 rfl) ?_
  refine wv rfl (r_ldB Try.underlying3 rfl rfl hM (.tail _ (.tail _ (.head _))) rfl) ?_
  refine wv rfl (r_fld Try.underlying73 rfl rfl sz3 rfl) ?_
  refine w_exu (x_stB #[(.int .i64 a.client), (.int .i64 0), (.slice none 0 0)] sz3 rfl rfl rfl rfl rfl rfl hM ?_); intro w51 hM
  refine wl_nil ?_
  refine sq_n ?_
  refine wc_seq ?_
  refine wc_region ?_
  refine wv rfl (r_fld Try.underlying94 rfl rfl sz3 rfl) ?_
  refine wv rfl (r_ldB Try.underlying3 rfl rfl hM (.tail _ (.tail _ (.head _))) rfl) ?_
  refine wv rfl (r_fld Try.underlying73 rfl rfl sz3 rfl) ?_
  refine w_exu (x_stB #[(.int .i64 a.client), (.int .i64 a.seq), (.slice none 0 0)] sz3 rfl rfl rfl rfl rfl rfl hM ?_); intro w56 hM
  refine wl_nil ?_
  refine sq_n ?_
  refine wc_seq ?_
  refine wc_region ?_
  refine wv rfl (r_fld Try.underlying94 rfl rfl sz22 rfl) ?_
  refine wv rfl (r_ldB Try.underlying22 rfl rfl hM (.tail _ (.tail _ (.head _))) rfl) ?_
  obtain ⟨r60, h61, hx⟩ := bind_some' hx
  refine w_call rfl rfl (hM.callO (l := []) fun X S oL hS hR hO => ct_laws_toPartS _ X S a.o s_a_2 hS (hR _ (.head _)) oL h61) ?_
  rintro _ w62 ⟨s63, rfl, hM⟩
  replace hM : St ⟨w, X, S⟩ [oC (cSl 3 fDPart r60) s63.v, oBox b45 #[(.int .i64 a.client), (.int .i64 a.seq), (.slice none 0 0)] 73, oBox b41 #[(.int .i64 0), (.int .i64 0), (.slice none 0 0)] 73, oBox b37 #[(.int .i64 a.client), (.int .i64 a.seq), s_a_2.v] 94] [rV s_a_2.v (cSl 3 fDPart a.o)] _ := hM
  refine wv rfl (r_fld Try.underlying73 rfl rfl sz33 rfl) ?_
  replace hM := hM.p1
  refine w_exu (x_stB #[(.int .i64 a.client), (.int .i64 a.seq), s63.v] sz33 rfl rfl rfl rfl rfl rfl hM ?_); intro w66 hM
  refine wl_nil ?_
  refine sq_n ?_
  refine wc_seq ?_
  refine wc_region ?_
  refine wv rfl (r_ldBS Try.underlying73 sz73 rfl (us := [(.int .i64 a.client), (.int .i64 a.seq), s63.v]) rfl hM (.head _) rfl) ?_
  replace hM := hM.p2
  refine w_exu (x_stB #[(.int .i64 a.client), (.int .i64 a.seq), s63.v] sz73 rfl rfl rfl rfl rfl rfl hM ?_); intro w69 hM
  refine wl_nil ?_
  refine sq_n ?_
  refine wc_ret ?_
  obtain rfl := Option.some.inj hx
  refine fin_ret [(.agg #[(.int .i64 a.client), (.int .i64 a.seq), s63.v])] ⟨rv_box Try.underlying73 sz73 rfl rfl hM (.head _), trivial⟩ ?_
  replace hM := hM.p2
  replace hM := hM.t1
  have hM := hM.fewer rsN
  exact ⟨s63, rfl, hM.gives⟩

noncomputable def x_laws_toEntryS_b0 (a : List DEntry) (i41 : Int) (l42 : List DEntry) : Option (Lr (Int × List DEntry) (List DEntry)) :=
  bif decide (i41 < (a.length : Int)) then (xg (0 ≤ i41 ∧ i41 < (a.length : Int)) <| Option.bind (x_laws_toEntry (el a i41.toNat)) fun r86 => xg (0 ≤ i41 ∧ i41 < (l42.length : Int)) <| xg (inI (i41 + 1)) <| some (Lr.go (i41 + 1, l42.set i41.toNat r86))) else (some (Lr.out l42))
noncomputable def x_laws_toEntryS_f0 (a : List DEntry) (s100 : Int × List DEntry) : Option (Lr (Int × List DEntry) (List DEntry)) := x_laws_toEntryS_b0 a s100.1 s100.2
noncomputable def x_laws_toEntryS (a : List DEntry) : Option (List DEntry) :=
  xg (0 ≤ (a.length : Int) ∧ (a.length : Int) ≤ 1099511627776) <| Option.bind (iter (x_laws_toEntryS_f0 a) (0, List.replicate ((a.length : Int).toNat) (default : DEntry))) fun (y101 : List DEntry) => some y101
theorem ct_laws_toEntryS (w : World) (X S : Bs) (a : List DEntry) (s_a : Sv) (hS : ∀ b, S b → b < w.heap.size ∧ ¬ X b) (a_a_0 : (cSl 3 fDEntry a).rd S w s_a.v) (oL : Sep [] X w) {r : List DEntry} (hx : x_laws_toEntryS a = some r) :
    Ret Try.prog 38 [s_a.v] w (fun u w' => ∃ y : Sv, u = y.v ∧ Gives X S w [oC (cSl 3 fDEntry r) y.v] [] w') := by
  unfold x_laws_toEntryS at hx
  refine enter Try.func38 rfl Try.ntmps38 (by kernel_rfl) rfl ?_
  have hM := St.enter oL hS
  have hM := hM.addE (r := rV s_a.v (cSl 3 fDEntry a)) a_a_0
  refine wc_seq ?_
  refine wc_region ?_
  refine wv rfl (r_assign rfl) ?_
  refine wl_nil ?_
  refine sq_n ?_
  refine wc_seq ?_
  refine wc_region ?_
  refine wv rfl (r_move rfl) ?_
  refine wv rfl (r_lenC Try.underlying26 rfl (hM.seeR (.head _))) ?_
  obtain ⟨hg110, hx⟩ := xg_some hx
  have hk111 : (a.length : Int) = ((a.length : Int).toNat : Int) := by omega
  refine w_ex rfl (x_make (f := fDEntry) (k := ((a.length : Int).toNat)) (default : DEntry) Try.underlying36 sz73 (fun _ => rfl) (fun _ => zP (pV _ rfl) (zP (pV _ rfl) (zP (pN _ _) zN))) (by rw [← hk111]; rfl) (by omega) rfl hM ?_); intro s109 w108 hR112 hM
  refine wv rfl (r_assign rfl) ?_
  refine wl_nil ?_
  refine sq_n ?_
  refine wc_seq ?_
  refine wc_seq ?_
  refine wc_region ?_
  refine wv rfl (r_assign rfl) ?_
  refine wl_nil ?_
  refine sq_n ?_
  refine wc_block ?_
  obtain ⟨y116, hx, hx117⟩ := bind_some' hx
  obtain ⟨m122, hx⟩ := iter_run hx
  refine wc_loop (un fun (m120 : Nat) => un fun (i118 : Int) => fun (l119 : List DEntry) => [(0, s_a.v), (3, s109.v), (4, (.int .i64 i118))]) (un fun (m120 : Nat) => un fun (i118 : Int) => fun (l119 : List DEntry) w' => St ⟨w, X, S⟩ [oC (cSl 3 fDEntry l119) s109.v] [rV s_a.v (cSl 3 fDEntry a)] w' ∧ iterN _ m120 (i118, l119) = some y116) (fun p => p.1) (m122, 0, List.replicate ((a.length : Int).toNat) (default : DEntry)) ⟨rfl, rfl, rfl, trivial⟩ ⟨hM, hx⟩ ?_
  rintro ⟨m120, i118, l119⟩ w123 ⟨hM, hx⟩
  obtain ⟨m124, z125, rfl, hx, hx126⟩ := iterN_step hx
  unfold x_laws_toEntryS_f0 x_laws_toEntryS_b0 at hx
  try dsimp only at hx
  refine wc_seq ?_
  refine wc_seq ?_
  refine wc_region ?_
  refine wv rfl (r_move rfl) ?_
  refine wv rfl (r_move rfl) ?_
  refine wv rfl (r_lenC Try.underlying26 rfl (hM.seeR (.head _))) ?_
  refine wv rfl (r_lss rfl rfl) ?_
  refine wl_nil ?_
  refine sq_n ?_
  refine wc_cond rfl (fun hc131 => ?_) (fun hc131 => ?_)
  · replace hx := xif_t hc131 hx
    refine wc_skip ?_
    refine sq_n ?_
    refine wc_seq ?_
    refine wc_block ?_
    refine wc_region ?_
    refine wv rfl (r_move rfl) ?_
    refine wv rfl (r_move rfl) ?_
    refine wv rfl (r_move rfl) ?_
    refine wv rfl (r_move rfl) ?_
    obtain ⟨hg138, hx⟩ := xg_some hx
    have hi137 : i118.toNat < a.length := by omega
    refine wv rfl (r_ixC Try.underlying26 sz94 rfl rfl (hM.seeR (.head _)) hg138) ?_
    obtain ⟨s140, hM, hc141⟩ := hM.leaf (i := i118.toNat) (j := 2) (.head _) (fun _ => rfl) hi137 rfl
    refine wv rfl (r_ldC (o := i118.toNat * 3) Try.underlying94 sz94 rfl (us := [(.int .i64 ((el a i118.toNat).client)), (.int .i64 ((el a i118.toNat).seq)), s140.v]) rfl (hM.seeR (.tail _ (.head _))) hi137 ⟨(Cs.get (i := i118.toNat) (j := 0) (hM.seeR (.tail _ (.head _))) (fun _ => rfl) hi137 rfl), (Cs.get (i := i118.toNat) (j := 1) (hM.seeR (.tail _ (.head _))) (fun _ => rfl) hi137 rfl), (hc141 _ (Rel.refl _)), trivial⟩) ?_
    obtain ⟨r142, h143, hx⟩ := bind_some' hx
    refine w_call rfl rfl (hM.callO (l := []) fun X S oL hS hR hO => ct_laws_toEntry _ X S (el a i118.toNat) s140 hS (hR _ (.head _)) oL h143) ?_
    rintro _ w144 ⟨s145, rfl, hM⟩
    replace hM : St ⟨w, X, S⟩ [oC (cSl 3 fDPart r142.o) s145.v, oC (cSl 3 fDEntry l119) s109.v] [rV s140.v (cSl 3 fDPart ((el a i118.toNat).o)), rV s_a.v (cSl 3 fDEntry a)] _ := hM
    obtain ⟨hg149, hx⟩ := xg_some hx
    have hi148 : i118.toNat < l119.length := by omega
    refine wv rfl (r_ixC Try.underlying36 sz73 rfl rfl (hM.seeO (.tail _ (.head _))) hg149) ?_
    replace hM := hM.p1
    refine w_exu (x_stE (f := fDEntry) (k := 3) (L := l119) (i := i118.toNat) (j := 0) r142 [cI r142.client, cI r142.seq, cSl 3 fDPart r142.o] sz73 (fun _ => rfl) rfl rfl hi148 rfl rfl rfl rfl rfl (fun _ => zP (pV _ rfl) (zP (pV _ rfl) (zO zN))) hM ?_); intro w150 hM
    refine wl_nil ?_
    refine bk_n ?_
    refine sq_n ?_
    refine wc_region ?_
    refine wv rfl (r_move rfl) ?_
    obtain ⟨hg154, hx⟩ := xg_some hx
    refine wv rfl (r_add rfl rfl hg154) ?_
    refine wv rfl (r_assign rfl) ?_
    refine wl_nil ?_
    obtain rfl := Option.some.inj hx
    have hM := hM.fewer (rsC (.tail _ (.head _)) rsN)
    replace hM : St ⟨w, X, S⟩ [oC (cSl 3 fDEntry (l119.set i118.toNat r142)) s109.v] [rV s_a.v (cSl 3 fDEntry a)] _ := hM
    exact lp_end (m124, i118 + 1, l119.set i118.toNat r142) (Nat.lt_succ_self _) ⟨rfl, rfl, rfl, trivial⟩ ⟨hM, hx126⟩
  · replace hx := xif_f hc131 hx
    refine wc_exit ?_
    refine sq_exit ?_
    refine lp1_exit ?_
    obtain rfl := Option.some.inj hx
    obtain rfl := Option.some.inj hx126
    replace hx := hx117
    try dsimp only [Sum.elim_inl, Sum.elim_inr] at hx
    refine bk_here ?_
    refine sq_n ?_
    refine wc_seq ?_
    refine wc_region ?_
    refine wv rfl (r_move rfl) ?_
    refine wv rfl (r_assign rfl) ?_
    refine wl_nil ?_
    refine sq_n ?_
    refine wc_ret ?_
    obtain rfl := Option.some.inj hx
    refine fin_ret [s109.v] ⟨rfl, trivial⟩ ?_
    replace hM := hM.t1
    have hM := hM.fewer rsN
    exact ⟨s109, rfl, hM.gives⟩

noncomputable def x_laws_toAnswer (a : DAnswer) : Option DAnswer :=
  Option.bind (x_laws_toIntS a.text) fun r25 => Option.bind (x_laws_toEntryS a.list) fun r35 => some (⟨a.code, a.rev, r25, r35⟩ : DAnswer)
theorem ct_laws_toAnswer (w : World) (X S : Bs) (a : DAnswer) (s_a_2 : Sv) (s_a_3 : Sv) (hS : ∀ b, S b → b < w.heap.size ∧ ¬ X b) (a_a_2 : (cSl 1 fI a.text).rd S w s_a_2.v) (a_a_3 : (cSl 3 fDEntry a.list).rd S w s_a_3.v) (oL : Sep [] X w) {r : DAnswer} (hx : x_laws_toAnswer a = some r) :
    Ret Try.prog 25 [(.agg #[(.int .i64 a.code), (.int .i64 a.rev), s_a_2.v, s_a_3.v])] w (fun u w' => ∃ y : Sv × Sv, u = .agg #[(.int .i64 r.code), (.int .i64 r.rev), y.1.v, y.2.v] ∧ Gives X S w [oC (cSl 1 fI r.text) y.1.v, oC (cSl 3 fDEntry r.list) y.2.v] [] w') := by
  unfold x_laws_toAnswer at hx
  refine enter Try.func25 rfl Try.ntmps25 (by kernel_rfl) rfl ?_
  have hM := St.enter oL hS
  have hM := hM.addE (r := rV s_a_2.v (cSl 1 fI a.text)) a_a_2
  have hM := hM.addE (r := rV s_a_3.v (cSl 3 fDEntry a.list)) a_a_3
  refine wc_seq ?_
  refine wc_region ?_
  refine w_ex rfl (x_box rfl hM ?_); intro b47 w46 hR48 hM
  replace hM : St ⟨w, X, S⟩ [oBox b47 #[(.int .i64 a.code), (.int .i64 a.rev), s_a_2.v, s_a_3.v] 28] [rV s_a_3.v (cSl 3 fDEntry a.list), rV s_a_2.v (cSl 1 fI a.text)] _ := hM
  refine w_ex rfl (x_alloc sz38 hM ?_); intro b51 w50 hR52 hM
  replace hM : St ⟨w, X, S⟩ [oBox b51 #[(.int .i64 0), (.int .i64 0), (.slice none 0 0), (.slice none 0 0)] 38, oBox b47 #[(.int .i64 a.code), (.int .i64 a.rev), s_a_2.v, s_a_3.v] 28] [rV s_a_3.v (cSl 3 fDEntry a.list), rV s_a_2.v (cSl 1 fI a.text)] _ := hM
  refine wl_nil ?_
  refine sq_n ?_
  refine wc_seq ?_
  refine wc_region ?_
  refine w_ex rfl (x_alloc sz38 hM ?_); intro b55 w54 hR56 hM
  replace hM : St ⟨w, X, S⟩ [oBox b55 #[(.int .i64 0), (.int .i64 0), (.slice none 0 0), (.slice none 0 0)] 38, oBox b51 #[(.int .i64 0), (.int .i64 0), (.slice none 0 0), (.slice none 0 0)] 38, oBox b47 #[(.int .i64 a.code), (.int .i64 a.rev), s_a_2.v, s_a_3.v] 28] [rV s_a_3.v (cSl 3 fDEntry a.list), rV s_a_2.v (cSl 1 fI a.text)] _ := hM
  refine wl_nil ?_
  refine sq_n ?_
  refine wc_seq ?_
  refine wc_region ?_
  refine wv rfl (r_fld Try.underlying28 rfl rfl sz3 rfl) ?_
  refine wv rfl (r_ldB Try.underlying3 rfl rfl hM (.tail _ (.tail _ (.head _))) rfl) ?_
  refine wv rfl (r_fld Try.underlying38 rfl rfl sz3 rfl) ?_
  refine w_exu (x_stB #[(.int .i64 a.code), (.int .i64 0), (.slice none 0 0), (.slice none 0 0)] sz3 rfl rfl rfl rfl rfl rfl hM ?_); intro w61 hM
  refine wl_nil ?_
  refine sq_n ?_
  refine wc_seq ?_
  refine wc_region ?_
  refine wv rfl (r_fld Try.underlying28 rfl rfl sz3 rfl) ?_
  refine wv rfl (r_ldB Try.underlying3 rfl rfl hM (.tail _ (.tail _ (.head _))) rfl) ?_
  refine wv rfl (r_fld Try.underlying38 rfl rfl sz3 rfl) ?_
  refine w_exu (x_stB #[(.int .i64 a.code), (.int .i64 a.rev), (.slice none 0 0), (.slice none 0 0)] sz3 rfl rfl rfl rfl rfl rfl hM ?_); intro w66 hM
  refine wl_nil ?_
  refine sq_n ?_
  refine wc_seq ?_
  refine wc_region ?_
  refine wv rfl (r_fld Try.underlying28 rfl rfl sz23 rfl) ?_
  refine wv rfl (r_ldB Try.underlying23 rfl rfl hM (.tail _ (.tail _ (.head _))) rfl) ?_
  obtain ⟨r70, h71, hx⟩ := bind_some' hx
  refine w_call rfl rfl (hM.callO (l := []) fun X S oL hS hR hO => ct_laws_toIntS _ X S a.text s_a_2 hS (hR _ (.tail _ (.head _))) oL h71) ?_
  rintro _ w72 ⟨s73, rfl, hM⟩
  replace hM : St ⟨w, X, S⟩ [oC (cSl 1 fI r70) s73.v, oBox b55 #[(.int .i64 a.code), (.int .i64 a.rev), (.slice none 0 0), (.slice none 0 0)] 38, oBox b51 #[(.int .i64 0), (.int .i64 0), (.slice none 0 0), (.slice none 0 0)] 38, oBox b47 #[(.int .i64 a.code), (.int .i64 a.rev), s_a_2.v, s_a_3.v] 28] [rV s_a_3.v (cSl 3 fDEntry a.list), rV s_a_2.v (cSl 1 fI a.text)] _ := hM
  refine wv rfl (r_fld Try.underlying38 rfl rfl sz23 rfl) ?_
  replace hM := hM.p1
  refine w_exu (x_stB #[(.int .i64 a.code), (.int .i64 a.rev), s73.v, (.slice none 0 0)] sz23 rfl rfl rfl rfl rfl rfl hM ?_); intro w76 hM
  refine wl_nil ?_
  refine sq_n ?_
  refine wc_seq ?_
  refine wc_region ?_
  refine wv rfl (r_fld Try.underlying28 rfl rfl sz26 rfl) ?_
  refine wv rfl (r_ldB Try.underlying26 rfl rfl hM (.tail _ (.tail _ (.tail _ (.head _)))) rfl) ?_
  obtain ⟨r80, h81, hx⟩ := bind_some' hx
  refine w_call rfl rfl (hM.callO (l := []) fun X S oL hS hR hO => ct_laws_toEntryS _ X S a.list s_a_3 hS (hR _ (.head _)) oL h81) ?_
  rintro _ w82 ⟨s83, rfl, hM⟩
  replace hM : St ⟨w, X, S⟩ [oC (cSl 3 fDEntry r80) s83.v, oBox b55 #[(.int .i64 a.code), (.int .i64 a.rev), s73.v, (.slice none 0 0)] 38, oC (cSl 1 fI r70) s73.v, oBox b51 #[(.int .i64 0), (.int .i64 0), (.slice none 0 0), (.slice none 0 0)] 38, oBox b47 #[(.int .i64 a.code), (.int .i64 a.rev), s_a_2.v, s_a_3.v] 28] [rV s_a_3.v (cSl 3 fDEntry a.list), rV s_a_2.v (cSl 1 fI a.text)] _ := hM
  refine wv rfl (r_fld Try.underlying38 rfl rfl sz36 rfl) ?_
  replace hM := hM.p1
  refine w_exu (x_stB #[(.int .i64 a.code), (.int .i64 a.rev), s73.v, s83.v] sz36 rfl rfl rfl rfl rfl rfl hM ?_); intro w86 hM
  refine wl_nil ?_
  refine sq_n ?_
  refine wc_seq ?_
  refine wc_region ?_
  refine wv rfl (r_ldBS Try.underlying38 sz38 rfl (us := [(.int .i64 a.code), (.int .i64 a.rev), s73.v, s83.v]) rfl hM (.head _) rfl) ?_
  replace hM := hM.p3
  refine w_exu (x_stB #[(.int .i64 a.code), (.int .i64 a.rev), s73.v, s83.v] sz38 rfl rfl rfl rfl rfl rfl hM ?_); intro w89 hM
  refine wl_nil ?_
  refine sq_n ?_
  refine wc_ret ?_
  obtain rfl := Option.some.inj hx
  refine fin_ret [(.agg #[(.int .i64 a.code), (.int .i64 a.rev), s73.v, s83.v])] ⟨rv_box Try.underlying38 sz38 rfl rfl hM (.head _), trivial⟩ ?_
  replace hM := hM.p2.p3
  replace hM := hM.t2
  have hM := hM.fewer rsN
  exact ⟨(s73, s83), rfl, hM.gives⟩

noncomputable def x_laws_toTask (a : DTask) : Option DTask :=
  Option.bind (x_laws_toCall a.c) fun r15 => Option.bind (x_laws_toAnswer a.a) fun r47 => some (⟨r15, a.pc, a.inv, a.lin, a.res, r47⟩ : DTask)
theorem ct_laws_toTask (w : World) (X S : Bs) (a : DTask) (s_a_5 : Sv) (s_a_6 : Sv) (s_a_13 : Sv) (s_a_14 : Sv) (hS : ∀ b, S b → b < w.heap.size ∧ ¬ X b) (a_a_5 : (cSl 3 fDPart a.c.o).rd S w s_a_5.v) (a_a_6 : (cSl 1 fI a.c.text).rd S w s_a_6.v) (a_a_13 : (cSl 1 fI a.a.text).rd S w s_a_13.v) (a_a_14 : (cSl 3 fDEntry a.a.list).rd S w s_a_14.v) (oL : Sep [] X w) {r : DTask} (hx : x_laws_toTask a = some r) :
    Ret Try.prog 7 [(.agg #[(.int .i64 a.c.kind), (.string a.c.doc), (.int .i64 a.c.client), (.int .i64 a.c.seq), (.int .i64 a.c.n), s_a_5.v, s_a_6.v, (.int .i64 a.pc), (.int .i64 a.inv), (.int .i64 a.lin), (.int .i64 a.res), (.int .i64 a.a.code), (.int .i64 a.a.rev), s_a_13.v, s_a_14.v])] w (fun u w' => ∃ y : Sv × Sv × Sv × Sv, u = .agg #[(.int .i64 r.c.kind), (.string r.c.doc), (.int .i64 r.c.client), (.int .i64 r.c.seq), (.int .i64 r.c.n), y.1.v, y.2.1.v, (.int .i64 r.pc), (.int .i64 r.inv), (.int .i64 r.lin), (.int .i64 r.res), (.int .i64 r.a.code), (.int .i64 r.a.rev), y.2.2.1.v, y.2.2.2.v] ∧ Gives X S w [oC (cSl 3 fDPart r.c.o) y.1.v, oC (cSl 1 fI r.c.text) y.2.1.v, oC (cSl 1 fI r.a.text) y.2.2.1.v, oC (cSl 3 fDEntry r.a.list) y.2.2.2.v] [] w') := by
  unfold x_laws_toTask at hx
  refine enter Try.func7 rfl Try.ntmps7 (by kernel_rfl) rfl ?_
  have hM := St.enter oL hS
  have hM := hM.addE (r := rV s_a_5.v (cSl 3 fDPart a.c.o)) a_a_5
  have hM := hM.addE (r := rV s_a_6.v (cSl 1 fI a.c.text)) a_a_6
  have hM := hM.addE (r := rV s_a_13.v (cSl 1 fI a.a.text)) a_a_13
  have hM := hM.addE (r := rV s_a_14.v (cSl 3 fDEntry a.a.list)) a_a_14
  refine wc_seq ?_
  refine wc_region ?_
  refine w_ex rfl (x_box rfl hM ?_); intro b61 w60 hR62 hM
  replace hM : St ⟨w, X, S⟩ [oBox b61 #[(.int .i64 a.c.kind), (.string a.c.doc), (.int .i64 a.c.client), (.int .i64 a.c.seq), (.int .i64 a.c.n), s_a_5.v, s_a_6.v, (.int .i64 a.pc), (.int .i64 a.inv), (.int .i64 a.lin), (.int .i64 a.res), (.int .i64 a.a.code), (.int .i64 a.a.rev), s_a_13.v, s_a_14.v] 30] [rV s_a_14.v (cSl 3 fDEntry a.a.list), rV s_a_13.v (cSl 1 fI a.a.text), rV s_a_6.v (cSl 1 fI a.c.text), rV s_a_5.v (cSl 3 fDPart a.c.o)] _ := hM
  refine w_ex rfl (x_alloc sz40 hM ?_); intro b65 w64 hR66 hM
  replace hM : St ⟨w, X, S⟩ [oBox b65 #[(.int .i64 0), (.string ByteArray.empty), (.int .i64 0), (.int .i64 0), (.int .i64 0), (.slice none 0 0), (.slice none 0 0), (.int .i64 0), (.int .i64 0), (.int .i64 0), (.int .i64 0), (.int .i64 0), (.int .i64 0), (.slice none 0 0), (.slice none 0 0)] 40, oBox b61 #[(.int .i64 a.c.kind), (.string a.c.doc), (.int .i64 a.c.client), (.int .i64 a.c.seq), (.int .i64 a.c.n), s_a_5.v, s_a_6.v, (.int .i64 a.pc), (.int .i64 a.inv), (.int .i64 a.lin), (.int .i64 a.res), (.int .i64 a.a.code), (.int .i64 a.a.rev), s_a_13.v, s_a_14.v] 30] [rV s_a_14.v (cSl 3 fDEntry a.a.list), rV s_a_13.v (cSl 1 fI a.a.text), rV s_a_6.v (cSl 1 fI a.c.text), rV s_a_5.v (cSl 3 fDPart a.c.o)] _ := hM
  refine wl_nil ?_
  refine sq_n ?_
  refine wc_seq ?_
  refine wc_region ?_
  refine w_ex rfl (x_alloc sz40 hM ?_); intro b69 w68 hR70 hM
  replace hM : St ⟨w, X, S⟩ [oBox b69 #[(.int .i64 0), (.string ByteArray.empty), (.int .i64 0), (.int .i64 0), (.int .i64 0), (.slice none 0 0), (.slice none 0 0), (.int .i64 0), (.int .i64 0), (.int .i64 0), (.int .i64 0), (.int .i64 0), (.int .i64 0), (.slice none 0 0), (.slice none 0 0)] 40, oBox b65 #[(.int .i64 0), (.string ByteArray.empty), (.int .i64 0), (.int .i64 0), (.int .i64 0), (.slice none 0 0), (.slice none 0 0), (.int .i64 0), (.int .i64 0), (.int .i64 0), (.int .i64 0), (.int .i64 0), (.int .i64 0), (.slice none 0 0), (.slice none 0 0)] 40, oBox b61 #[(.int .i64 a.c.kind), (.string a.c.doc), (.int .i64 a.c.client), (.int .i64 a.c.seq), (.int .i64 a.c.n), s_a_5.v, s_a_6.v, (.int .i64 a.pc), (.int .i64 a.inv), (.int .i64 a.lin), (.int .i64 a.res), (.int .i64 a.a.code), (.int .i64 a.a.rev), s_a_13.v, s_a_14.v] 30] [rV s_a_14.v (cSl 3 fDEntry a.a.list), rV s_a_13.v (cSl 1 fI a.a.text), rV s_a_6.v (cSl 1 fI a.c.text), rV s_a_5.v (cSl 3 fDPart a.c.o)] _ := hM
  refine wl_nil ?_
  refine sq_n ?_
  refine wc_seq ?_
  refine wc_region ?_
  refine wv rfl (r_fld Try.underlying30 rfl rfl sz25 rfl) ?_
  refine wv rfl (r_ldBS Try.underlying25 sz25 rfl (us := [(.int .i64 a.c.kind), (.string a.c.doc), (.int .i64 a.c.client), (.int .i64 a.c.seq), (.int .i64 a.c.n), s_a_5.v, s_a_6.v]) rfl hM (.tail _ (.tail _ (.head _))) rfl) ?_
  obtain ⟨r74, h75, hx⟩ := bind_some' hx
  refine w_call rfl rfl (hM.callO (l := []) fun X S oL hS hR hO => ct_laws_toCall _ X S a.c s_a_5 s_a_6 hS (hR _ (.tail _ (.tail _ (.tail _ (.head _))))) (hR _ (.tail _ (.tail _ (.head _)))) oL h75) ?_
  rintro _ w76 ⟨⟨s77, s78⟩, rfl, hM⟩
  replace hM : St ⟨w, X, S⟩ [oC (cSl 3 fDPart r74.o) s77.v, oC (cSl 1 fI r74.text) s78.v, oBox b69 #[(.int .i64 0), (.string ByteArray.empty), (.int .i64 0), (.int .i64 0), (.int .i64 0), (.slice none 0 0), (.slice none 0 0), (.int .i64 0), (.int .i64 0), (.int .i64 0), (.int .i64 0), (.int .i64 0), (.int .i64 0), (.slice none 0 0), (.slice none 0 0)] 40, oBox b65 #[(.int .i64 0), (.string ByteArray.empty), (.int .i64 0), (.int .i64 0), (.int .i64 0), (.slice none 0 0), (.slice none 0 0), (.int .i64 0), (.int .i64 0), (.int .i64 0), (.int .i64 0), (.int .i64 0), (.int .i64 0), (.slice none 0 0), (.slice none 0 0)] 40, oBox b61 #[(.int .i64 a.c.kind), (.string a.c.doc), (.int .i64 a.c.client), (.int .i64 a.c.seq), (.int .i64 a.c.n), s_a_5.v, s_a_6.v, (.int .i64 a.pc), (.int .i64 a.inv), (.int .i64 a.lin), (.int .i64 a.res), (.int .i64 a.a.code), (.int .i64 a.a.rev), s_a_13.v, s_a_14.v] 30] [rV s_a_14.v (cSl 3 fDEntry a.a.list), rV s_a_13.v (cSl 1 fI a.a.text), rV s_a_6.v (cSl 1 fI a.c.text), rV s_a_5.v (cSl 3 fDPart a.c.o)] _ := hM
  refine wv rfl (r_fld Try.underlying40 rfl rfl sz35 rfl) ?_
  replace hM := hM.p2
  refine w_exu (x_stB #[(.int .i64 r74.kind), (.string r74.doc), (.int .i64 r74.client), (.int .i64 r74.seq), (.int .i64 r74.n), s77.v, s78.v, (.int .i64 0), (.int .i64 0), (.int .i64 0), (.int .i64 0), (.int .i64 0), (.int .i64 0), (.slice none 0 0), (.slice none 0 0)] sz35 rfl rfl rfl rfl rfl rfl hM ?_); intro w82 hM
  refine wl_nil ?_
  refine sq_n ?_
  refine wc_seq ?_
  refine wc_region ?_
  refine wv rfl (r_fld Try.underlying30 rfl rfl sz3 rfl) ?_
  refine wv rfl (r_ldB Try.underlying3 rfl rfl hM (.tail _ (.tail _ (.tail _ (.tail _ (.head _))))) rfl) ?_
  refine wv rfl (r_fld Try.underlying40 rfl rfl sz3 rfl) ?_
  refine w_exu (x_stB #[(.int .i64 r74.kind), (.string r74.doc), (.int .i64 r74.client), (.int .i64 r74.seq), (.int .i64 r74.n), s77.v, s78.v, (.int .i64 a.pc), (.int .i64 0), (.int .i64 0), (.int .i64 0), (.int .i64 0), (.int .i64 0), (.slice none 0 0), (.slice none 0 0)] sz3 rfl rfl rfl rfl rfl rfl hM ?_); intro w87 hM
  refine wl_nil ?_
  refine sq_n ?_
  refine wc_seq ?_
  refine wc_region ?_
  refine wv rfl (r_fld Try.underlying30 rfl rfl sz3 rfl) ?_
  refine wv rfl (r_ldB Try.underlying3 rfl rfl hM (.tail _ (.tail _ (.tail _ (.tail _ (.head _))))) rfl) ?_
  refine wv rfl (r_fld Try.underlying40 rfl rfl sz3 rfl) ?_
  refine w_exu (x_stB #[(.int .i64 r74.kind), (.string r74.doc), (.int .i64 r74.client), (.int .i64 r74.seq), (.int .i64 r74.n), s77.v, s78.v, (.int .i64 a.pc), (.int .i64 a.inv), (.int .i64 0), (.int .i64 0), (.int .i64 0), (.int .i64 0), (.slice none 0 0), (.slice none 0 0)] sz3 rfl rfl rfl rfl rfl rfl hM ?_); intro w92 hM
  refine wl_nil ?_
  refine sq_n ?_
  refine wc_seq ?_
  refine wc_region ?_
  refine wv rfl (r_fld Try.underlying30 rfl rfl sz3 rfl) ?_
  refine wv rfl (r_ldB Try.underlying3 rfl rfl hM (.tail _ (.tail _ (.tail _ (.tail _ (.head _))))) rfl) ?_
  refine wv rfl (r_fld Try.underlying40 rfl rfl sz3 rfl) ?_
  refine w_exu (x_stB #[(.int .i64 r74.kind), (.string r74.doc), (.int .i64 r74.client), (.int .i64 r74.seq), (.int .i64 r74.n), s77.v, s78.v, (.int .i64 a.pc), (.int .i64 a.inv), (.int .i64 a.lin), (.int .i64 0), (.int .i64 0), (.int .i64 0), (.slice none 0 0), (.slice none 0 0)] sz3 rfl rfl rfl rfl rfl rfl hM ?_); intro w97 hM
  refine wl_nil ?_
  refine sq_n ?_
  refine wc_seq ?_
  refine wc_region ?_
  refine wv rfl (r_fld Try.underlying30 rfl rfl sz3 rfl) ?_
  refine wv rfl (r_ldB Try.underlying3 rfl rfl hM (.tail _ (.tail _ (.tail _ (.tail _ (.head _))))) rfl) ?_
  refine wv rfl (r_fld Try.underlying40 rfl rfl sz3 rfl) ?_
  refine w_exu (x_stB #[(.int .i64 r74.kind), (.string r74.doc), (.int .i64 r74.client), (.int .i64 r74.seq), (.int .i64 r74.n), s77.v, s78.v, (.int .i64 a.pc), (.int .i64 a.inv), (.int .i64 a.lin), (.int .i64 a.res), (.int .i64 0), (.int .i64 0), (.slice none 0 0), (.slice none 0 0)] sz3 rfl rfl rfl rfl rfl rfl hM ?_); intro w102 hM
  refine wl_nil ?_
  refine sq_n ?_
  refine wc_seq ?_
  refine wc_region ?_
  refine wv rfl (r_fld Try.underlying30 rfl rfl sz28 rfl) ?_
  refine wv rfl (r_ldBS Try.underlying28 sz28 rfl (us := [(.int .i64 a.a.code), (.int .i64 a.a.rev), s_a_13.v, s_a_14.v]) rfl hM (.tail _ (.tail _ (.tail _ (.tail _ (.head _))))) rfl) ?_
  obtain ⟨r106, h107, hx⟩ := bind_some' hx
  refine w_call rfl rfl (hM.callO (l := []) fun X S oL hS hR hO => ct_laws_toAnswer _ X S a.a s_a_13 s_a_14 hS (hR _ (.tail _ (.head _))) (hR _ (.head _)) oL h107) ?_
  rintro _ w108 ⟨⟨s109, s110⟩, rfl, hM⟩
  replace hM : St ⟨w, X, S⟩ [oC (cSl 1 fI r106.text) s109.v, oC (cSl 3 fDEntry r106.list) s110.v, oBox b69 #[(.int .i64 r74.kind), (.string r74.doc), (.int .i64 r74.client), (.int .i64 r74.seq), (.int .i64 r74.n), s77.v, s78.v, (.int .i64 a.pc), (.int .i64 a.inv), (.int .i64 a.lin), (.int .i64 a.res), (.int .i64 0), (.int .i64 0), (.slice none 0 0), (.slice none 0 0)] 40, oC (cSl 3 fDPart r74.o) s77.v, oC (cSl 1 fI r74.text) s78.v, oBox b65 #[(.int .i64 0), (.string ByteArray.empty), (.int .i64 0), (.int .i64 0), (.int .i64 0), (.slice none 0 0), (.slice none 0 0), (.int .i64 0), (.int .i64 0), (.int .i64 0), (.int .i64 0), (.int .i64 0), (.int .i64 0), (.slice none 0 0), (.slice none 0 0)] 40, oBox b61 #[(.int .i64 a.c.kind), (.string a.c.doc), (.int .i64 a.c.client), (.int .i64 a.c.seq), (.int .i64 a.c.n), s_a_5.v, s_a_6.v, (.int .i64 a.pc), (.int .i64 a.inv), (.int .i64 a.lin), (.int .i64 a.res), (.int .i64 a.a.code), (.int .i64 a.a.rev), s_a_13.v, s_a_14.v] 30] [rV s_a_14.v (cSl 3 fDEntry a.a.list), rV s_a_13.v (cSl 1 fI a.a.text), rV s_a_6.v (cSl 1 fI a.c.text), rV s_a_5.v (cSl 3 fDPart a.c.o)] _ := hM
  refine wv rfl (r_fld Try.underlying40 rfl rfl sz38 rfl) ?_
  replace hM := hM.p2
  refine w_exu (x_stB #[(.int .i64 r74.kind), (.string r74.doc), (.int .i64 r74.client), (.int .i64 r74.seq), (.int .i64 r74.n), s77.v, s78.v, (.int .i64 a.pc), (.int .i64 a.inv), (.int .i64 a.lin), (.int .i64 a.res), (.int .i64 r106.code), (.int .i64 r106.rev), s109.v, s110.v] sz38 rfl rfl rfl rfl rfl rfl hM ?_); intro w114 hM
  refine wl_nil ?_
  refine sq_n ?_
  refine wc_seq ?_
  refine wc_region ?_
  refine wv rfl (r_ldBS Try.underlying40 sz40 rfl (us := [(.int .i64 r74.kind), (.string r74.doc), (.int .i64 r74.client), (.int .i64 r74.seq), (.int .i64 r74.n), s77.v, s78.v, (.int .i64 a.pc), (.int .i64 a.inv), (.int .i64 a.lin), (.int .i64 a.res), (.int .i64 r106.code), (.int .i64 r106.rev), s109.v, s110.v]) rfl hM (.head _) rfl) ?_
  replace hM := hM.p5
  refine w_exu (x_stB #[(.int .i64 r74.kind), (.string r74.doc), (.int .i64 r74.client), (.int .i64 r74.seq), (.int .i64 r74.n), s77.v, s78.v, (.int .i64 a.pc), (.int .i64 a.inv), (.int .i64 a.lin), (.int .i64 a.res), (.int .i64 r106.code), (.int .i64 r106.rev), s109.v, s110.v] sz40 rfl rfl rfl rfl rfl rfl hM ?_); intro w117 hM
  refine wl_nil ?_
  refine sq_n ?_
  refine wc_ret ?_
  obtain rfl := Option.some.inj hx
  refine fin_ret [(.agg #[(.int .i64 r74.kind), (.string r74.doc), (.int .i64 r74.client), (.int .i64 r74.seq), (.int .i64 r74.n), s77.v, s78.v, (.int .i64 a.pc), (.int .i64 a.inv), (.int .i64 a.lin), (.int .i64 a.res), (.int .i64 r106.code), (.int .i64 r106.rev), s109.v, s110.v])] ⟨rv_box Try.underlying40 sz40 rfl rfl hM (.head _), trivial⟩ ?_
  replace hM := hM.p3.p3.p5.p5
  replace hM := hM.t4
  have hM := hM.fewer rsN
  exact ⟨(s77, s78, s109, s110), rfl, hM.gives⟩

noncomputable def x_laws_eqIntS_b0 (a : List Int) (b : List Int) (i9 : Int) : Option (Lr Int (Sum Unit Unit)) :=
  bif decide (i9 < (a.length : Int)) then (xg (0 ≤ i9 ∧ i9 < (a.length : Int)) <| xg (0 ≤ i9 ∧ i9 < (b.length : Int)) <| bif !decide ((el a i9.toNat) = (el b i9.toNat)) then (some (Lr.out (Sum.inr (())))) else (xg (inI (i9 + 1)) <| some (Lr.go (i9 + 1)))) else (some (Lr.out (Sum.inl ())))
noncomputable def x_laws_eqIntS_f0 (a : List Int) (b : List Int) (s58 : Int) : Option (Lr Int (Sum Unit Unit)) := x_laws_eqIntS_b0 a b s58
noncomputable def x_laws_eqIntS (a : List Int) (b : List Int) : Option Bool :=
  bif !decide ((a.length : Int) = (b.length : Int)) then (some false) else (Option.bind (iter (x_laws_eqIntS_f0 a b) 0) fun (y59 : Sum Unit Unit) => Sum.elim (fun _y60 => some true) (fun _y61 => some false) y59)
theorem ct_laws_eqIntS (w : World) (X S : Bs) (a : List Int) (s_a : Sv) (b : List Int) (s_b : Sv) (hS : ∀ b, S b → b < w.heap.size ∧ ¬ X b) (a_a_0 : (cSl 1 fI a).rd S w s_a.v) (a_b_0 : (cSl 1 fI b).rd S w s_b.v) (oL : Sep [] X w) {r : Bool} (hx : x_laws_eqIntS a b = some r) :
    Ret Try.prog 43 [s_a.v, s_b.v] w (fun u w' => ∃ _ : Unit, u = (.bool r) ∧ Gives X S w [] [] w') := by
  unfold x_laws_eqIntS at hx
  refine enter Try.func43 rfl Try.ntmps43 (by kernel_rfl) rfl ?_
  have hM := St.enter oL hS
  have hM := hM.addE (r := rV s_a.v (cSl 1 fI a)) a_a_0
  have hM := hM.addE (r := rV s_b.v (cSl 1 fI b)) a_b_0
  refine wc_seq ?_
  refine wc_region ?_
  refine wv rfl (r_assign rfl) ?_
  refine wl_nil ?_
  refine sq_n ?_
  refine wc_seq ?_
  refine wc_seq ?_
  refine wc_region ?_
  refine wv rfl (r_move rfl) ?_
  refine wv rfl (r_lenC Try.underlying23 rfl (hM.seeR (.tail _ (.head _)))) ?_
  refine wv rfl (r_move rfl) ?_
  refine wv rfl (r_lenC Try.underlying23 rfl (hM.seeR (.head _))) ?_
  refine wv rfl (r_neq rfl rfl) ?_
  refine wl_nil ?_
  refine sq_n ?_
  refine wc_cond rfl (fun hc69 => ?_) (fun hc69 => ?_)
  · replace hx := xif_t hc69 hx
    refine wc_seq ?_
    refine wc_region ?_
    refine wv rfl (r_assign rfl) ?_
    refine wl_nil ?_
    refine sq_n ?_
    refine wc_ret ?_
    refine sq_ret ?_
    obtain rfl := Option.some.inj hx
    refine fin_ret [(.bool false)] ⟨rfl, trivial⟩ ?_
    replace hM := hM.t0
    have hM := hM.fewer rsN
    exact ⟨(), rfl, hM.gives⟩
  · replace hx := xif_f hc69 hx
    refine wc_skip ?_
    refine sq_n ?_
    refine wc_seq ?_
    refine wc_seq ?_
    refine wc_region ?_
    refine wv rfl (r_assign rfl) ?_
    refine wl_nil ?_
    refine sq_n ?_
    refine wc_block ?_
    obtain ⟨y72, hx, hx73⟩ := bind_some' hx
    have hM := hM.fewer (rsC (.tail _ (.head _)) (rsC (.head _) rsN))
    replace hM : St ⟨w, X, S⟩ [] [rV s_a.v (cSl 1 fI a), rV s_b.v (cSl 1 fI b)] _ := hM
    obtain ⟨m77, hx⟩ := iter_run hx
    refine wc_loop (un fun (m75 : Nat) => fun (i74 : Int) => [(0, s_a.v), (1, s_b.v), (5, (.int .i64 i74))]) (un fun (m75 : Nat) => fun (i74 : Int) w' => St ⟨w, X, S⟩ [] [rV s_a.v (cSl 1 fI a), rV s_b.v (cSl 1 fI b)] w' ∧ iterN _ m75 i74 = some y72) (fun p => p.1) (m77, 0) ⟨rfl, rfl, rfl, trivial⟩ ⟨hM, hx⟩ ?_
    rintro ⟨m75, i74⟩ w78 ⟨hM, hx⟩
    obtain ⟨m79, z80, rfl, hx, hx81⟩ := iterN_step hx
    unfold x_laws_eqIntS_f0 x_laws_eqIntS_b0 at hx
    try dsimp only at hx
    refine wc_seq ?_
    refine wc_seq ?_
    refine wc_region ?_
    refine wv rfl (r_move rfl) ?_
    refine wv rfl (r_move rfl) ?_
    refine wv rfl (r_lenC Try.underlying23 rfl (hM.seeR (.head _))) ?_
    refine wv rfl (r_lss rfl rfl) ?_
    refine wl_nil ?_
    refine sq_n ?_
    refine wc_cond rfl (fun hc86 => ?_) (fun hc86 => ?_)
    · replace hx := xif_t hc86 hx
      refine wc_skip ?_
      refine sq_n ?_
      refine wc_seq ?_
      refine wc_block ?_
      refine wc_seq ?_
      refine wc_draw [(0, 0), (1, 0), (2, 0), (3, 0), (4, 0), (5, 0), (6, 0), (7, 0), (8, 0)] Try_mixed (by kernel_rfl) rfl (by kernel_rfl) rfl ?_
      refine ov rfl (fun w' h' => r_move rfl) ?_
      refine ov rfl (fun w' h' => r_move rfl) ?_
      obtain ⟨hg91, hx⟩ := xg_some hx
      have hi90 : i74.toNat < a.length := by omega
      refine ov rfl (fun w' h' => r_ixC Try.underlying23 sz3 rfl rfl ((hM.call h').seeR (.head _)) hg91) ?_
      refine ov rfl (fun w' h' => r_ld Try.underlying3 rfl rfl (Cs.get (i := i74.toNat) (j := 0) ((hM.call h').seeR (.head _)) (fun _ => rfl) hi90 rfl)) ?_
      refine ov rfl (fun w' h' => r_move rfl) ?_
      refine ov rfl (fun w' h' => r_move rfl) ?_
      obtain ⟨hg97, hx⟩ := xg_some hx
      have hi96 : i74.toNat < b.length := by omega
      refine ov rfl (fun w' h' => r_ixC Try.underlying23 sz3 rfl rfl ((hM.call h').seeR (.tail _ (.head _))) hg97) ?_
      refine ov rfl (fun w' h' => r_ld Try.underlying3 rfl rfl (Cs.get (i := i74.toNat) (j := 0) ((hM.call h').seeR (.tail _ (.head _))) (fun _ => rfl) hi96 rfl)) ?_
      refine ov rfl (fun w' h' => r_neq rfl rfl) ?_
      refine o_nil fun w100 hw101 => ?_
      have hM := hM.call hw101
      refine sq_n ?_
      refine wc_cond rfl (fun hc102 => ?_) (fun hc102 => ?_)
      · replace hx := xif_t hc102 hx
        refine wc_seq ?_
        refine wc_region ?_
        refine wv rfl (r_assign rfl) ?_
        refine wl_nil ?_
        refine sq_n ?_
        refine wc_ret ?_
        refine bk_ret ?_
        refine sq_ret ?_
        refine lp1_ret ?_
        obtain rfl := Option.some.inj hx
        obtain rfl := Option.some.inj hx81
        replace hx := hx73
        try dsimp only [Sum.elim_inl, Sum.elim_inr] at hx
        refine bk_ret ?_
        refine sq_ret ?_
        obtain rfl := Option.some.inj hx
        refine fin_ret [(.bool false)] ⟨rfl, trivial⟩ ?_
        replace hM := hM.t0
        have hM := hM.fewer rsN
        exact ⟨(), rfl, hM.gives⟩
      · replace hx := xif_f hc102 hx
        refine wc_skip ?_
        refine bk_n ?_
        refine sq_n ?_
        refine wc_region ?_
        refine wv rfl (r_move rfl) ?_
        obtain ⟨hg106, hx⟩ := xg_some hx
        refine wv rfl (r_add rfl rfl hg106) ?_
        refine wv rfl (r_assign rfl) ?_
        refine wl_nil ?_
        obtain rfl := Option.some.inj hx
        exact lp_end (m79, i74 + 1) (Nat.lt_succ_self _) ⟨rfl, rfl, rfl, trivial⟩ ⟨hM, hx81⟩
    · replace hx := xif_f hc86 hx
      refine wc_exit ?_
      refine sq_exit ?_
      refine lp1_exit ?_
      obtain rfl := Option.some.inj hx
      obtain rfl := Option.some.inj hx81
      replace hx := hx73
      try dsimp only [Sum.elim_inl, Sum.elim_inr] at hx
      refine bk_here ?_
      refine sq_n ?_
      refine wc_seq ?_
      refine wc_region ?_
      refine wv rfl (r_assign rfl) ?_
      refine wl_nil ?_
      refine sq_n ?_
      refine wc_ret ?_
      obtain rfl := Option.some.inj hx
      refine fin_ret [(.bool true)] ⟨rfl, trivial⟩ ?_
      replace hM := hM.t0
      have hM := hM.fewer rsN
      exact ⟨(), rfl, hM.gives⟩

noncomputable def x_laws_eqPart (a : DPart) (b : DPart) : Option Bool :=
  bif !decide (a.kind = b.kind) then (some false) else (bif !decide (a.n = b.n) then (some false) else (Option.bind (x_laws_eqIntS a.signs b.signs) fun r26 => bif !r26 then (some false) else (some true)))
theorem ct_laws_eqPart (w : World) (X S : Bs) (a : DPart) (s_a_2 : Sv) (b : DPart) (s_b_2 : Sv) (hS : ∀ b, S b → b < w.heap.size ∧ ¬ X b) (a_a_2 : (cSl 1 fI a.signs).rd S w s_a_2.v) (a_b_2 : (cSl 1 fI b.signs).rd S w s_b_2.v) (oL : Sep [] X w) {r : Bool} (hx : x_laws_eqPart a b = some r) :
    Ret Try.prog 81 [(.agg #[(.int .i64 a.kind), (.int .i64 a.n), s_a_2.v]), (.agg #[(.int .i64 b.kind), (.int .i64 b.n), s_b_2.v])] w (fun u w' => ∃ _ : Unit, u = (.bool r) ∧ Gives X S w [] [] w') := by
  unfold x_laws_eqPart at hx
  refine enter Try.func81 rfl Try.ntmps81 (by kernel_rfl) rfl ?_
  have hM := St.enter oL hS
  have hM := hM.addE (r := rV s_a_2.v (cSl 1 fI a.signs)) a_a_2
  have hM := hM.addE (r := rV s_b_2.v (cSl 1 fI b.signs)) a_b_2
  refine wc_seq ?_
  refine wc_region ?_
  refine w_ex rfl (x_box rfl hM ?_); intro b34 w33 hR35 hM
  replace hM : St ⟨w, X, S⟩ [oBox b34 #[(.int .i64 a.kind), (.int .i64 a.n), s_a_2.v] 105] [rV s_b_2.v (cSl 1 fI b.signs), rV s_a_2.v (cSl 1 fI a.signs)] _ := hM
  refine w_ex rfl (x_box rfl hM ?_); intro b38 w37 hR39 hM
  replace hM : St ⟨w, X, S⟩ [oBox b38 #[(.int .i64 b.kind), (.int .i64 b.n), s_b_2.v] 105, oBox b34 #[(.int .i64 a.kind), (.int .i64 a.n), s_a_2.v] 105] [rV s_b_2.v (cSl 1 fI b.signs), rV s_a_2.v (cSl 1 fI a.signs)] _ := hM
  refine wv rfl (r_assign rfl) ?_
  refine wl_nil ?_
  refine sq_n ?_
  refine wc_seq ?_
  refine wc_seq ?_
  refine wc_region ?_
  refine wv rfl (r_fld Try.underlying105 rfl rfl sz3 rfl) ?_
  refine wv rfl (r_ldB Try.underlying3 rfl rfl hM (.tail _ (.head _)) rfl) ?_
  refine wv rfl (r_fld Try.underlying105 rfl rfl sz3 rfl) ?_
  refine wv rfl (r_ldB Try.underlying3 rfl rfl hM (.head _) rfl) ?_
  refine wv rfl (r_neq rfl rfl) ?_
  refine wl_nil ?_
  refine sq_n ?_
  refine wc_cond rfl (fun hc47 => ?_) (fun hc47 => ?_)
  · replace hx := xif_t hc47 hx
    refine wc_seq ?_
    refine wc_region ?_
    refine wv rfl (r_assign rfl) ?_
    refine wl_nil ?_
    refine sq_n ?_
    refine wc_ret ?_
    refine sq_ret ?_
    obtain rfl := Option.some.inj hx
    refine fin_ret [(.bool false)] ⟨rfl, trivial⟩ ?_
    replace hM := hM.t0
    have hM := hM.fewer rsN
    exact ⟨(), rfl, hM.gives⟩
  · replace hx := xif_f hc47 hx
    refine wc_skip ?_
    refine sq_n ?_
    refine wc_seq ?_
    refine wc_seq ?_
    refine wc_region ?_
    refine wv rfl (r_fld Try.underlying105 rfl rfl sz3 rfl) ?_
    refine wv rfl (r_ldB Try.underlying3 rfl rfl hM (.tail _ (.head _)) rfl) ?_
    refine wv rfl (r_fld Try.underlying105 rfl rfl sz3 rfl) ?_
    refine wv rfl (r_ldB Try.underlying3 rfl rfl hM (.head _) rfl) ?_
    refine wv rfl (r_neq rfl rfl) ?_
    refine wl_nil ?_
    refine sq_n ?_
    refine wc_cond rfl (fun hc54 => ?_) (fun hc54 => ?_)
    · replace hx := xif_t hc54 hx
      refine wc_seq ?_
      refine wc_region ?_
      refine wv rfl (r_assign rfl) ?_
      refine wl_nil ?_
      refine sq_n ?_
      refine wc_ret ?_
      refine sq_ret ?_
      obtain rfl := Option.some.inj hx
      refine fin_ret [(.bool false)] ⟨rfl, trivial⟩ ?_
      replace hM := hM.t0
      have hM := hM.fewer rsN
      exact ⟨(), rfl, hM.gives⟩
    · replace hx := xif_f hc54 hx
      refine wc_skip ?_
      refine sq_n ?_
      refine wc_seq ?_
      refine wc_seq ?_
      refine wc_region ?_
      refine wv rfl (r_fld Try.underlying105 rfl rfl sz23 rfl) ?_
      refine wv rfl (r_ldB Try.underlying23 rfl rfl hM (.tail _ (.head _)) rfl) ?_
      refine wv rfl (r_fld Try.underlying105 rfl rfl sz23 rfl) ?_
      refine wv rfl (r_ldB Try.underlying23 rfl rfl hM (.head _) rfl) ?_
      obtain ⟨r60, h61, hx⟩ := bind_some' hx
      refine w_call rfl rfl (hM.callV fun X S oL hS hR hO => ct_laws_eqIntS _ X S a.signs s_a_2 b.signs s_b_2 hS (hR _ (.tail _ (.head _))) (hR _ (.head _)) oL h61) ?_
      rintro _ w62 ⟨rfl, hR63⟩
      have hM := hM.call hR63
      refine wv rfl (r_not rfl) ?_
      refine wl_nil ?_
      refine sq_n ?_
      refine wc_cond rfl (fun hc65 => ?_) (fun hc65 => ?_)
      · replace hx := xif_t hc65 hx
        refine wc_seq ?_
        refine wc_region ?_
        refine wv rfl (r_assign rfl) ?_
        refine wl_nil ?_
        refine sq_n ?_
        refine wc_ret ?_
        refine sq_ret ?_
        obtain rfl := Option.some.inj hx
        refine fin_ret [(.bool false)] ⟨rfl, trivial⟩ ?_
        replace hM := hM.t0
        have hM := hM.fewer rsN
        exact ⟨(), rfl, hM.gives⟩
      · replace hx := xif_f hc65 hx
        refine wc_skip ?_
        refine sq_n ?_
        refine wc_seq ?_
        refine wc_region ?_
        refine wv rfl (r_assign rfl) ?_
        refine wl_nil ?_
        refine sq_n ?_
        refine wc_ret ?_
        obtain rfl := Option.some.inj hx
        refine fin_ret [(.bool true)] ⟨rfl, trivial⟩ ?_
        replace hM := hM.t0
        have hM := hM.fewer rsN
        exact ⟨(), rfl, hM.gives⟩

noncomputable def x_laws_eqPartS_b0 (a : List DPart) (b : List DPart) (i9 : Int) : Option (Lr Int (Sum Unit Unit)) :=
  bif decide (i9 < (a.length : Int)) then (xg (0 ≤ i9 ∧ i9 < (a.length : Int)) <| xg (0 ≤ i9 ∧ i9 < (b.length : Int)) <| Option.bind (x_laws_eqPart (el a i9.toNat) (el b i9.toNat)) fun r61 => bif !r61 then (some (Lr.out (Sum.inr (())))) else (xg (inI (i9 + 1)) <| some (Lr.go (i9 + 1)))) else (some (Lr.out (Sum.inl ())))
noncomputable def x_laws_eqPartS_f0 (a : List DPart) (b : List DPart) (s72 : Int) : Option (Lr Int (Sum Unit Unit)) := x_laws_eqPartS_b0 a b s72
noncomputable def x_laws_eqPartS (a : List DPart) (b : List DPart) : Option Bool :=
  bif !decide ((a.length : Int) = (b.length : Int)) then (some false) else (Option.bind (iter (x_laws_eqPartS_f0 a b) 0) fun (y73 : Sum Unit Unit) => Sum.elim (fun _y74 => some true) (fun _y75 => some false) y73)
theorem ct_laws_eqPartS (w : World) (X S : Bs) (a : List DPart) (s_a : Sv) (b : List DPart) (s_b : Sv) (hS : ∀ b, S b → b < w.heap.size ∧ ¬ X b) (a_a_0 : (cSl 3 fDPart a).rd S w s_a.v) (a_b_0 : (cSl 3 fDPart b).rd S w s_b.v) (oL : Sep [] X w) {r : Bool} (hx : x_laws_eqPartS a b = some r) :
    Ret Try.prog 54 [s_a.v, s_b.v] w (fun u w' => ∃ _ : Unit, u = (.bool r) ∧ Gives X S w [] [] w') := by
  unfold x_laws_eqPartS at hx
  refine enter Try.func54 rfl Try.ntmps54 (by kernel_rfl) rfl ?_
  have hM := St.enter oL hS
  have hM := hM.addE (r := rV s_a.v (cSl 3 fDPart a)) a_a_0
  have hM := hM.addE (r := rV s_b.v (cSl 3 fDPart b)) a_b_0
  refine wc_seq ?_
  refine wc_region ?_
  refine wv rfl (r_assign rfl) ?_
  refine wl_nil ?_
  refine sq_n ?_
  refine wc_seq ?_
  refine wc_seq ?_
  refine wc_region ?_
  refine wv rfl (r_move rfl) ?_
  refine wv rfl (r_lenC Try.underlying33 rfl (hM.seeR (.tail _ (.head _)))) ?_
  refine wv rfl (r_move rfl) ?_
  refine wv rfl (r_lenC Try.underlying33 rfl (hM.seeR (.head _))) ?_
  refine wv rfl (r_neq rfl rfl) ?_
  refine wl_nil ?_
  refine sq_n ?_
  refine wc_cond rfl (fun hc83 => ?_) (fun hc83 => ?_)
  · replace hx := xif_t hc83 hx
    refine wc_seq ?_
    refine wc_region ?_
    refine wv rfl (r_assign rfl) ?_
    refine wl_nil ?_
    refine sq_n ?_
    refine wc_ret ?_
    refine sq_ret ?_
    obtain rfl := Option.some.inj hx
    refine fin_ret [(.bool false)] ⟨rfl, trivial⟩ ?_
    replace hM := hM.t0
    have hM := hM.fewer rsN
    exact ⟨(), rfl, hM.gives⟩
  · replace hx := xif_f hc83 hx
    refine wc_skip ?_
    refine sq_n ?_
    refine wc_seq ?_
    refine wc_seq ?_
    refine wc_region ?_
    refine wv rfl (r_assign rfl) ?_
    refine wl_nil ?_
    refine sq_n ?_
    refine wc_block ?_
    obtain ⟨y86, hx, hx87⟩ := bind_some' hx
    have hM := hM.fewer (rsC (.tail _ (.head _)) (rsC (.head _) rsN))
    replace hM : St ⟨w, X, S⟩ [] [rV s_a.v (cSl 3 fDPart a), rV s_b.v (cSl 3 fDPart b)] _ := hM
    obtain ⟨m91, hx⟩ := iter_run hx
    refine wc_loop (un fun (m89 : Nat) => fun (i88 : Int) => [(0, s_a.v), (1, s_b.v), (5, (.int .i64 i88))]) (un fun (m89 : Nat) => fun (i88 : Int) w' => St ⟨w, X, S⟩ [] [rV s_a.v (cSl 3 fDPart a), rV s_b.v (cSl 3 fDPart b)] w' ∧ iterN _ m89 i88 = some y86) (fun p => p.1) (m91, 0) ⟨rfl, rfl, rfl, trivial⟩ ⟨hM, hx⟩ ?_
    rintro ⟨m89, i88⟩ w92 ⟨hM, hx⟩
    obtain ⟨m93, z94, rfl, hx, hx95⟩ := iterN_step hx
    unfold x_laws_eqPartS_f0 x_laws_eqPartS_b0 at hx
    try dsimp only at hx
    refine wc_seq ?_
    refine wc_seq ?_
    refine wc_region ?_
    refine wv rfl (r_move rfl) ?_
    refine wv rfl (r_move rfl) ?_
    refine wv rfl (r_lenC Try.underlying33 rfl (hM.seeR (.head _))) ?_
    refine wv rfl (r_lss rfl rfl) ?_
    refine wl_nil ?_
    refine sq_n ?_
    refine wc_cond rfl (fun hc100 => ?_) (fun hc100 => ?_)
    · replace hx := xif_t hc100 hx
      refine wc_skip ?_
      refine sq_n ?_
      refine wc_seq ?_
      refine wc_block ?_
      refine wc_seq ?_
      refine wc_draw [(0, 0), (1, 0), (2, 0), (3, 0), (4, 0), (5, 0), (6, 0), (7, 0), (8, 0), (9, 0)] Try_mixed (by kernel_rfl) rfl (by kernel_rfl) rfl ?_
      refine ov rfl (fun w' h' => r_move rfl) ?_
      refine ov rfl (fun w' h' => r_move rfl) ?_
      obtain ⟨hg105, hx⟩ := xg_some hx
      have hi104 : i88.toNat < a.length := by omega
      refine ov rfl (fun w' h' => r_ixC Try.underlying33 sz105 rfl rfl ((hM.call h').seeR (.head _)) hg105) ?_
      obtain ⟨s107, hM, hc108⟩ := hM.leaf (i := i88.toNat) (j := 2) (.head _) (fun _ => rfl) hi104 rfl
      refine ov rfl (fun w' h' => r_ldC (o := i88.toNat * 3) Try.underlying105 sz105 rfl (us := [(.int .i64 ((el a i88.toNat).kind)), (.int .i64 ((el a i88.toNat).n)), s107.v]) rfl ((hM.call h').seeR (.tail _ (.head _))) hi104 ⟨(Cs.get (i := i88.toNat) (j := 0) ((hM.call h').seeR (.tail _ (.head _))) (fun _ => rfl) hi104 rfl), (Cs.get (i := i88.toNat) (j := 1) ((hM.call h').seeR (.tail _ (.head _))) (fun _ => rfl) hi104 rfl), (hc108 w' h'), trivial⟩) ?_
      refine ov rfl (fun w' h' => r_move rfl) ?_
      refine ov rfl (fun w' h' => r_move rfl) ?_
      obtain ⟨hg113, hx⟩ := xg_some hx
      have hi112 : i88.toNat < b.length := by omega
      refine ov rfl (fun w' h' => r_ixC Try.underlying33 sz105 rfl rfl ((hM.call h').seeR (.tail _ (.tail _ (.head _)))) hg113) ?_
      obtain ⟨s115, hM, hc116⟩ := hM.leaf (i := i88.toNat) (j := 2) (.tail _ (.tail _ (.head _))) (fun _ => rfl) hi112 rfl
      refine ov rfl (fun w' h' => r_ldC (o := i88.toNat * 3) Try.underlying105 sz105 rfl (us := [(.int .i64 ((el b i88.toNat).kind)), (.int .i64 ((el b i88.toNat).n)), s115.v]) rfl ((hM.call h').seeR (.tail _ (.tail _ (.tail _ (.head _))))) hi112 ⟨(Cs.get (i := i88.toNat) (j := 0) ((hM.call h').seeR (.tail _ (.tail _ (.tail _ (.head _))))) (fun _ => rfl) hi112 rfl), (Cs.get (i := i88.toNat) (j := 1) ((hM.call h').seeR (.tail _ (.tail _ (.tail _ (.head _))))) (fun _ => rfl) hi112 rfl), (hc116 w' h'), trivial⟩) ?_
      obtain ⟨r117, h118, hx⟩ := bind_some' hx
      refine oc rfl rfl (fun w' h' => (hM.call h').callV fun X S oL hS hR hO => ct_laws_eqPart _ X S (el a i88.toNat) s107 (el b i88.toNat) s115 hS (hR _ (.tail _ (.head _))) (hR _ (.head _)) oL h118) ?_
      refine ov rfl (fun w' h' => r_not rfl) ?_
      refine o_nil fun w121 hw122 => ?_
      have hM := hM.call hw122
      refine sq_n ?_
      refine wc_cond rfl (fun hc123 => ?_) (fun hc123 => ?_)
      · replace hx := xif_t hc123 hx
        refine wc_seq ?_
        refine wc_region ?_
        refine wv rfl (r_assign rfl) ?_
        refine wl_nil ?_
        refine sq_n ?_
        refine wc_ret ?_
        refine bk_ret ?_
        refine sq_ret ?_
        refine lp1_ret ?_
        obtain rfl := Option.some.inj hx
        obtain rfl := Option.some.inj hx95
        replace hx := hx87
        try dsimp only [Sum.elim_inl, Sum.elim_inr] at hx
        refine bk_ret ?_
        refine sq_ret ?_
        obtain rfl := Option.some.inj hx
        refine fin_ret [(.bool false)] ⟨rfl, trivial⟩ ?_
        replace hM := hM.t0
        have hM := hM.fewer rsN
        exact ⟨(), rfl, hM.gives⟩
      · replace hx := xif_f hc123 hx
        refine wc_skip ?_
        refine bk_n ?_
        refine sq_n ?_
        refine wc_region ?_
        refine wv rfl (r_move rfl) ?_
        obtain ⟨hg127, hx⟩ := xg_some hx
        refine wv rfl (r_add rfl rfl hg127) ?_
        refine wv rfl (r_assign rfl) ?_
        refine wl_nil ?_
        obtain rfl := Option.some.inj hx
        have hM := hM.fewer (rsC (.tail _ (.tail _ (.head _))) (rsC (.tail _ (.tail _ (.tail _ (.head _)))) rsN))
        replace hM : St ⟨w, X, S⟩ [] [rV s_a.v (cSl 3 fDPart a), rV s_b.v (cSl 3 fDPart b)] _ := hM
        exact lp_end (m93, i88 + 1) (Nat.lt_succ_self _) ⟨rfl, rfl, rfl, trivial⟩ ⟨hM, hx95⟩
    · replace hx := xif_f hc100 hx
      refine wc_exit ?_
      refine sq_exit ?_
      refine lp1_exit ?_
      obtain rfl := Option.some.inj hx
      obtain rfl := Option.some.inj hx95
      replace hx := hx87
      try dsimp only [Sum.elim_inl, Sum.elim_inr] at hx
      refine bk_here ?_
      refine sq_n ?_
      refine wc_seq ?_
      refine wc_region ?_
      refine wv rfl (r_assign rfl) ?_
      refine wl_nil ?_
      refine sq_n ?_
      refine wc_ret ?_
      obtain rfl := Option.some.inj hx
      refine fin_ret [(.bool true)] ⟨rfl, trivial⟩ ?_
      replace hM := hM.t0
      have hM := hM.fewer rsN
      exact ⟨(), rfl, hM.gives⟩

noncomputable def x_laws_eqCall (a : DCall) (b : DCall) : Option Bool :=
  bif !decide (a.kind = b.kind) then (some false) else (bif !decide (a.doc = b.doc) then (some false) else (bif !decide (a.client = b.client) then (some false) else (bif !decide (a.seq = b.seq) then (some false) else (bif !decide (a.n = b.n) then (some false) else (Option.bind (x_laws_eqPartS a.o b.o) fun r44 => bif !r44 then (some false) else (Option.bind (x_laws_eqIntS a.text b.text) fun r54 => bif !r54 then (some false) else (some true)))))))
theorem ct_laws_eqCall (w : World) (X S : Bs) (a : DCall) (s_a_5 : Sv) (s_a_6 : Sv) (b : DCall) (s_b_5 : Sv) (s_b_6 : Sv) (hS : ∀ b, S b → b < w.heap.size ∧ ¬ X b) (a_a_5 : (cSl 3 fDPart a.o).rd S w s_a_5.v) (a_a_6 : (cSl 1 fI a.text).rd S w s_a_6.v) (a_b_5 : (cSl 3 fDPart b.o).rd S w s_b_5.v) (a_b_6 : (cSl 1 fI b.text).rd S w s_b_6.v) (oL : Sep [] X w) {r : Bool} (hx : x_laws_eqCall a b = some r) :
    Ret Try.prog 29 [(.agg #[(.int .i64 a.kind), (.string a.doc), (.int .i64 a.client), (.int .i64 a.seq), (.int .i64 a.n), s_a_5.v, s_a_6.v]), (.agg #[(.int .i64 b.kind), (.string b.doc), (.int .i64 b.client), (.int .i64 b.seq), (.int .i64 b.n), s_b_5.v, s_b_6.v])] w (fun u w' => ∃ _ : Unit, u = (.bool r) ∧ Gives X S w [] [] w') := by
  unfold x_laws_eqCall at hx
  refine enter Try.func29 rfl Try.ntmps29 (by kernel_rfl) rfl ?_
  have hM := St.enter oL hS
  have hM := hM.addE (r := rV s_a_5.v (cSl 3 fDPart a.o)) a_a_5
  have hM := hM.addE (r := rV s_a_6.v (cSl 1 fI a.text)) a_a_6
  have hM := hM.addE (r := rV s_b_5.v (cSl 3 fDPart b.o)) a_b_5
  have hM := hM.addE (r := rV s_b_6.v (cSl 1 fI b.text)) a_b_6
  refine wc_seq ?_
  refine wc_region ?_
  refine w_ex rfl (x_box rfl hM ?_); intro b62 w61 hR63 hM
  replace hM : St ⟨w, X, S⟩ [oBox b62 #[(.int .i64 a.kind), (.string a.doc), (.int .i64 a.client), (.int .i64 a.seq), (.int .i64 a.n), s_a_5.v, s_a_6.v] 35] [rV s_b_6.v (cSl 1 fI b.text), rV s_b_5.v (cSl 3 fDPart b.o), rV s_a_6.v (cSl 1 fI a.text), rV s_a_5.v (cSl 3 fDPart a.o)] _ := hM
  refine w_ex rfl (x_box rfl hM ?_); intro b66 w65 hR67 hM
  replace hM : St ⟨w, X, S⟩ [oBox b66 #[(.int .i64 b.kind), (.string b.doc), (.int .i64 b.client), (.int .i64 b.seq), (.int .i64 b.n), s_b_5.v, s_b_6.v] 35, oBox b62 #[(.int .i64 a.kind), (.string a.doc), (.int .i64 a.client), (.int .i64 a.seq), (.int .i64 a.n), s_a_5.v, s_a_6.v] 35] [rV s_b_6.v (cSl 1 fI b.text), rV s_b_5.v (cSl 3 fDPart b.o), rV s_a_6.v (cSl 1 fI a.text), rV s_a_5.v (cSl 3 fDPart a.o)] _ := hM
  refine wv rfl (r_assign rfl) ?_
  refine wl_nil ?_
  refine sq_n ?_
  refine wc_seq ?_
  refine wc_seq ?_
  refine wc_region ?_
  refine wv rfl (r_fld Try.underlying35 rfl rfl sz3 rfl) ?_
  refine wv rfl (r_ldB Try.underlying3 rfl rfl hM (.tail _ (.head _)) rfl) ?_
  refine wv rfl (r_fld Try.underlying35 rfl rfl sz3 rfl) ?_
  refine wv rfl (r_ldB Try.underlying3 rfl rfl hM (.head _) rfl) ?_
  refine wv rfl (r_neq rfl rfl) ?_
  refine wl_nil ?_
  refine sq_n ?_
  refine wc_cond rfl (fun hc75 => ?_) (fun hc75 => ?_)
  · replace hx := xif_t hc75 hx
    refine wc_seq ?_
    refine wc_region ?_
    refine wv rfl (r_assign rfl) ?_
    refine wl_nil ?_
    refine sq_n ?_
    refine wc_ret ?_
    refine sq_ret ?_
    obtain rfl := Option.some.inj hx
    refine fin_ret [(.bool false)] ⟨rfl, trivial⟩ ?_
    replace hM := hM.t0
    have hM := hM.fewer rsN
    exact ⟨(), rfl, hM.gives⟩
  · replace hx := xif_f hc75 hx
    refine wc_skip ?_
    refine sq_n ?_
    refine wc_seq ?_
    refine wc_seq ?_
    refine wc_region ?_
    refine wv rfl (r_fld Try.underlying35 rfl rfl sz9 rfl) ?_
    refine wv rfl (r_ldB Try.underlying9 rfl rfl hM (.tail _ (.head _)) rfl) ?_
    refine wv rfl (r_fld Try.underlying35 rfl rfl sz9 rfl) ?_
    refine wv rfl (r_ldB Try.underlying9 rfl rfl hM (.head _) rfl) ?_
    refine wv rfl (r_neqs rfl rfl) ?_
    refine wl_nil ?_
    refine sq_n ?_
    refine wc_cond rfl (fun hc82 => ?_) (fun hc82 => ?_)
    · replace hx := xif_t hc82 hx
      refine wc_seq ?_
      refine wc_region ?_
      refine wv rfl (r_assign rfl) ?_
      refine wl_nil ?_
      refine sq_n ?_
      refine wc_ret ?_
      refine sq_ret ?_
      obtain rfl := Option.some.inj hx
      refine fin_ret [(.bool false)] ⟨rfl, trivial⟩ ?_
      replace hM := hM.t0
      have hM := hM.fewer rsN
      exact ⟨(), rfl, hM.gives⟩
    · replace hx := xif_f hc82 hx
      refine wc_skip ?_
      refine sq_n ?_
      refine wc_seq ?_
      refine wc_seq ?_
      refine wc_region ?_
      refine wv rfl (r_fld Try.underlying35 rfl rfl sz3 rfl) ?_
      refine wv rfl (r_ldB Try.underlying3 rfl rfl hM (.tail _ (.head _)) rfl) ?_
      refine wv rfl (r_fld Try.underlying35 rfl rfl sz3 rfl) ?_
      refine wv rfl (r_ldB Try.underlying3 rfl rfl hM (.head _) rfl) ?_
      refine wv rfl (r_neq rfl rfl) ?_
      refine wl_nil ?_
      refine sq_n ?_
      refine wc_cond rfl (fun hc89 => ?_) (fun hc89 => ?_)
      · replace hx := xif_t hc89 hx
        refine wc_seq ?_
        refine wc_region ?_
        refine wv rfl (r_assign rfl) ?_
        refine wl_nil ?_
        refine sq_n ?_
        refine wc_ret ?_
        refine sq_ret ?_
        obtain rfl := Option.some.inj hx
        refine fin_ret [(.bool false)] ⟨rfl, trivial⟩ ?_
        replace hM := hM.t0
        have hM := hM.fewer rsN
        exact ⟨(), rfl, hM.gives⟩
      · replace hx := xif_f hc89 hx
        refine wc_skip ?_
        refine sq_n ?_
        refine wc_seq ?_
        refine wc_seq ?_
        refine wc_region ?_
        refine wv rfl (r_fld Try.underlying35 rfl rfl sz3 rfl) ?_
        refine wv rfl (r_ldB Try.underlying3 rfl rfl hM (.tail _ (.head _)) rfl) ?_
        refine wv rfl (r_fld Try.underlying35 rfl rfl sz3 rfl) ?_
        refine wv rfl (r_ldB Try.underlying3 rfl rfl hM (.head _) rfl) ?_
        refine wv rfl (r_neq rfl rfl) ?_
        refine wl_nil ?_
        refine sq_n ?_
        refine wc_cond rfl (fun hc96 => ?_) (fun hc96 => ?_)
        · replace hx := xif_t hc96 hx
          refine wc_seq ?_
          refine wc_region ?_
          refine wv rfl (r_assign rfl) ?_
          refine wl_nil ?_
          refine sq_n ?_
          refine wc_ret ?_
          refine sq_ret ?_
          obtain rfl := Option.some.inj hx
          refine fin_ret [(.bool false)] ⟨rfl, trivial⟩ ?_
          replace hM := hM.t0
          have hM := hM.fewer rsN
          exact ⟨(), rfl, hM.gives⟩
        · replace hx := xif_f hc96 hx
          refine wc_skip ?_
          refine sq_n ?_
          refine wc_seq ?_
          refine wc_seq ?_
          refine wc_region ?_
          refine wv rfl (r_fld Try.underlying35 rfl rfl sz3 rfl) ?_
          refine wv rfl (r_ldB Try.underlying3 rfl rfl hM (.tail _ (.head _)) rfl) ?_
          refine wv rfl (r_fld Try.underlying35 rfl rfl sz3 rfl) ?_
          refine wv rfl (r_ldB Try.underlying3 rfl rfl hM (.head _) rfl) ?_
          refine wv rfl (r_neq rfl rfl) ?_
          refine wl_nil ?_
          refine sq_n ?_
          refine wc_cond rfl (fun hc103 => ?_) (fun hc103 => ?_)
          · replace hx := xif_t hc103 hx
            refine wc_seq ?_
            refine wc_region ?_
            refine wv rfl (r_assign rfl) ?_
            refine wl_nil ?_
            refine sq_n ?_
            refine wc_ret ?_
            refine sq_ret ?_
            obtain rfl := Option.some.inj hx
            refine fin_ret [(.bool false)] ⟨rfl, trivial⟩ ?_
            replace hM := hM.t0
            have hM := hM.fewer rsN
            exact ⟨(), rfl, hM.gives⟩
          · replace hx := xif_f hc103 hx
            refine wc_skip ?_
            refine sq_n ?_
            refine wc_seq ?_
            refine wc_seq ?_
            refine wc_region ?_
            refine wv rfl (r_fld Try.underlying35 rfl rfl sz33 rfl) ?_
            refine wv rfl (r_ldB Try.underlying33 rfl rfl hM (.tail _ (.head _)) rfl) ?_
            refine wv rfl (r_fld Try.underlying35 rfl rfl sz33 rfl) ?_
            refine wv rfl (r_ldB Try.underlying33 rfl rfl hM (.head _) rfl) ?_
            obtain ⟨r109, h110, hx⟩ := bind_some' hx
            refine w_call rfl rfl (hM.callV fun X S oL hS hR hO => ct_laws_eqPartS _ X S a.o s_a_5 b.o s_b_5 hS (hR _ (.tail _ (.tail _ (.tail _ (.head _))))) (hR _ (.tail _ (.head _))) oL h110) ?_
            rintro _ w111 ⟨rfl, hR112⟩
            have hM := hM.call hR112
            refine wv rfl (r_not rfl) ?_
            refine wl_nil ?_
            refine sq_n ?_
            refine wc_cond rfl (fun hc114 => ?_) (fun hc114 => ?_)
            · replace hx := xif_t hc114 hx
              refine wc_seq ?_
              refine wc_region ?_
              refine wv rfl (r_assign rfl) ?_
              refine wl_nil ?_
              refine sq_n ?_
              refine wc_ret ?_
              refine sq_ret ?_
              obtain rfl := Option.some.inj hx
              refine fin_ret [(.bool false)] ⟨rfl, trivial⟩ ?_
              replace hM := hM.t0
              have hM := hM.fewer rsN
              exact ⟨(), rfl, hM.gives⟩
            · replace hx := xif_f hc114 hx
              refine wc_skip ?_
              refine sq_n ?_
              refine wc_seq ?_
              refine wc_seq ?_
              refine wc_region ?_
              refine wv rfl (r_fld Try.underlying35 rfl rfl sz23 rfl) ?_
              refine wv rfl (r_ldB Try.underlying23 rfl rfl hM (.tail _ (.head _)) rfl) ?_
              refine wv rfl (r_fld Try.underlying35 rfl rfl sz23 rfl) ?_
              refine wv rfl (r_ldB Try.underlying23 rfl rfl hM (.head _) rfl) ?_
              obtain ⟨r120, h121, hx⟩ := bind_some' hx
              refine w_call rfl rfl (hM.callV fun X S oL hS hR hO => ct_laws_eqIntS _ X S a.text s_a_6 b.text s_b_6 hS (hR _ (.tail _ (.tail _ (.head _)))) (hR _ (.head _)) oL h121) ?_
              rintro _ w122 ⟨rfl, hR123⟩
              have hM := hM.call hR123
              refine wv rfl (r_not rfl) ?_
              refine wl_nil ?_
              refine sq_n ?_
              refine wc_cond rfl (fun hc125 => ?_) (fun hc125 => ?_)
              · replace hx := xif_t hc125 hx
                refine wc_seq ?_
                refine wc_region ?_
                refine wv rfl (r_assign rfl) ?_
                refine wl_nil ?_
                refine sq_n ?_
                refine wc_ret ?_
                refine sq_ret ?_
                obtain rfl := Option.some.inj hx
                refine fin_ret [(.bool false)] ⟨rfl, trivial⟩ ?_
                replace hM := hM.t0
                have hM := hM.fewer rsN
                exact ⟨(), rfl, hM.gives⟩
              · replace hx := xif_f hc125 hx
                refine wc_skip ?_
                refine sq_n ?_
                refine wc_seq ?_
                refine wc_region ?_
                refine wv rfl (r_assign rfl) ?_
                refine wl_nil ?_
                refine sq_n ?_
                refine wc_ret ?_
                obtain rfl := Option.some.inj hx
                refine fin_ret [(.bool true)] ⟨rfl, trivial⟩ ?_
                replace hM := hM.t0
                have hM := hM.fewer rsN
                exact ⟨(), rfl, hM.gives⟩

noncomputable def x_laws_eqEntry (a : DEntry) (b : DEntry) : Option Bool :=
  bif !decide (a.client = b.client) then (some false) else (bif !decide (a.seq = b.seq) then (some false) else (Option.bind (x_laws_eqPartS a.o b.o) fun r26 => bif !r26 then (some false) else (some true)))
theorem ct_laws_eqEntry (w : World) (X S : Bs) (a : DEntry) (s_a_2 : Sv) (b : DEntry) (s_b_2 : Sv) (hS : ∀ b, S b → b < w.heap.size ∧ ¬ X b) (a_a_2 : (cSl 3 fDPart a.o).rd S w s_a_2.v) (a_b_2 : (cSl 3 fDPart b.o).rd S w s_b_2.v) (oL : Sep [] X w) {r : Bool} (hx : x_laws_eqEntry a b = some r) :
    Ret Try.prog 76 [(.agg #[(.int .i64 a.client), (.int .i64 a.seq), s_a_2.v]), (.agg #[(.int .i64 b.client), (.int .i64 b.seq), s_b_2.v])] w (fun u w' => ∃ _ : Unit, u = (.bool r) ∧ Gives X S w [] [] w') := by
  unfold x_laws_eqEntry at hx
  refine enter Try.func76 rfl Try.ntmps76 (by kernel_rfl) rfl ?_
  have hM := St.enter oL hS
  have hM := hM.addE (r := rV s_a_2.v (cSl 3 fDPart a.o)) a_a_2
  have hM := hM.addE (r := rV s_b_2.v (cSl 3 fDPart b.o)) a_b_2
  refine wc_seq ?_
  refine wc_region ?_
  refine w_ex rfl (x_box rfl hM ?_); intro b34 w33 hR35 hM
  replace hM : St ⟨w, X, S⟩ [oBox b34 #[(.int .i64 a.client), (.int .i64 a.seq), s_a_2.v] 73] [rV s_b_2.v (cSl 3 fDPart b.o), rV s_a_2.v (cSl 3 fDPart a.o)] _ := hM
  refine w_ex rfl (x_box rfl hM ?_); intro b38 w37 hR39 hM
  replace hM : St ⟨w, X, S⟩ [oBox b38 #[(.int .i64 b.client), (.int .i64 b.seq), s_b_2.v] 73, oBox b34 #[(.int .i64 a.client), (.int .i64 a.seq), s_a_2.v] 73] [rV s_b_2.v (cSl 3 fDPart b.o), rV s_a_2.v (cSl 3 fDPart a.o)] _ := hM
  refine wv rfl (r_assign rfl) ?_
  refine wl_nil ?_
  refine sq_n ?_
  refine wc_seq ?_
  refine wc_seq ?_
  refine wc_region ?_
  refine wv rfl (r_fld Try.underlying73 rfl rfl sz3 rfl) ?_
  refine wv rfl (r_ldB Try.underlying3 rfl rfl hM (.tail _ (.head _)) rfl) ?_
  refine wv rfl (r_fld Try.underlying73 rfl rfl sz3 rfl) ?_
  refine wv rfl (r_ldB Try.underlying3 rfl rfl hM (.head _) rfl) ?_
  refine wv rfl (r_neq rfl rfl) ?_
  refine wl_nil ?_
  refine sq_n ?_
  refine wc_cond rfl (fun hc47 => ?_) (fun hc47 => ?_)
  · replace hx := xif_t hc47 hx
    refine wc_seq ?_
    refine wc_region ?_
    refine wv rfl (r_assign rfl) ?_
    refine wl_nil ?_
    refine sq_n ?_
    refine wc_ret ?_
    refine sq_ret ?_
    obtain rfl := Option.some.inj hx
    refine fin_ret [(.bool false)] ⟨rfl, trivial⟩ ?_
    replace hM := hM.t0
    have hM := hM.fewer rsN
    exact ⟨(), rfl, hM.gives⟩
  · replace hx := xif_f hc47 hx
    refine wc_skip ?_
    refine sq_n ?_
    refine wc_seq ?_
    refine wc_seq ?_
    refine wc_region ?_
    refine wv rfl (r_fld Try.underlying73 rfl rfl sz3 rfl) ?_
    refine wv rfl (r_ldB Try.underlying3 rfl rfl hM (.tail _ (.head _)) rfl) ?_
    refine wv rfl (r_fld Try.underlying73 rfl rfl sz3 rfl) ?_
    refine wv rfl (r_ldB Try.underlying3 rfl rfl hM (.head _) rfl) ?_
    refine wv rfl (r_neq rfl rfl) ?_
    refine wl_nil ?_
    refine sq_n ?_
    refine wc_cond rfl (fun hc54 => ?_) (fun hc54 => ?_)
    · replace hx := xif_t hc54 hx
      refine wc_seq ?_
      refine wc_region ?_
      refine wv rfl (r_assign rfl) ?_
      refine wl_nil ?_
      refine sq_n ?_
      refine wc_ret ?_
      refine sq_ret ?_
      obtain rfl := Option.some.inj hx
      refine fin_ret [(.bool false)] ⟨rfl, trivial⟩ ?_
      replace hM := hM.t0
      have hM := hM.fewer rsN
      exact ⟨(), rfl, hM.gives⟩
    · replace hx := xif_f hc54 hx
      refine wc_skip ?_
      refine sq_n ?_
      refine wc_seq ?_
      refine wc_seq ?_
      refine wc_region ?_
      refine wv rfl (r_fld Try.underlying73 rfl rfl sz33 rfl) ?_
      refine wv rfl (r_ldB Try.underlying33 rfl rfl hM (.tail _ (.head _)) rfl) ?_
      refine wv rfl (r_fld Try.underlying73 rfl rfl sz33 rfl) ?_
      refine wv rfl (r_ldB Try.underlying33 rfl rfl hM (.head _) rfl) ?_
      obtain ⟨r60, h61, hx⟩ := bind_some' hx
      refine w_call rfl rfl (hM.callV fun X S oL hS hR hO => ct_laws_eqPartS _ X S a.o s_a_2 b.o s_b_2 hS (hR _ (.tail _ (.head _))) (hR _ (.head _)) oL h61) ?_
      rintro _ w62 ⟨rfl, hR63⟩
      have hM := hM.call hR63
      refine wv rfl (r_not rfl) ?_
      refine wl_nil ?_
      refine sq_n ?_
      refine wc_cond rfl (fun hc65 => ?_) (fun hc65 => ?_)
      · replace hx := xif_t hc65 hx
        refine wc_seq ?_
        refine wc_region ?_
        refine wv rfl (r_assign rfl) ?_
        refine wl_nil ?_
        refine sq_n ?_
        refine wc_ret ?_
        refine sq_ret ?_
        obtain rfl := Option.some.inj hx
        refine fin_ret [(.bool false)] ⟨rfl, trivial⟩ ?_
        replace hM := hM.t0
        have hM := hM.fewer rsN
        exact ⟨(), rfl, hM.gives⟩
      · replace hx := xif_f hc65 hx
        refine wc_skip ?_
        refine sq_n ?_
        refine wc_seq ?_
        refine wc_region ?_
        refine wv rfl (r_assign rfl) ?_
        refine wl_nil ?_
        refine sq_n ?_
        refine wc_ret ?_
        obtain rfl := Option.some.inj hx
        refine fin_ret [(.bool true)] ⟨rfl, trivial⟩ ?_
        replace hM := hM.t0
        have hM := hM.fewer rsN
        exact ⟨(), rfl, hM.gives⟩

noncomputable def x_laws_eqEntryS_b0 (a : List DEntry) (b : List DEntry) (i9 : Int) : Option (Lr Int (Sum Unit Unit)) :=
  bif decide (i9 < (a.length : Int)) then (xg (0 ≤ i9 ∧ i9 < (a.length : Int)) <| xg (0 ≤ i9 ∧ i9 < (b.length : Int)) <| Option.bind (x_laws_eqEntry (el a i9.toNat) (el b i9.toNat)) fun r61 => bif !r61 then (some (Lr.out (Sum.inr (())))) else (xg (inI (i9 + 1)) <| some (Lr.go (i9 + 1)))) else (some (Lr.out (Sum.inl ())))
noncomputable def x_laws_eqEntryS_f0 (a : List DEntry) (b : List DEntry) (s72 : Int) : Option (Lr Int (Sum Unit Unit)) := x_laws_eqEntryS_b0 a b s72
noncomputable def x_laws_eqEntryS (a : List DEntry) (b : List DEntry) : Option Bool :=
  bif !decide ((a.length : Int) = (b.length : Int)) then (some false) else (Option.bind (iter (x_laws_eqEntryS_f0 a b) 0) fun (y73 : Sum Unit Unit) => Sum.elim (fun _y74 => some true) (fun _y75 => some false) y73)
theorem ct_laws_eqEntryS (w : World) (X S : Bs) (a : List DEntry) (s_a : Sv) (b : List DEntry) (s_b : Sv) (hS : ∀ b, S b → b < w.heap.size ∧ ¬ X b) (a_a_0 : (cSl 3 fDEntry a).rd S w s_a.v) (a_b_0 : (cSl 3 fDEntry b).rd S w s_b.v) (oL : Sep [] X w) {r : Bool} (hx : x_laws_eqEntryS a b = some r) :
    Ret Try.prog 44 [s_a.v, s_b.v] w (fun u w' => ∃ _ : Unit, u = (.bool r) ∧ Gives X S w [] [] w') := by
  unfold x_laws_eqEntryS at hx
  refine enter Try.func44 rfl Try.ntmps44 (by kernel_rfl) rfl ?_
  have hM := St.enter oL hS
  have hM := hM.addE (r := rV s_a.v (cSl 3 fDEntry a)) a_a_0
  have hM := hM.addE (r := rV s_b.v (cSl 3 fDEntry b)) a_b_0
  refine wc_seq ?_
  refine wc_region ?_
  refine wv rfl (r_assign rfl) ?_
  refine wl_nil ?_
  refine sq_n ?_
  refine wc_seq ?_
  refine wc_seq ?_
  refine wc_region ?_
  refine wv rfl (r_move rfl) ?_
  refine wv rfl (r_lenC Try.underlying36 rfl (hM.seeR (.tail _ (.head _)))) ?_
  refine wv rfl (r_move rfl) ?_
  refine wv rfl (r_lenC Try.underlying36 rfl (hM.seeR (.head _))) ?_
  refine wv rfl (r_neq rfl rfl) ?_
  refine wl_nil ?_
  refine sq_n ?_
  refine wc_cond rfl (fun hc83 => ?_) (fun hc83 => ?_)
  · replace hx := xif_t hc83 hx
    refine wc_seq ?_
    refine wc_region ?_
    refine wv rfl (r_assign rfl) ?_
    refine wl_nil ?_
    refine sq_n ?_
    refine wc_ret ?_
    refine sq_ret ?_
    obtain rfl := Option.some.inj hx
    refine fin_ret [(.bool false)] ⟨rfl, trivial⟩ ?_
    replace hM := hM.t0
    have hM := hM.fewer rsN
    exact ⟨(), rfl, hM.gives⟩
  · replace hx := xif_f hc83 hx
    refine wc_skip ?_
    refine sq_n ?_
    refine wc_seq ?_
    refine wc_seq ?_
    refine wc_region ?_
    refine wv rfl (r_assign rfl) ?_
    refine wl_nil ?_
    refine sq_n ?_
    refine wc_block ?_
    obtain ⟨y86, hx, hx87⟩ := bind_some' hx
    have hM := hM.fewer (rsC (.tail _ (.head _)) (rsC (.head _) rsN))
    replace hM : St ⟨w, X, S⟩ [] [rV s_a.v (cSl 3 fDEntry a), rV s_b.v (cSl 3 fDEntry b)] _ := hM
    obtain ⟨m91, hx⟩ := iter_run hx
    refine wc_loop (un fun (m89 : Nat) => fun (i88 : Int) => [(0, s_a.v), (1, s_b.v), (5, (.int .i64 i88))]) (un fun (m89 : Nat) => fun (i88 : Int) w' => St ⟨w, X, S⟩ [] [rV s_a.v (cSl 3 fDEntry a), rV s_b.v (cSl 3 fDEntry b)] w' ∧ iterN _ m89 i88 = some y86) (fun p => p.1) (m91, 0) ⟨rfl, rfl, rfl, trivial⟩ ⟨hM, hx⟩ ?_
    rintro ⟨m89, i88⟩ w92 ⟨hM, hx⟩
    obtain ⟨m93, z94, rfl, hx, hx95⟩ := iterN_step hx
    unfold x_laws_eqEntryS_f0 x_laws_eqEntryS_b0 at hx
    try dsimp only at hx
    refine wc_seq ?_
    refine wc_seq ?_
    refine wc_region ?_
    refine wv rfl (r_move rfl) ?_
    refine wv rfl (r_move rfl) ?_
    refine wv rfl (r_lenC Try.underlying36 rfl (hM.seeR (.head _))) ?_
    refine wv rfl (r_lss rfl rfl) ?_
    refine wl_nil ?_
    refine sq_n ?_
    refine wc_cond rfl (fun hc100 => ?_) (fun hc100 => ?_)
    · replace hx := xif_t hc100 hx
      refine wc_skip ?_
      refine sq_n ?_
      refine wc_seq ?_
      refine wc_block ?_
      refine wc_seq ?_
      refine wc_draw [(0, 0), (1, 0), (2, 0), (3, 0), (4, 0), (5, 0), (6, 0), (7, 0), (8, 0), (9, 0)] Try_mixed (by kernel_rfl) rfl (by kernel_rfl) rfl ?_
      refine ov rfl (fun w' h' => r_move rfl) ?_
      refine ov rfl (fun w' h' => r_move rfl) ?_
      obtain ⟨hg105, hx⟩ := xg_some hx
      have hi104 : i88.toNat < a.length := by omega
      refine ov rfl (fun w' h' => r_ixC Try.underlying36 sz73 rfl rfl ((hM.call h').seeR (.head _)) hg105) ?_
      obtain ⟨s107, hM, hc108⟩ := hM.leaf (i := i88.toNat) (j := 2) (.head _) (fun _ => rfl) hi104 rfl
      refine ov rfl (fun w' h' => r_ldC (o := i88.toNat * 3) Try.underlying73 sz73 rfl (us := [(.int .i64 ((el a i88.toNat).client)), (.int .i64 ((el a i88.toNat).seq)), s107.v]) rfl ((hM.call h').seeR (.tail _ (.head _))) hi104 ⟨(Cs.get (i := i88.toNat) (j := 0) ((hM.call h').seeR (.tail _ (.head _))) (fun _ => rfl) hi104 rfl), (Cs.get (i := i88.toNat) (j := 1) ((hM.call h').seeR (.tail _ (.head _))) (fun _ => rfl) hi104 rfl), (hc108 w' h'), trivial⟩) ?_
      refine ov rfl (fun w' h' => r_move rfl) ?_
      refine ov rfl (fun w' h' => r_move rfl) ?_
      obtain ⟨hg113, hx⟩ := xg_some hx
      have hi112 : i88.toNat < b.length := by omega
      refine ov rfl (fun w' h' => r_ixC Try.underlying36 sz73 rfl rfl ((hM.call h').seeR (.tail _ (.tail _ (.head _)))) hg113) ?_
      obtain ⟨s115, hM, hc116⟩ := hM.leaf (i := i88.toNat) (j := 2) (.tail _ (.tail _ (.head _))) (fun _ => rfl) hi112 rfl
      refine ov rfl (fun w' h' => r_ldC (o := i88.toNat * 3) Try.underlying73 sz73 rfl (us := [(.int .i64 ((el b i88.toNat).client)), (.int .i64 ((el b i88.toNat).seq)), s115.v]) rfl ((hM.call h').seeR (.tail _ (.tail _ (.tail _ (.head _))))) hi112 ⟨(Cs.get (i := i88.toNat) (j := 0) ((hM.call h').seeR (.tail _ (.tail _ (.tail _ (.head _))))) (fun _ => rfl) hi112 rfl), (Cs.get (i := i88.toNat) (j := 1) ((hM.call h').seeR (.tail _ (.tail _ (.tail _ (.head _))))) (fun _ => rfl) hi112 rfl), (hc116 w' h'), trivial⟩) ?_
      obtain ⟨r117, h118, hx⟩ := bind_some' hx
      refine oc rfl rfl (fun w' h' => (hM.call h').callV fun X S oL hS hR hO => ct_laws_eqEntry _ X S (el a i88.toNat) s107 (el b i88.toNat) s115 hS (hR _ (.tail _ (.head _))) (hR _ (.head _)) oL h118) ?_
      refine ov rfl (fun w' h' => r_not rfl) ?_
      refine o_nil fun w121 hw122 => ?_
      have hM := hM.call hw122
      refine sq_n ?_
      refine wc_cond rfl (fun hc123 => ?_) (fun hc123 => ?_)
      · replace hx := xif_t hc123 hx
        refine wc_seq ?_
        refine wc_region ?_
        refine wv rfl (r_assign rfl) ?_
        refine wl_nil ?_
        refine sq_n ?_
        refine wc_ret ?_
        refine bk_ret ?_
        refine sq_ret ?_
        refine lp1_ret ?_
        obtain rfl := Option.some.inj hx
        obtain rfl := Option.some.inj hx95
        replace hx := hx87
        try dsimp only [Sum.elim_inl, Sum.elim_inr] at hx
        refine bk_ret ?_
        refine sq_ret ?_
        obtain rfl := Option.some.inj hx
        refine fin_ret [(.bool false)] ⟨rfl, trivial⟩ ?_
        replace hM := hM.t0
        have hM := hM.fewer rsN
        exact ⟨(), rfl, hM.gives⟩
      · replace hx := xif_f hc123 hx
        refine wc_skip ?_
        refine bk_n ?_
        refine sq_n ?_
        refine wc_region ?_
        refine wv rfl (r_move rfl) ?_
        obtain ⟨hg127, hx⟩ := xg_some hx
        refine wv rfl (r_add rfl rfl hg127) ?_
        refine wv rfl (r_assign rfl) ?_
        refine wl_nil ?_
        obtain rfl := Option.some.inj hx
        have hM := hM.fewer (rsC (.tail _ (.tail _ (.head _))) (rsC (.tail _ (.tail _ (.tail _ (.head _)))) rsN))
        replace hM : St ⟨w, X, S⟩ [] [rV s_a.v (cSl 3 fDEntry a), rV s_b.v (cSl 3 fDEntry b)] _ := hM
        exact lp_end (m93, i88 + 1) (Nat.lt_succ_self _) ⟨rfl, rfl, rfl, trivial⟩ ⟨hM, hx95⟩
    · replace hx := xif_f hc100 hx
      refine wc_exit ?_
      refine sq_exit ?_
      refine lp1_exit ?_
      obtain rfl := Option.some.inj hx
      obtain rfl := Option.some.inj hx95
      replace hx := hx87
      try dsimp only [Sum.elim_inl, Sum.elim_inr] at hx
      refine bk_here ?_
      refine sq_n ?_
      refine wc_seq ?_
      refine wc_region ?_
      refine wv rfl (r_assign rfl) ?_
      refine wl_nil ?_
      refine sq_n ?_
      refine wc_ret ?_
      obtain rfl := Option.some.inj hx
      refine fin_ret [(.bool true)] ⟨rfl, trivial⟩ ?_
      replace hM := hM.t0
      have hM := hM.fewer rsN
      exact ⟨(), rfl, hM.gives⟩

noncomputable def x_laws_eqAnswer (a : DAnswer) (b : DAnswer) : Option Bool :=
  bif !decide (a.code = b.code) then (some false) else (bif !decide (a.rev = b.rev) then (some false) else (Option.bind (x_laws_eqIntS a.text b.text) fun r26 => bif !r26 then (some false) else (Option.bind (x_laws_eqEntryS a.list b.list) fun r36 => bif !r36 then (some false) else (some true))))
theorem ct_laws_eqAnswer (w : World) (X S : Bs) (a : DAnswer) (s_a_2 : Sv) (s_a_3 : Sv) (b : DAnswer) (s_b_2 : Sv) (s_b_3 : Sv) (hS : ∀ b, S b → b < w.heap.size ∧ ¬ X b) (a_a_2 : (cSl 1 fI a.text).rd S w s_a_2.v) (a_a_3 : (cSl 3 fDEntry a.list).rd S w s_a_3.v) (a_b_2 : (cSl 1 fI b.text).rd S w s_b_2.v) (a_b_3 : (cSl 3 fDEntry b.list).rd S w s_b_3.v) (oL : Sep [] X w) {r : Bool} (hx : x_laws_eqAnswer a b = some r) :
    Ret Try.prog 30 [(.agg #[(.int .i64 a.code), (.int .i64 a.rev), s_a_2.v, s_a_3.v]), (.agg #[(.int .i64 b.code), (.int .i64 b.rev), s_b_2.v, s_b_3.v])] w (fun u w' => ∃ _ : Unit, u = (.bool r) ∧ Gives X S w [] [] w') := by
  unfold x_laws_eqAnswer at hx
  refine enter Try.func30 rfl Try.ntmps30 (by kernel_rfl) rfl ?_
  have hM := St.enter oL hS
  have hM := hM.addE (r := rV s_a_2.v (cSl 1 fI a.text)) a_a_2
  have hM := hM.addE (r := rV s_a_3.v (cSl 3 fDEntry a.list)) a_a_3
  have hM := hM.addE (r := rV s_b_2.v (cSl 1 fI b.text)) a_b_2
  have hM := hM.addE (r := rV s_b_3.v (cSl 3 fDEntry b.list)) a_b_3
  refine wc_seq ?_
  refine wc_region ?_
  refine w_ex rfl (x_box rfl hM ?_); intro b44 w43 hR45 hM
  replace hM : St ⟨w, X, S⟩ [oBox b44 #[(.int .i64 a.code), (.int .i64 a.rev), s_a_2.v, s_a_3.v] 38] [rV s_b_3.v (cSl 3 fDEntry b.list), rV s_b_2.v (cSl 1 fI b.text), rV s_a_3.v (cSl 3 fDEntry a.list), rV s_a_2.v (cSl 1 fI a.text)] _ := hM
  refine w_ex rfl (x_box rfl hM ?_); intro b48 w47 hR49 hM
  replace hM : St ⟨w, X, S⟩ [oBox b48 #[(.int .i64 b.code), (.int .i64 b.rev), s_b_2.v, s_b_3.v] 38, oBox b44 #[(.int .i64 a.code), (.int .i64 a.rev), s_a_2.v, s_a_3.v] 38] [rV s_b_3.v (cSl 3 fDEntry b.list), rV s_b_2.v (cSl 1 fI b.text), rV s_a_3.v (cSl 3 fDEntry a.list), rV s_a_2.v (cSl 1 fI a.text)] _ := hM
  refine wv rfl (r_assign rfl) ?_
  refine wl_nil ?_
  refine sq_n ?_
  refine wc_seq ?_
  refine wc_seq ?_
  refine wc_region ?_
  refine wv rfl (r_fld Try.underlying38 rfl rfl sz3 rfl) ?_
  refine wv rfl (r_ldB Try.underlying3 rfl rfl hM (.tail _ (.head _)) rfl) ?_
  refine wv rfl (r_fld Try.underlying38 rfl rfl sz3 rfl) ?_
  refine wv rfl (r_ldB Try.underlying3 rfl rfl hM (.head _) rfl) ?_
  refine wv rfl (r_neq rfl rfl) ?_
  refine wl_nil ?_
  refine sq_n ?_
  refine wc_cond rfl (fun hc57 => ?_) (fun hc57 => ?_)
  · replace hx := xif_t hc57 hx
    refine wc_seq ?_
    refine wc_region ?_
    refine wv rfl (r_assign rfl) ?_
    refine wl_nil ?_
    refine sq_n ?_
    refine wc_ret ?_
    refine sq_ret ?_
    obtain rfl := Option.some.inj hx
    refine fin_ret [(.bool false)] ⟨rfl, trivial⟩ ?_
    replace hM := hM.t0
    have hM := hM.fewer rsN
    exact ⟨(), rfl, hM.gives⟩
  · replace hx := xif_f hc57 hx
    refine wc_skip ?_
    refine sq_n ?_
    refine wc_seq ?_
    refine wc_seq ?_
    refine wc_region ?_
    refine wv rfl (r_fld Try.underlying38 rfl rfl sz3 rfl) ?_
    refine wv rfl (r_ldB Try.underlying3 rfl rfl hM (.tail _ (.head _)) rfl) ?_
    refine wv rfl (r_fld Try.underlying38 rfl rfl sz3 rfl) ?_
    refine wv rfl (r_ldB Try.underlying3 rfl rfl hM (.head _) rfl) ?_
    refine wv rfl (r_neq rfl rfl) ?_
    refine wl_nil ?_
    refine sq_n ?_
    refine wc_cond rfl (fun hc64 => ?_) (fun hc64 => ?_)
    · replace hx := xif_t hc64 hx
      refine wc_seq ?_
      refine wc_region ?_
      refine wv rfl (r_assign rfl) ?_
      refine wl_nil ?_
      refine sq_n ?_
      refine wc_ret ?_
      refine sq_ret ?_
      obtain rfl := Option.some.inj hx
      refine fin_ret [(.bool false)] ⟨rfl, trivial⟩ ?_
      replace hM := hM.t0
      have hM := hM.fewer rsN
      exact ⟨(), rfl, hM.gives⟩
    · replace hx := xif_f hc64 hx
      refine wc_skip ?_
      refine sq_n ?_
      refine wc_seq ?_
      refine wc_seq ?_
      refine wc_region ?_
      refine wv rfl (r_fld Try.underlying38 rfl rfl sz23 rfl) ?_
      refine wv rfl (r_ldB Try.underlying23 rfl rfl hM (.tail _ (.head _)) rfl) ?_
      refine wv rfl (r_fld Try.underlying38 rfl rfl sz23 rfl) ?_
      refine wv rfl (r_ldB Try.underlying23 rfl rfl hM (.head _) rfl) ?_
      obtain ⟨r70, h71, hx⟩ := bind_some' hx
      refine w_call rfl rfl (hM.callV fun X S oL hS hR hO => ct_laws_eqIntS _ X S a.text s_a_2 b.text s_b_2 hS (hR _ (.tail _ (.tail _ (.tail _ (.head _))))) (hR _ (.tail _ (.head _))) oL h71) ?_
      rintro _ w72 ⟨rfl, hR73⟩
      have hM := hM.call hR73
      refine wv rfl (r_not rfl) ?_
      refine wl_nil ?_
      refine sq_n ?_
      refine wc_cond rfl (fun hc75 => ?_) (fun hc75 => ?_)
      · replace hx := xif_t hc75 hx
        refine wc_seq ?_
        refine wc_region ?_
        refine wv rfl (r_assign rfl) ?_
        refine wl_nil ?_
        refine sq_n ?_
        refine wc_ret ?_
        refine sq_ret ?_
        obtain rfl := Option.some.inj hx
        refine fin_ret [(.bool false)] ⟨rfl, trivial⟩ ?_
        replace hM := hM.t0
        have hM := hM.fewer rsN
        exact ⟨(), rfl, hM.gives⟩
      · replace hx := xif_f hc75 hx
        refine wc_skip ?_
        refine sq_n ?_
        refine wc_seq ?_
        refine wc_seq ?_
        refine wc_region ?_
        refine wv rfl (r_fld Try.underlying38 rfl rfl sz36 rfl) ?_
        refine wv rfl (r_ldB Try.underlying36 rfl rfl hM (.tail _ (.head _)) rfl) ?_
        refine wv rfl (r_fld Try.underlying38 rfl rfl sz36 rfl) ?_
        refine wv rfl (r_ldB Try.underlying36 rfl rfl hM (.head _) rfl) ?_
        obtain ⟨r81, h82, hx⟩ := bind_some' hx
        refine w_call rfl rfl (hM.callV fun X S oL hS hR hO => ct_laws_eqEntryS _ X S a.list s_a_3 b.list s_b_3 hS (hR _ (.tail _ (.tail _ (.head _)))) (hR _ (.head _)) oL h82) ?_
        rintro _ w83 ⟨rfl, hR84⟩
        have hM := hM.call hR84
        refine wv rfl (r_not rfl) ?_
        refine wl_nil ?_
        refine sq_n ?_
        refine wc_cond rfl (fun hc86 => ?_) (fun hc86 => ?_)
        · replace hx := xif_t hc86 hx
          refine wc_seq ?_
          refine wc_region ?_
          refine wv rfl (r_assign rfl) ?_
          refine wl_nil ?_
          refine sq_n ?_
          refine wc_ret ?_
          refine sq_ret ?_
          obtain rfl := Option.some.inj hx
          refine fin_ret [(.bool false)] ⟨rfl, trivial⟩ ?_
          replace hM := hM.t0
          have hM := hM.fewer rsN
          exact ⟨(), rfl, hM.gives⟩
        · replace hx := xif_f hc86 hx
          refine wc_skip ?_
          refine sq_n ?_
          refine wc_seq ?_
          refine wc_region ?_
          refine wv rfl (r_assign rfl) ?_
          refine wl_nil ?_
          refine sq_n ?_
          refine wc_ret ?_
          obtain rfl := Option.some.inj hx
          refine fin_ret [(.bool true)] ⟨rfl, trivial⟩ ?_
          replace hM := hM.t0
          have hM := hM.fewer rsN
          exact ⟨(), rfl, hM.gives⟩

noncomputable def x_laws_eqTask (a : DTask) (b : DTask) : Option Bool :=
  Option.bind (x_laws_eqCall a.c b.c) fun r14 => bif !r14 then (some false) else (bif !decide (a.pc = b.pc) then (some false) else (bif !decide (a.inv = b.inv) then (some false) else (bif !decide (a.lin = b.lin) then (some false) else (bif !decide (a.res = b.res) then (some false) else (Option.bind (x_laws_eqAnswer a.a b.a) fun r48 => bif !r48 then (some false) else (some true))))))
theorem ct_laws_eqTask (w : World) (X S : Bs) (a : DTask) (s_a_5 : Sv) (s_a_6 : Sv) (s_a_13 : Sv) (s_a_14 : Sv) (b : DTask) (s_b_5 : Sv) (s_b_6 : Sv) (s_b_13 : Sv) (s_b_14 : Sv) (hS : ∀ b, S b → b < w.heap.size ∧ ¬ X b) (a_a_5 : (cSl 3 fDPart a.c.o).rd S w s_a_5.v) (a_a_6 : (cSl 1 fI a.c.text).rd S w s_a_6.v) (a_a_13 : (cSl 1 fI a.a.text).rd S w s_a_13.v) (a_a_14 : (cSl 3 fDEntry a.a.list).rd S w s_a_14.v) (a_b_5 : (cSl 3 fDPart b.c.o).rd S w s_b_5.v) (a_b_6 : (cSl 1 fI b.c.text).rd S w s_b_6.v) (a_b_13 : (cSl 1 fI b.a.text).rd S w s_b_13.v) (a_b_14 : (cSl 3 fDEntry b.a.list).rd S w s_b_14.v) (oL : Sep [] X w) {r : Bool} (hx : x_laws_eqTask a b = some r) :
    Ret Try.prog 9 [(.agg #[(.int .i64 a.c.kind), (.string a.c.doc), (.int .i64 a.c.client), (.int .i64 a.c.seq), (.int .i64 a.c.n), s_a_5.v, s_a_6.v, (.int .i64 a.pc), (.int .i64 a.inv), (.int .i64 a.lin), (.int .i64 a.res), (.int .i64 a.a.code), (.int .i64 a.a.rev), s_a_13.v, s_a_14.v]), (.agg #[(.int .i64 b.c.kind), (.string b.c.doc), (.int .i64 b.c.client), (.int .i64 b.c.seq), (.int .i64 b.c.n), s_b_5.v, s_b_6.v, (.int .i64 b.pc), (.int .i64 b.inv), (.int .i64 b.lin), (.int .i64 b.res), (.int .i64 b.a.code), (.int .i64 b.a.rev), s_b_13.v, s_b_14.v])] w (fun u w' => ∃ _ : Unit, u = (.bool r) ∧ Gives X S w [] [] w') := by
  unfold x_laws_eqTask at hx
  refine enter Try.func9 rfl Try.ntmps9 (by kernel_rfl) rfl ?_
  have hM := St.enter oL hS
  have hM := hM.addE (r := rV s_a_5.v (cSl 3 fDPart a.c.o)) a_a_5
  have hM := hM.addE (r := rV s_a_6.v (cSl 1 fI a.c.text)) a_a_6
  have hM := hM.addE (r := rV s_a_13.v (cSl 1 fI a.a.text)) a_a_13
  have hM := hM.addE (r := rV s_a_14.v (cSl 3 fDEntry a.a.list)) a_a_14
  have hM := hM.addE (r := rV s_b_5.v (cSl 3 fDPart b.c.o)) a_b_5
  have hM := hM.addE (r := rV s_b_6.v (cSl 1 fI b.c.text)) a_b_6
  have hM := hM.addE (r := rV s_b_13.v (cSl 1 fI b.a.text)) a_b_13
  have hM := hM.addE (r := rV s_b_14.v (cSl 3 fDEntry b.a.list)) a_b_14
  refine wc_seq ?_
  refine wc_region ?_
  refine w_ex rfl (x_box rfl hM ?_); intro b56 w55 hR57 hM
  replace hM : St ⟨w, X, S⟩ [oBox b56 #[(.int .i64 a.c.kind), (.string a.c.doc), (.int .i64 a.c.client), (.int .i64 a.c.seq), (.int .i64 a.c.n), s_a_5.v, s_a_6.v, (.int .i64 a.pc), (.int .i64 a.inv), (.int .i64 a.lin), (.int .i64 a.res), (.int .i64 a.a.code), (.int .i64 a.a.rev), s_a_13.v, s_a_14.v] 40] [rV s_b_14.v (cSl 3 fDEntry b.a.list), rV s_b_13.v (cSl 1 fI b.a.text), rV s_b_6.v (cSl 1 fI b.c.text), rV s_b_5.v (cSl 3 fDPart b.c.o), rV s_a_14.v (cSl 3 fDEntry a.a.list), rV s_a_13.v (cSl 1 fI a.a.text), rV s_a_6.v (cSl 1 fI a.c.text), rV s_a_5.v (cSl 3 fDPart a.c.o)] _ := hM
  refine w_ex rfl (x_box rfl hM ?_); intro b60 w59 hR61 hM
  replace hM : St ⟨w, X, S⟩ [oBox b60 #[(.int .i64 b.c.kind), (.string b.c.doc), (.int .i64 b.c.client), (.int .i64 b.c.seq), (.int .i64 b.c.n), s_b_5.v, s_b_6.v, (.int .i64 b.pc), (.int .i64 b.inv), (.int .i64 b.lin), (.int .i64 b.res), (.int .i64 b.a.code), (.int .i64 b.a.rev), s_b_13.v, s_b_14.v] 40, oBox b56 #[(.int .i64 a.c.kind), (.string a.c.doc), (.int .i64 a.c.client), (.int .i64 a.c.seq), (.int .i64 a.c.n), s_a_5.v, s_a_6.v, (.int .i64 a.pc), (.int .i64 a.inv), (.int .i64 a.lin), (.int .i64 a.res), (.int .i64 a.a.code), (.int .i64 a.a.rev), s_a_13.v, s_a_14.v] 40] [rV s_b_14.v (cSl 3 fDEntry b.a.list), rV s_b_13.v (cSl 1 fI b.a.text), rV s_b_6.v (cSl 1 fI b.c.text), rV s_b_5.v (cSl 3 fDPart b.c.o), rV s_a_14.v (cSl 3 fDEntry a.a.list), rV s_a_13.v (cSl 1 fI a.a.text), rV s_a_6.v (cSl 1 fI a.c.text), rV s_a_5.v (cSl 3 fDPart a.c.o)] _ := hM
  refine wv rfl (r_assign rfl) ?_
  refine wl_nil ?_
  refine sq_n ?_
  refine wc_seq ?_
  refine wc_seq ?_
  refine wc_region ?_
  refine wv rfl (r_fld Try.underlying40 rfl rfl sz35 rfl) ?_
  refine wv rfl (r_ldBS Try.underlying35 sz35 rfl (us := [(.int .i64 a.c.kind), (.string a.c.doc), (.int .i64 a.c.client), (.int .i64 a.c.seq), (.int .i64 a.c.n), s_a_5.v, s_a_6.v]) rfl hM (.tail _ (.head _)) rfl) ?_
  refine wv rfl (r_fld Try.underlying40 rfl rfl sz35 rfl) ?_
  refine wv rfl (r_ldBS Try.underlying35 sz35 rfl (us := [(.int .i64 b.c.kind), (.string b.c.doc), (.int .i64 b.c.client), (.int .i64 b.c.seq), (.int .i64 b.c.n), s_b_5.v, s_b_6.v]) rfl hM (.head _) rfl) ?_
  obtain ⟨r68, h69, hx⟩ := bind_some' hx
  refine w_call rfl rfl (hM.callV fun X S oL hS hR hO => ct_laws_eqCall _ X S a.c s_a_5 s_a_6 b.c s_b_5 s_b_6 hS (hR _ (.tail _ (.tail _ (.tail _ (.tail _ (.tail _ (.tail _ (.tail _ (.head _))))))))) (hR _ (.tail _ (.tail _ (.tail _ (.tail _ (.tail _ (.tail _ (.head _)))))))) (hR _ (.tail _ (.tail _ (.tail _ (.head _))))) (hR _ (.tail _ (.tail _ (.head _)))) oL h69) ?_
  rintro _ w70 ⟨rfl, hR71⟩
  have hM := hM.call hR71
  refine wv rfl (r_not rfl) ?_
  refine wl_nil ?_
  refine sq_n ?_
  refine wc_cond rfl (fun hc73 => ?_) (fun hc73 => ?_)
  · replace hx := xif_t hc73 hx
    refine wc_seq ?_
    refine wc_region ?_
    refine wv rfl (r_assign rfl) ?_
    refine wl_nil ?_
    refine sq_n ?_
    refine wc_ret ?_
    refine sq_ret ?_
    obtain rfl := Option.some.inj hx
    refine fin_ret [(.bool false)] ⟨rfl, trivial⟩ ?_
    replace hM := hM.t0
    have hM := hM.fewer rsN
    exact ⟨(), rfl, hM.gives⟩
  · replace hx := xif_f hc73 hx
    refine wc_skip ?_
    refine sq_n ?_
    refine wc_seq ?_
    refine wc_seq ?_
    refine wc_region ?_
    refine wv rfl (r_fld Try.underlying40 rfl rfl sz3 rfl) ?_
    refine wv rfl (r_ldB Try.underlying3 rfl rfl hM (.tail _ (.head _)) rfl) ?_
    refine wv rfl (r_fld Try.underlying40 rfl rfl sz3 rfl) ?_
    refine wv rfl (r_ldB Try.underlying3 rfl rfl hM (.head _) rfl) ?_
    refine wv rfl (r_neq rfl rfl) ?_
    refine wl_nil ?_
    refine sq_n ?_
    refine wc_cond rfl (fun hc80 => ?_) (fun hc80 => ?_)
    · replace hx := xif_t hc80 hx
      refine wc_seq ?_
      refine wc_region ?_
      refine wv rfl (r_assign rfl) ?_
      refine wl_nil ?_
      refine sq_n ?_
      refine wc_ret ?_
      refine sq_ret ?_
      obtain rfl := Option.some.inj hx
      refine fin_ret [(.bool false)] ⟨rfl, trivial⟩ ?_
      replace hM := hM.t0
      have hM := hM.fewer rsN
      exact ⟨(), rfl, hM.gives⟩
    · replace hx := xif_f hc80 hx
      refine wc_skip ?_
      refine sq_n ?_
      refine wc_seq ?_
      refine wc_seq ?_
      refine wc_region ?_
      refine wv rfl (r_fld Try.underlying40 rfl rfl sz3 rfl) ?_
      refine wv rfl (r_ldB Try.underlying3 rfl rfl hM (.tail _ (.head _)) rfl) ?_
      refine wv rfl (r_fld Try.underlying40 rfl rfl sz3 rfl) ?_
      refine wv rfl (r_ldB Try.underlying3 rfl rfl hM (.head _) rfl) ?_
      refine wv rfl (r_neq rfl rfl) ?_
      refine wl_nil ?_
      refine sq_n ?_
      refine wc_cond rfl (fun hc87 => ?_) (fun hc87 => ?_)
      · replace hx := xif_t hc87 hx
        refine wc_seq ?_
        refine wc_region ?_
        refine wv rfl (r_assign rfl) ?_
        refine wl_nil ?_
        refine sq_n ?_
        refine wc_ret ?_
        refine sq_ret ?_
        obtain rfl := Option.some.inj hx
        refine fin_ret [(.bool false)] ⟨rfl, trivial⟩ ?_
        replace hM := hM.t0
        have hM := hM.fewer rsN
        exact ⟨(), rfl, hM.gives⟩
      · replace hx := xif_f hc87 hx
        refine wc_skip ?_
        refine sq_n ?_
        refine wc_seq ?_
        refine wc_seq ?_
        refine wc_region ?_
        refine wv rfl (r_fld Try.underlying40 rfl rfl sz3 rfl) ?_
        refine wv rfl (r_ldB Try.underlying3 rfl rfl hM (.tail _ (.head _)) rfl) ?_
        refine wv rfl (r_fld Try.underlying40 rfl rfl sz3 rfl) ?_
        refine wv rfl (r_ldB Try.underlying3 rfl rfl hM (.head _) rfl) ?_
        refine wv rfl (r_neq rfl rfl) ?_
        refine wl_nil ?_
        refine sq_n ?_
        refine wc_cond rfl (fun hc94 => ?_) (fun hc94 => ?_)
        · replace hx := xif_t hc94 hx
          refine wc_seq ?_
          refine wc_region ?_
          refine wv rfl (r_assign rfl) ?_
          refine wl_nil ?_
          refine sq_n ?_
          refine wc_ret ?_
          refine sq_ret ?_
          obtain rfl := Option.some.inj hx
          refine fin_ret [(.bool false)] ⟨rfl, trivial⟩ ?_
          replace hM := hM.t0
          have hM := hM.fewer rsN
          exact ⟨(), rfl, hM.gives⟩
        · replace hx := xif_f hc94 hx
          refine wc_skip ?_
          refine sq_n ?_
          refine wc_seq ?_
          refine wc_seq ?_
          refine wc_region ?_
          refine wv rfl (r_fld Try.underlying40 rfl rfl sz3 rfl) ?_
          refine wv rfl (r_ldB Try.underlying3 rfl rfl hM (.tail _ (.head _)) rfl) ?_
          refine wv rfl (r_fld Try.underlying40 rfl rfl sz3 rfl) ?_
          refine wv rfl (r_ldB Try.underlying3 rfl rfl hM (.head _) rfl) ?_
          refine wv rfl (r_neq rfl rfl) ?_
          refine wl_nil ?_
          refine sq_n ?_
          refine wc_cond rfl (fun hc101 => ?_) (fun hc101 => ?_)
          · replace hx := xif_t hc101 hx
            refine wc_seq ?_
            refine wc_region ?_
            refine wv rfl (r_assign rfl) ?_
            refine wl_nil ?_
            refine sq_n ?_
            refine wc_ret ?_
            refine sq_ret ?_
            obtain rfl := Option.some.inj hx
            refine fin_ret [(.bool false)] ⟨rfl, trivial⟩ ?_
            replace hM := hM.t0
            have hM := hM.fewer rsN
            exact ⟨(), rfl, hM.gives⟩
          · replace hx := xif_f hc101 hx
            refine wc_skip ?_
            refine sq_n ?_
            refine wc_seq ?_
            refine wc_seq ?_
            refine wc_region ?_
            refine wv rfl (r_fld Try.underlying40 rfl rfl sz38 rfl) ?_
            refine wv rfl (r_ldBS Try.underlying38 sz38 rfl (us := [(.int .i64 a.a.code), (.int .i64 a.a.rev), s_a_13.v, s_a_14.v]) rfl hM (.tail _ (.head _)) rfl) ?_
            refine wv rfl (r_fld Try.underlying40 rfl rfl sz38 rfl) ?_
            refine wv rfl (r_ldBS Try.underlying38 sz38 rfl (us := [(.int .i64 b.a.code), (.int .i64 b.a.rev), s_b_13.v, s_b_14.v]) rfl hM (.head _) rfl) ?_
            obtain ⟨r107, h108, hx⟩ := bind_some' hx
            refine w_call rfl rfl (hM.callV fun X S oL hS hR hO => ct_laws_eqAnswer _ X S a.a s_a_13 s_a_14 b.a s_b_13 s_b_14 hS (hR _ (.tail _ (.tail _ (.tail _ (.tail _ (.tail _ (.head _))))))) (hR _ (.tail _ (.tail _ (.tail _ (.tail _ (.head _)))))) (hR _ (.tail _ (.head _))) (hR _ (.head _)) oL h108) ?_
            rintro _ w109 ⟨rfl, hR110⟩
            have hM := hM.call hR110
            refine wv rfl (r_not rfl) ?_
            refine wl_nil ?_
            refine sq_n ?_
            refine wc_cond rfl (fun hc112 => ?_) (fun hc112 => ?_)
            · replace hx := xif_t hc112 hx
              refine wc_seq ?_
              refine wc_region ?_
              refine wv rfl (r_assign rfl) ?_
              refine wl_nil ?_
              refine sq_n ?_
              refine wc_ret ?_
              refine sq_ret ?_
              obtain rfl := Option.some.inj hx
              refine fin_ret [(.bool false)] ⟨rfl, trivial⟩ ?_
              replace hM := hM.t0
              have hM := hM.fewer rsN
              exact ⟨(), rfl, hM.gives⟩
            · replace hx := xif_f hc112 hx
              refine wc_skip ?_
              refine sq_n ?_
              refine wc_seq ?_
              refine wc_region ?_
              refine wv rfl (r_assign rfl) ?_
              refine wl_nil ?_
              refine sq_n ?_
              refine wc_ret ?_
              obtain rfl := Option.some.inj hx
              refine fin_ret [(.bool true)] ⟨rfl, trivial⟩ ?_
              replace hM := hM.t0
              have hM := hM.fewer rsN
              exact ⟨(), rfl, hM.gives⟩

noncomputable def x_laws_FnExactTaskText (aT : DTask) : Option Bool :=
  Option.bind (x_laws_szTask aT 1048576) fun r9 => bif decide (r9 < 0) then (some true) else (Option.bind (x_laws_toTask aT) fun r18 => Option.bind (x_spec_TaskText r18) fun r29 => Option.bind (x_laws_toTask aT) fun r35 => Option.bind (x_impl_TaskText r35) fun r53 => bif !decide (r53 = r29) then (some false) else (Option.bind (x_laws_toTask aT) fun r64 => Option.bind (x_laws_eqTask r35 r64) fun r78 => bif !r78 then (some false) else (some true)))
theorem ct_laws_FnExactTaskText (w : World) (X S : Bs) (aT : DTask) (s_aT_5 : Sv) (s_aT_6 : Sv) (s_aT_13 : Sv) (s_aT_14 : Sv) (hS : ∀ b, S b → b < w.heap.size ∧ ¬ X b) (a_aT_5 : (cSl 3 fDPart aT.c.o).rd S w s_aT_5.v) (a_aT_6 : (cSl 1 fI aT.c.text).rd S w s_aT_6.v) (a_aT_13 : (cSl 1 fI aT.a.text).rd S w s_aT_13.v) (a_aT_14 : (cSl 3 fDEntry aT.a.list).rd S w s_aT_14.v) (oL : Sep [] X w) {r : Bool} (hx : x_laws_FnExactTaskText aT = some r) :
    Ret Try.prog 3 [(.agg #[(.int .i64 aT.c.kind), (.string aT.c.doc), (.int .i64 aT.c.client), (.int .i64 aT.c.seq), (.int .i64 aT.c.n), s_aT_5.v, s_aT_6.v, (.int .i64 aT.pc), (.int .i64 aT.inv), (.int .i64 aT.lin), (.int .i64 aT.res), (.int .i64 aT.a.code), (.int .i64 aT.a.rev), s_aT_13.v, s_aT_14.v])] w (fun u w' => ∃ _ : Unit, u = (.bool r) ∧ Gives X S w [] [] w') := by
  unfold x_laws_FnExactTaskText at hx
  refine enter Try.func3 rfl Try.ntmps3 (by kernel_rfl) rfl ?_
  have hM := St.enter oL hS
  have hM := hM.addE (r := rV s_aT_5.v (cSl 3 fDPart aT.c.o)) a_aT_5
  have hM := hM.addE (r := rV s_aT_6.v (cSl 1 fI aT.c.text)) a_aT_6
  have hM := hM.addE (r := rV s_aT_13.v (cSl 1 fI aT.a.text)) a_aT_13
  have hM := hM.addE (r := rV s_aT_14.v (cSl 3 fDEntry aT.a.list)) a_aT_14
  refine wc_seq ?_
  refine wc_region ?_
  refine w_ex rfl (x_box rfl hM ?_); intro b87 w86 hR88 hM
  replace hM : St ⟨w, X, S⟩ [oBox b87 #[(.int .i64 aT.c.kind), (.string aT.c.doc), (.int .i64 aT.c.client), (.int .i64 aT.c.seq), (.int .i64 aT.c.n), s_aT_5.v, s_aT_6.v, (.int .i64 aT.pc), (.int .i64 aT.inv), (.int .i64 aT.lin), (.int .i64 aT.res), (.int .i64 aT.a.code), (.int .i64 aT.a.rev), s_aT_13.v, s_aT_14.v] 30] [rV s_aT_14.v (cSl 3 fDEntry aT.a.list), rV s_aT_13.v (cSl 1 fI aT.a.text), rV s_aT_6.v (cSl 1 fI aT.c.text), rV s_aT_5.v (cSl 3 fDPart aT.c.o)] _ := hM
  refine wv rfl (r_assign rfl) ?_
  refine wl_nil ?_
  refine sq_n ?_
  refine wc_seq ?_
  refine wc_region ?_
  refine wv rfl (r_assign rfl) ?_
  refine wl_nil ?_
  refine sq_n ?_
  refine wc_seq ?_
  refine wc_region ?_
  refine wv rfl (r_ldBS Try.underlying30 sz30 rfl (us := [(.int .i64 aT.c.kind), (.string aT.c.doc), (.int .i64 aT.c.client), (.int .i64 aT.c.seq), (.int .i64 aT.c.n), s_aT_5.v, s_aT_6.v, (.int .i64 aT.pc), (.int .i64 aT.inv), (.int .i64 aT.lin), (.int .i64 aT.res), (.int .i64 aT.a.code), (.int .i64 aT.a.rev), s_aT_13.v, s_aT_14.v]) rfl hM (.head _) rfl) ?_
  refine wv rfl (r_move rfl) ?_
  obtain ⟨r94, h95, hx⟩ := bind_some' hx
  refine w_call rfl rfl (hM.callV fun X S oL hS hR hO => ct_laws_szTask _ X S aT s_aT_5 s_aT_6 s_aT_13 s_aT_14 (1048576 : Int) hS (hR _ (.tail _ (.tail _ (.tail _ (.head _))))) (hR _ (.tail _ (.tail _ (.head _)))) (hR _ (.tail _ (.head _))) (hR _ (.head _)) oL h95) ?_
  rintro _ w96 ⟨rfl, hR97⟩
  have hM := hM.call hR97
  refine wv rfl (r_assign rfl) ?_
  refine wl_nil ?_
  refine sq_n ?_
  refine wc_seq ?_
  refine wc_seq ?_
  refine wc_region ?_
  refine wv rfl (r_move rfl) ?_
  refine wv rfl (r_lss rfl rfl) ?_
  refine wl_nil ?_
  refine sq_n ?_
  refine wc_cond rfl (fun hc101 => ?_) (fun hc101 => ?_)
  · replace hx := xif_t hc101 hx
    refine wc_seq ?_
    refine wc_region ?_
    refine wv rfl (r_assign rfl) ?_
    refine wl_nil ?_
    refine sq_n ?_
    refine wc_ret ?_
    refine sq_ret ?_
    obtain rfl := Option.some.inj hx
    refine fin_ret [(.bool true)] ⟨rfl, trivial⟩ ?_
    replace hM := hM.t0
    have hM := hM.fewer rsN
    exact ⟨(), rfl, hM.gives⟩
  · replace hx := xif_f hc101 hx
    refine wc_skip ?_
    refine sq_n ?_
    refine wc_seq ?_
    refine wc_region ?_
    refine wv rfl (r_ldBS Try.underlying30 sz30 rfl (us := [(.int .i64 aT.c.kind), (.string aT.c.doc), (.int .i64 aT.c.client), (.int .i64 aT.c.seq), (.int .i64 aT.c.n), s_aT_5.v, s_aT_6.v, (.int .i64 aT.pc), (.int .i64 aT.inv), (.int .i64 aT.lin), (.int .i64 aT.res), (.int .i64 aT.a.code), (.int .i64 aT.a.rev), s_aT_13.v, s_aT_14.v]) rfl hM (.head _) rfl) ?_
    obtain ⟨r104, h105, hx⟩ := bind_some' hx
    refine w_call rfl rfl (hM.callO (l := []) fun X S oL hS hR hO => ct_laws_toTask _ X S aT s_aT_5 s_aT_6 s_aT_13 s_aT_14 hS (hR _ (.tail _ (.tail _ (.tail _ (.head _))))) (hR _ (.tail _ (.tail _ (.head _)))) (hR _ (.tail _ (.head _))) (hR _ (.head _)) oL h105) ?_
    rintro _ w106 ⟨⟨s107, s108, s109, s110⟩, rfl, hM⟩
    replace hM : St ⟨w, X, S⟩ [oC (cSl 3 fDPart r104.c.o) s107.v, oC (cSl 1 fI r104.c.text) s108.v, oC (cSl 1 fI r104.a.text) s109.v, oC (cSl 3 fDEntry r104.a.list) s110.v, oBox b87 #[(.int .i64 aT.c.kind), (.string aT.c.doc), (.int .i64 aT.c.client), (.int .i64 aT.c.seq), (.int .i64 aT.c.n), s_aT_5.v, s_aT_6.v, (.int .i64 aT.pc), (.int .i64 aT.inv), (.int .i64 aT.lin), (.int .i64 aT.res), (.int .i64 aT.a.code), (.int .i64 aT.a.rev), s_aT_13.v, s_aT_14.v] 30] [rV s_aT_14.v (cSl 3 fDEntry aT.a.list), rV s_aT_13.v (cSl 1 fI aT.a.text), rV s_aT_6.v (cSl 1 fI aT.c.text), rV s_aT_5.v (cSl 3 fDPart aT.c.o)] _ := hM
    obtain ⟨r115, h116, hx⟩ := bind_some' hx
    refine w_call rfl rfl (hM.callV fun X S oL hS hR hO => ct_spec_TaskText _ X S r104 s107 s108 s109 s110 hS (seeA hO (.head _)) (seeA hO (.tail _ (.head _))) (seeA hO (.tail _ (.tail _ (.head _)))) (seeA hO (.tail _ (.tail _ (.tail _ (.head _))))) oL h116) ?_
    rintro _ w117 ⟨rfl, hR118⟩
    have hM := hM.call hR118
    refine wv rfl (r_assign rfl) ?_
    refine wl_nil ?_
    refine sq_n ?_
    refine wc_seq ?_
    refine wc_region ?_
    refine wv rfl (r_ldBS Try.underlying30 sz30 rfl (us := [(.int .i64 aT.c.kind), (.string aT.c.doc), (.int .i64 aT.c.client), (.int .i64 aT.c.seq), (.int .i64 aT.c.n), s_aT_5.v, s_aT_6.v, (.int .i64 aT.pc), (.int .i64 aT.inv), (.int .i64 aT.lin), (.int .i64 aT.res), (.int .i64 aT.a.code), (.int .i64 aT.a.rev), s_aT_13.v, s_aT_14.v]) rfl hM (.tail _ (.tail _ (.tail _ (.tail _ (.head _))))) rfl) ?_
    obtain ⟨r121, h122, hx⟩ := bind_some' hx
    refine w_call rfl rfl (hM.callO (l := []) fun X S oL hS hR hO => ct_laws_toTask _ X S aT s_aT_5 s_aT_6 s_aT_13 s_aT_14 hS (hR _ (.tail _ (.tail _ (.tail _ (.head _))))) (hR _ (.tail _ (.tail _ (.head _)))) (hR _ (.tail _ (.head _))) (hR _ (.head _)) oL h122) ?_
    rintro _ w123 ⟨⟨s124, s125, s126, s127⟩, rfl, hM⟩
    replace hM : St ⟨w, X, S⟩ [oC (cSl 3 fDPart r121.c.o) s124.v, oC (cSl 1 fI r121.c.text) s125.v, oC (cSl 1 fI r121.a.text) s126.v, oC (cSl 3 fDEntry r121.a.list) s127.v, oC (cSl 3 fDPart r104.c.o) s107.v, oC (cSl 1 fI r104.c.text) s108.v, oC (cSl 1 fI r104.a.text) s109.v, oC (cSl 3 fDEntry r104.a.list) s110.v, oBox b87 #[(.int .i64 aT.c.kind), (.string aT.c.doc), (.int .i64 aT.c.client), (.int .i64 aT.c.seq), (.int .i64 aT.c.n), s_aT_5.v, s_aT_6.v, (.int .i64 aT.pc), (.int .i64 aT.inv), (.int .i64 aT.lin), (.int .i64 aT.res), (.int .i64 aT.a.code), (.int .i64 aT.a.rev), s_aT_13.v, s_aT_14.v] 30] [rV s_aT_14.v (cSl 3 fDEntry aT.a.list), rV s_aT_13.v (cSl 1 fI aT.a.text), rV s_aT_6.v (cSl 1 fI aT.c.text), rV s_aT_5.v (cSl 3 fDPart aT.c.o)] _ := hM
    refine w_ex rfl (x_alloc sz40 hM ?_); intro b133 w132 hR134 hM
    replace hM : St ⟨w, X, S⟩ [oBox b133 #[(.int .i64 0), (.string ByteArray.empty), (.int .i64 0), (.int .i64 0), (.int .i64 0), (.slice none 0 0), (.slice none 0 0), (.int .i64 0), (.int .i64 0), (.int .i64 0), (.int .i64 0), (.int .i64 0), (.int .i64 0), (.slice none 0 0), (.slice none 0 0)] 40, oC (cSl 3 fDPart r121.c.o) s124.v, oC (cSl 1 fI r121.c.text) s125.v, oC (cSl 1 fI r121.a.text) s126.v, oC (cSl 3 fDEntry r121.a.list) s127.v, oC (cSl 3 fDPart r104.c.o) s107.v, oC (cSl 1 fI r104.c.text) s108.v, oC (cSl 1 fI r104.a.text) s109.v, oC (cSl 3 fDEntry r104.a.list) s110.v, oBox b87 #[(.int .i64 aT.c.kind), (.string aT.c.doc), (.int .i64 aT.c.client), (.int .i64 aT.c.seq), (.int .i64 aT.c.n), s_aT_5.v, s_aT_6.v, (.int .i64 aT.pc), (.int .i64 aT.inv), (.int .i64 aT.lin), (.int .i64 aT.res), (.int .i64 aT.a.code), (.int .i64 aT.a.rev), s_aT_13.v, s_aT_14.v] 30] [rV s_aT_14.v (cSl 3 fDEntry aT.a.list), rV s_aT_13.v (cSl 1 fI aT.a.text), rV s_aT_6.v (cSl 1 fI aT.c.text), rV s_aT_5.v (cSl 3 fDPart aT.c.o)] _ := hM
    refine w_exu (x_stB #[(.int .i64 r121.c.kind), (.string r121.c.doc), (.int .i64 r121.c.client), (.int .i64 r121.c.seq), (.int .i64 r121.c.n), s124.v, s125.v, (.int .i64 r121.pc), (.int .i64 r121.inv), (.int .i64 r121.lin), (.int .i64 r121.res), (.int .i64 r121.a.code), (.int .i64 r121.a.rev), s126.v, s127.v] sz40 rfl rfl rfl rfl rfl rfl hM ?_); intro w136 hM
    refine wl_nil ?_
    refine sq_n ?_
    refine wc_seq ?_
    refine wc_region ?_
    refine wv rfl (r_ldBS Try.underlying40 sz40 rfl (us := [(.int .i64 r121.c.kind), (.string r121.c.doc), (.int .i64 r121.c.client), (.int .i64 r121.c.seq), (.int .i64 r121.c.n), s124.v, s125.v, (.int .i64 r121.pc), (.int .i64 r121.inv), (.int .i64 r121.lin), (.int .i64 r121.res), (.int .i64 r121.a.code), (.int .i64 r121.a.rev), s126.v, s127.v]) rfl hM (.head _) rfl) ?_
    obtain ⟨r139, h140, hx⟩ := bind_some' hx
    refine w_call rfl rfl (hM.callV fun X S oL hS hR hO => ct_impl_TaskText _ X S r121 s124 s125 s126 s127 hS (seeA hO (.tail _ (.head _))) (seeA hO (.tail _ (.tail _ (.head _)))) (seeA hO (.tail _ (.tail _ (.tail _ (.head _))))) (seeA hO (.tail _ (.tail _ (.tail _ (.tail _ (.head _)))))) oL h140) ?_
    rintro _ w141 ⟨rfl, hR142⟩
    have hM := hM.call hR142
    refine wv rfl (r_assign rfl) ?_
    refine wl_nil ?_
    refine sq_n ?_
    refine wc_seq ?_
    refine wc_seq ?_
    refine wc_region ?_
    refine wv rfl (r_move rfl) ?_
    refine wv rfl (r_move rfl) ?_
    refine wv rfl (r_neqs rfl rfl) ?_
    refine wl_nil ?_
    refine sq_n ?_
    refine wc_cond rfl (fun hc147 => ?_) (fun hc147 => ?_)
    · replace hx := xif_t hc147 hx
      refine wc_seq ?_
      refine wc_region ?_
      refine wv rfl (r_assign rfl) ?_
      refine wl_nil ?_
      refine sq_n ?_
      refine wc_ret ?_
      refine sq_ret ?_
      obtain rfl := Option.some.inj hx
      refine fin_ret [(.bool false)] ⟨rfl, trivial⟩ ?_
      replace hM := hM.t0
      have hM := hM.fewer rsN
      exact ⟨(), rfl, hM.gives⟩
    · replace hx := xif_f hc147 hx
      refine wc_skip ?_
      refine sq_n ?_
      refine wc_seq ?_
      refine wc_seq ?_
      refine wc_draw [(0, 0), (1, 0), (2, 1), (3, 0), (4, 0)] Try_mixed (by kernel_rfl) rfl (by kernel_rfl) rfl ?_
      refine ov rfl (fun w' h' => r_ldBS Try.underlying40 sz40 rfl (us := [(.int .i64 r121.c.kind), (.string r121.c.doc), (.int .i64 r121.c.client), (.int .i64 r121.c.seq), (.int .i64 r121.c.n), s124.v, s125.v, (.int .i64 r121.pc), (.int .i64 r121.inv), (.int .i64 r121.lin), (.int .i64 r121.res), (.int .i64 r121.a.code), (.int .i64 r121.a.rev), s126.v, s127.v]) rfl (hM.call h') (.head _) rfl) ?_
      refine ov rfl (fun w' h' => r_ldBS Try.underlying30 sz30 rfl (us := [(.int .i64 aT.c.kind), (.string aT.c.doc), (.int .i64 aT.c.client), (.int .i64 aT.c.seq), (.int .i64 aT.c.n), s_aT_5.v, s_aT_6.v, (.int .i64 aT.pc), (.int .i64 aT.inv), (.int .i64 aT.lin), (.int .i64 aT.res), (.int .i64 aT.a.code), (.int .i64 aT.a.rev), s_aT_13.v, s_aT_14.v]) rfl (hM.call h') (.tail _ (.tail _ (.tail _ (.tail _ (.tail _ (.tail _ (.tail _ (.tail _ (.tail _ (.head _)))))))))) rfl) ?_
      obtain ⟨r151, h152, hx⟩ := bind_some' hx
      refine o_forced rfl rfl (fun w' h' => (hM.call h').callF fun X S oL hS hR hO => ct_laws_toTask _ X S aT s_aT_5 s_aT_6 s_aT_13 s_aT_14 hS (hR _ (.tail _ (.tail _ (.tail _ (.head _))))) (hR _ (.tail _ (.tail _ (.head _)))) (hR _ (.tail _ (.head _))) (hR _ (.head _)) oL h152) ?_
      rintro w158 h159 _ w153 ⟨hR160, ⟨s154, s155, s156, s157⟩, rfl, hM⟩
      refine ⟨hR160, ?_⟩
      replace hM : St ⟨w, X, S⟩ [oC (cSl 3 fDPart r151.c.o) s154.v, oC (cSl 1 fI r151.c.text) s155.v, oC (cSl 1 fI r151.a.text) s156.v, oC (cSl 3 fDEntry r151.a.list) s157.v, oBox b133 #[(.int .i64 r121.c.kind), (.string r121.c.doc), (.int .i64 r121.c.client), (.int .i64 r121.c.seq), (.int .i64 r121.c.n), s124.v, s125.v, (.int .i64 r121.pc), (.int .i64 r121.inv), (.int .i64 r121.lin), (.int .i64 r121.res), (.int .i64 r121.a.code), (.int .i64 r121.a.rev), s126.v, s127.v] 40, oC (cSl 3 fDPart r121.c.o) s124.v, oC (cSl 1 fI r121.c.text) s125.v, oC (cSl 1 fI r121.a.text) s126.v, oC (cSl 3 fDEntry r121.a.list) s127.v, oC (cSl 3 fDPart r104.c.o) s107.v, oC (cSl 1 fI r104.c.text) s108.v, oC (cSl 1 fI r104.a.text) s109.v, oC (cSl 3 fDEntry r104.a.list) s110.v, oBox b87 #[(.int .i64 aT.c.kind), (.string aT.c.doc), (.int .i64 aT.c.client), (.int .i64 aT.c.seq), (.int .i64 aT.c.n), s_aT_5.v, s_aT_6.v, (.int .i64 aT.pc), (.int .i64 aT.inv), (.int .i64 aT.lin), (.int .i64 aT.res), (.int .i64 aT.a.code), (.int .i64 aT.a.rev), s_aT_13.v, s_aT_14.v] 30] [rV s_aT_14.v (cSl 3 fDEntry aT.a.list), rV s_aT_13.v (cSl 1 fI aT.a.text), rV s_aT_6.v (cSl 1 fI aT.c.text), rV s_aT_5.v (cSl 3 fDPart aT.c.o)] _ := hM
      obtain ⟨r165, h166, hx⟩ := bind_some' hx
      refine oc rfl rfl (fun w' h' => (hM.call h').callV fun X S oL hS hR hO => ct_laws_eqTask _ X S r121 s124 s125 s126 s127 r151 s154 s155 s156 s157 hS (seeA hO (.tail _ (.tail _ (.tail _ (.tail _ (.tail _ (.head _))))))) (seeA hO (.tail _ (.tail _ (.tail _ (.tail _ (.tail _ (.tail _ (.head _)))))))) (seeA hO (.tail _ (.tail _ (.tail _ (.tail _ (.tail _ (.tail _ (.tail _ (.head _))))))))) (seeA hO (.tail _ (.tail _ (.tail _ (.tail _ (.tail _ (.tail _ (.tail _ (.tail _ (.head _)))))))))) (seeA hO (.head _)) (seeA hO (.tail _ (.head _))) (seeA hO (.tail _ (.tail _ (.head _)))) (seeA hO (.tail _ (.tail _ (.tail _ (.head _))))) oL h166) ?_
      refine ov rfl (fun w' h' => r_not rfl) ?_
      refine o_nil fun w169 hw170 => ?_
      have hM := hM.call hw170
      refine sq_n ?_
      refine wc_cond rfl (fun hc171 => ?_) (fun hc171 => ?_)
      · replace hx := xif_t hc171 hx
        refine wc_seq ?_
        refine wc_region ?_
        refine wv rfl (r_assign rfl) ?_
        refine wl_nil ?_
        refine sq_n ?_
        refine wc_ret ?_
        refine sq_ret ?_
        obtain rfl := Option.some.inj hx
        refine fin_ret [(.bool false)] ⟨rfl, trivial⟩ ?_
        replace hM := hM.t0
        have hM := hM.fewer rsN
        exact ⟨(), rfl, hM.gives⟩
      · replace hx := xif_f hc171 hx
        refine wc_skip ?_
        refine sq_n ?_
        refine wc_seq ?_
        refine wc_region ?_
        refine wv rfl (r_assign rfl) ?_
        refine wl_nil ?_
        refine sq_n ?_
        refine wc_ret ?_
        obtain rfl := Option.some.inj hx
        refine fin_ret [(.bool true)] ⟨rfl, trivial⟩ ?_
        replace hM := hM.t0
        have hM := hM.fewer rsN
        exact ⟨(), rfl, hM.gives⟩

end Go.Proofs.Ytbapjbanejimiaa
