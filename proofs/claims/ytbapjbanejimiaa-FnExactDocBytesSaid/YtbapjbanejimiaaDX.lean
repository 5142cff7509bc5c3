/- Walks of functions of this program (printed by a program of ours, by the rules of the layer). No condition. -/
import Derived.Test.YtbapjbanejimiaaD2
import Derived.Test.YtbapjbanejimiaaNs
namespace Go.Proofs.Ytbapjbanejimiaa
open Go.RowKit

noncomputable def x_laws_szIntS (a : List Int) (left : Int) : Option Int :=
  xg (inI (left - (a.length : Int))) <| bif decide ((left - (a.length : Int)) < 0) then (some (-1)) else (some (left - (a.length : Int)))
theorem ct_laws_szIntS (w : World) (X S : Bs) (a : List Int) (s_a : Sv) (left : Int) (hS : ∀ b, S b → b < w.heap.size ∧ ¬ X b) (a_a_0 : (cSl 1 fI a).rd S w s_a.v) (oL : Sep [] X w) {r : Int} (hx : x_laws_szIntS a left = some r) :
    Ret Try.prog 31 [s_a.v, (.int .i64 left)] w (fun u w' => ∃ _ : Unit, u = (.int .i64 r) ∧ Gives X S w [] [] w') := by
  unfold x_laws_szIntS at hx
  refine enter Try.func31 rfl Try.ntmps31 (by kernel_rfl) rfl ?_
  have hM := St.enter oL hS
  have hM := hM.addE (r := rV s_a.v (cSl 1 fI a)) a_a_0
  refine wc_seq ?_
  refine wc_region ?_
  refine wv rfl (r_assign rfl) ?_
  refine wl_nil ?_
  refine sq_n ?_
  refine wc_seq ?_
  refine wc_region ?_
  refine wv rfl (r_move rfl) ?_
  refine wv rfl (r_move rfl) ?_
  refine wv rfl (r_lenC Try.underlying23 rfl (hM.seeR (.head _))) ?_
  obtain ⟨hg18, hx⟩ := xg_some hx
  refine wv rfl (r_sub rfl rfl hg18) ?_
  refine wv rfl (r_assign rfl) ?_
  refine wl_nil ?_
  refine sq_n ?_
  refine wc_seq ?_
  refine wc_seq ?_
  refine wc_region ?_
  refine wv rfl (r_move rfl) ?_
  refine wv rfl (r_lss rfl rfl) ?_
  refine wl_nil ?_
  refine sq_n ?_
  refine wc_cond rfl (fun hc22 => ?_) (fun hc22 => ?_)
  · replace hx := xif_t hc22 hx
    refine wc_seq ?_
    refine wc_region ?_
    refine wv rfl (r_assign rfl) ?_
    refine wl_nil ?_
    refine sq_n ?_
    refine wc_ret ?_
    refine sq_ret ?_
    obtain rfl := Option.some.inj hx
    refine fin_ret [(.int .i64 (-1))] ⟨rfl, trivial⟩ ?_
    replace hM := hM.t0
    have hM := hM.fewer rsN
    exact ⟨(), rfl, hM.gives⟩
  · replace hx := xif_f hc22 hx
    refine wc_skip ?_
    refine sq_n ?_
    refine wc_seq ?_
    refine wc_region ?_
    refine wv rfl (r_move rfl) ?_
    refine wv rfl (r_assign rfl) ?_
    refine wl_nil ?_
    refine sq_n ?_
    refine wc_ret ?_
    obtain rfl := Option.some.inj hx
    refine fin_ret [(.int .i64 (left - (a.length : Int)))] ⟨rfl, trivial⟩ ?_
    replace hM := hM.t0
    have hM := hM.fewer rsN
    exact ⟨(), rfl, hM.gives⟩

noncomputable def x_laws_szPart (a : DPart) (left : Int) : Option Int :=
  Option.bind (x_laws_szIntS a.signs left) fun r9 => bif decide (r9 < 0) then (some (-1)) else (some r9)
theorem ct_laws_szPart (w : World) (X S : Bs) (a : DPart) (s_a_2 : Sv) (left : Int) (hS : ∀ b, S b → b < w.heap.size ∧ ¬ X b) (a_a_2 : (cSl 1 fI a.signs).rd S w s_a_2.v) (oL : Sep [] X w) {r : Int} (hx : x_laws_szPart a left = some r) :
    Ret Try.prog 79 [(.agg #[(.int .i64 a.kind), (.int .i64 a.n), s_a_2.v]), (.int .i64 left)] w (fun u w' => ∃ _ : Unit, u = (.int .i64 r) ∧ Gives X S w [] [] w') := by
  unfold x_laws_szPart at hx
  refine enter Try.func79 rfl Try.ntmps79 (by kernel_rfl) rfl ?_
  have hM := St.enter oL hS
  have hM := hM.addE (r := rV s_a_2.v (cSl 1 fI a.signs)) a_a_2
  refine wc_seq ?_
  refine wc_region ?_
  refine w_ex rfl (x_box rfl hM ?_); intro b20 w19 hR21 hM
  replace hM : St ⟨w, X, S⟩ [oBox b20 #[(.int .i64 a.kind), (.int .i64 a.n), s_a_2.v] 117] [rV s_a_2.v (cSl 1 fI a.signs)] _ := hM
  refine wv rfl (r_assign rfl) ?_
  refine wl_nil ?_
  refine sq_n ?_
  refine wc_seq ?_
  refine wc_region ?_
  refine wv rfl (r_fld Try.underlying117 rfl rfl sz23 rfl) ?_
  refine wv rfl (r_ldB Try.underlying23 rfl rfl hM (.head _) rfl) ?_
  refine wv rfl (r_move rfl) ?_
  obtain ⟨r27, h28, hx⟩ := bind_some' hx
  refine w_call rfl rfl (hM.callV fun X S oL hS hR hO => ct_laws_szIntS _ X S a.signs s_a_2 left hS (hR _ (.head _)) oL h28) ?_
  rintro _ w29 ⟨rfl, hR30⟩
  have hM := hM.call hR30
  refine wv rfl (r_assign rfl) ?_
  refine wl_nil ?_
  refine sq_n ?_
  refine wc_seq ?_
  refine wc_seq ?_
  refine wc_region ?_
  refine wv rfl (r_move rfl) ?_
  refine wv rfl (r_lss rfl rfl) ?_
  refine wl_nil ?_
  refine sq_n ?_
  refine wc_cond rfl (fun hc34 => ?_) (fun hc34 => ?_)
  · replace hx := xif_t hc34 hx
    refine wc_seq ?_
    refine wc_region ?_
    refine wv rfl (r_assign rfl) ?_
    refine wl_nil ?_
    refine sq_n ?_
    refine wc_ret ?_
    refine sq_ret ?_
    obtain rfl := Option.some.inj hx
    refine fin_ret [(.int .i64 (-1))] ⟨rfl, trivial⟩ ?_
    replace hM := hM.t0
    have hM := hM.fewer rsN
    exact ⟨(), rfl, hM.gives⟩
  · replace hx := xif_f hc34 hx
    refine wc_skip ?_
    refine sq_n ?_
    refine wc_seq ?_
    refine wc_region ?_
    refine wv rfl (r_move rfl) ?_
    refine wv rfl (r_assign rfl) ?_
    refine wl_nil ?_
    refine sq_n ?_
    refine wc_ret ?_
    obtain rfl := Option.some.inj hx
    refine fin_ret [(.int .i64 r27)] ⟨rfl, trivial⟩ ?_
    replace hM := hM.t0
    have hM := hM.fewer rsN
    exact ⟨(), rfl, hM.gives⟩

noncomputable def x_laws_szPartS_b0 (a : List DPart) (left12 : Int) (i13 : Int) : Option (Lr (Int × Int) (Sum Int Int)) :=
  bif decide (i13 < (a.length : Int)) then (xg (0 ≤ i13 ∧ i13 < (a.length : Int)) <| Option.bind (x_laws_szPart (el a i13.toNat) left12) fun r52 => bif decide (r52 < 0) then (some (Lr.out (Sum.inr (-1)))) else (xg (inI (i13 + 1)) <| some (Lr.go (r52, i13 + 1)))) else (some (Lr.out (Sum.inl left12)))
noncomputable def x_laws_szPartS_f0 (a : List DPart) (s64 : Int × Int) : Option (Lr (Int × Int) (Sum Int Int)) := x_laws_szPartS_b0 a s64.1 s64.2
noncomputable def x_laws_szPartS (a : List DPart) (left : Int) : Option Int :=
  xg (inI (left - (a.length : Int))) <| bif decide ((left - (a.length : Int)) < 0) then (some (-1)) else (Option.bind (iter (x_laws_szPartS_f0 a) (left - (a.length : Int), 0)) fun (y65 : Sum Int Int) => Sum.elim (fun y66 => some y66) (fun y67 => some y67) y65)
theorem ct_laws_szPartS (w : World) (X S : Bs) (a : List DPart) (s_a : Sv) (left : Int) (hS : ∀ b, S b → b < w.heap.size ∧ ¬ X b) (a_a_0 : (cSl 3 fDPart a).rd S w s_a.v) (oL : Sep [] X w) {r : Int} (hx : x_laws_szPartS a left = some r) :
    Ret Try.prog 49 [s_a.v, (.int .i64 left)] w (fun u w' => ∃ _ : Unit, u = (.int .i64 r) ∧ Gives X S w [] [] w') := by
  unfold x_laws_szPartS at hx
  refine enter Try.func49 rfl Try.ntmps49 (by kernel_rfl) rfl ?_
  have hM := St.enter oL hS
  have hM := hM.addE (r := rV s_a.v (cSl 3 fDPart a)) a_a_0
  refine wc_seq ?_
  refine wc_region ?_
  refine wv rfl (r_assign rfl) ?_
  refine wl_nil ?_
  refine sq_n ?_
  refine wc_seq ?_
  refine wc_region ?_
  refine wv rfl (r_move rfl) ?_
  refine wv rfl (r_move rfl) ?_
  refine wv rfl (r_lenC Try.underlying22 rfl (hM.seeR (.head _))) ?_
  obtain ⟨hg75, hx⟩ := xg_some hx
  refine wv rfl (r_sub rfl rfl hg75) ?_
  refine wv rfl (r_assign rfl) ?_
  refine wl_nil ?_
  refine sq_n ?_
  refine wc_seq ?_
  refine wc_seq ?_
  refine wc_region ?_
  refine wv rfl (r_move rfl) ?_
  refine wv rfl (r_lss rfl rfl) ?_
  refine wl_nil ?_
  refine sq_n ?_
  refine wc_cond rfl (fun hc79 => ?_) (fun hc79 => ?_)
  · replace hx := xif_t hc79 hx
    refine wc_seq ?_
    refine wc_region ?_
    refine wv rfl (r_assign rfl) ?_
    refine wl_nil ?_
    refine sq_n ?_
    refine wc_ret ?_
    refine sq_ret ?_
    obtain rfl := Option.some.inj hx
    refine fin_ret [(.int .i64 (-1))] ⟨rfl, trivial⟩ ?_
    replace hM := hM.t0
    have hM := hM.fewer rsN
    exact ⟨(), rfl, hM.gives⟩
  · replace hx := xif_f hc79 hx
    refine wc_skip ?_
    refine sq_n ?_
    refine wc_seq ?_
    refine wc_seq ?_
    refine wc_region ?_
    refine wv rfl (r_assign rfl) ?_
    refine wl_nil ?_
    refine sq_n ?_
    refine wc_block ?_
    obtain ⟨y82, hx, hx83⟩ := bind_some' hx
    obtain ⟨m88, hx⟩ := iter_run hx
    refine wc_loop (un fun (m86 : Nat) => un fun (left84 : Int) => fun (i85 : Int) => [(0, s_a.v), (1, (.int .i64 left84)), (5, (.int .i64 i85))]) (un fun (m86 : Nat) => un fun (left84 : Int) => fun (i85 : Int) w' => St ⟨w, X, S⟩ [] [rV s_a.v (cSl 3 fDPart a)] w' ∧ iterN _ m86 (left84, i85) = some y82) (fun p => p.1) (m88, left - (a.length : Int), 0) ⟨rfl, rfl, rfl, trivial⟩ ⟨hM, hx⟩ ?_
    rintro ⟨m86, left84, i85⟩ w89 ⟨hM, hx⟩
    obtain ⟨m90, z91, rfl, hx, hx92⟩ := iterN_step hx
    unfold x_laws_szPartS_f0 x_laws_szPartS_b0 at hx
    try dsimp only at hx
    refine wc_seq ?_
    refine wc_seq ?_
    refine wc_region ?_
    refine wv rfl (r_move rfl) ?_
    refine wv rfl (r_move rfl) ?_
    refine wv rfl (r_lenC Try.underlying22 rfl (hM.seeR (.head _))) ?_
    refine wv rfl (r_lss rfl rfl) ?_
    refine wl_nil ?_
    refine sq_n ?_
    refine wc_cond rfl (fun hc97 => ?_) (fun hc97 => ?_)
    · replace hx := xif_t hc97 hx
      refine wc_skip ?_
      refine sq_n ?_
      refine wc_seq ?_
      refine wc_block ?_
      refine wc_seq ?_
      refine wc_region ?_
      refine wv rfl (r_move rfl) ?_
      refine wv rfl (r_move rfl) ?_
      obtain ⟨hg102, hx⟩ := xg_some hx
      have hi101 : i85.toNat < a.length := by omega
      refine wv rfl (r_ixC Try.underlying22 sz117 rfl rfl (hM.seeR (.head _)) hg102) ?_
      obtain ⟨s104, hM, hc105⟩ := hM.leaf (i := i85.toNat) (j := 2) (.head _) (fun _ => rfl) hi101 rfl
      refine wv rfl (r_ldC (o := i85.toNat * 3) Try.underlying117 sz117 rfl (us := [(.int .i64 ((el a i85.toNat).kind)), (.int .i64 ((el a i85.toNat).n)), s104.v]) rfl (hM.seeR (.tail _ (.head _))) hi101 ⟨(Cs.get (i := i85.toNat) (j := 0) (hM.seeR (.tail _ (.head _))) (fun _ => rfl) hi101 rfl), (Cs.get (i := i85.toNat) (j := 1) (hM.seeR (.tail _ (.head _))) (fun _ => rfl) hi101 rfl), (hc105 _ (Rel.refl _)), trivial⟩) ?_
      refine wv rfl (r_move rfl) ?_
      obtain ⟨r107, h108, hx⟩ := bind_some' hx
      refine w_call rfl rfl (hM.callV fun X S oL hS hR hO => ct_laws_szPart _ X S (el a i85.toNat) s104 left84 hS (hR _ (.head _)) oL h108) ?_
      rintro _ w109 ⟨rfl, hR110⟩
      have hM := hM.call hR110
      refine wv rfl (r_assign rfl) ?_
      refine wl_nil ?_
      refine sq_n ?_
      refine wc_seq ?_
      refine wc_region ?_
      refine wv rfl (r_move rfl) ?_
      refine wv rfl (r_lss rfl rfl) ?_
      refine wl_nil ?_
      refine sq_n ?_
      refine wc_cond rfl (fun hc114 => ?_) (fun hc114 => ?_)
      · replace hx := xif_t hc114 hx
        refine wc_seq ?_
        refine wc_region ?_
        refine wv rfl (r_assign rfl) ?_
        refine wl_nil ?_
        refine sq_n ?_
        refine wc_ret ?_
        refine bk_ret ?_
        refine sq_ret ?_
        refine lp1_ret ?_
        obtain rfl := Option.some.inj hx
        obtain rfl := Option.some.inj hx92
        replace hx := hx83
        try dsimp only [Sum.elim_inl, Sum.elim_inr] at hx
        refine bk_ret ?_
        refine sq_ret ?_
        obtain rfl := Option.some.inj hx
        refine fin_ret [(.int .i64 (-1))] ⟨rfl, trivial⟩ ?_
        replace hM := hM.t0
        have hM := hM.fewer rsN
        exact ⟨(), rfl, hM.gives⟩
      · replace hx := xif_f hc114 hx
        refine wc_skip ?_
        refine bk_n ?_
        refine sq_n ?_
        refine wc_region ?_
        refine wv rfl (r_move rfl) ?_
        obtain ⟨hg118, hx⟩ := xg_some hx
        refine wv rfl (r_add rfl rfl hg118) ?_
        refine wv rfl (r_assign rfl) ?_
        refine wl_nil ?_
        obtain rfl := Option.some.inj hx
        have hM := hM.fewer (rsC (.tail _ (.head _)) rsN)
        replace hM : St ⟨w, X, S⟩ [] [rV s_a.v (cSl 3 fDPart a)] _ := hM
        exact lp_end (m90, r107, i85 + 1) (Nat.lt_succ_self _) ⟨rfl, rfl, rfl, trivial⟩ ⟨hM, hx92⟩
    · replace hx := xif_f hc97 hx
      refine wc_exit ?_
      refine sq_exit ?_
      refine lp1_exit ?_
      obtain rfl := Option.some.inj hx
      obtain rfl := Option.some.inj hx92
      replace hx := hx83
      try dsimp only [Sum.elim_inl, Sum.elim_inr] at hx
      refine bk_here ?_
      refine sq_n ?_
      refine wc_seq ?_
      refine wc_region ?_
      refine wv rfl (r_move rfl) ?_
      refine wv rfl (r_assign rfl) ?_
      refine wl_nil ?_
      refine sq_n ?_
      refine wc_ret ?_
      obtain rfl := Option.some.inj hx
      refine fin_ret [(.int .i64 left84)] ⟨rfl, trivial⟩ ?_
      replace hM := hM.t0
      have hM := hM.fewer rsN
      exact ⟨(), rfl, hM.gives⟩

noncomputable def x_laws_szEntry (a : DEntry) (left : Int) : Option Int :=
  Option.bind (x_laws_szPartS a.o left) fun r9 => bif decide (r9 < 0) then (some (-1)) else (some r9)
theorem ct_laws_szEntry (w : World) (X S : Bs) (a : DEntry) (s_a_2 : Sv) (left : Int) (hS : ∀ b, S b → b < w.heap.size ∧ ¬ X b) (a_a_2 : (cSl 3 fDPart a.o).rd S w s_a_2.v) (oL : Sep [] X w) {r : Int} (hx : x_laws_szEntry a left = some r) :
    Ret Try.prog 55 [(.agg #[(.int .i64 a.client), (.int .i64 a.seq), s_a_2.v]), (.int .i64 left)] w (fun u w' => ∃ _ : Unit, u = (.int .i64 r) ∧ Gives X S w [] [] w') := by
  unfold x_laws_szEntry at hx
  refine enter Try.func55 rfl Try.ntmps55 (by kernel_rfl) rfl ?_
  have hM := St.enter oL hS
  have hM := hM.addE (r := rV s_a_2.v (cSl 3 fDPart a.o)) a_a_2
  refine wc_seq ?_
  refine wc_region ?_
  refine w_ex rfl (x_box rfl hM ?_); intro b20 w19 hR21 hM
  replace hM : St ⟨w, X, S⟩ [oBox b20 #[(.int .i64 a.client), (.int .i64 a.seq), s_a_2.v] 94] [rV s_a_2.v (cSl 3 fDPart a.o)] _ := hM
  refine wv rfl (r_assign rfl) ?_
  refine wl_nil ?_
  refine sq_n ?_
  refine wc_seq ?_
  refine wc_region ?_
  refine wv rfl (r_fld Try.underlying94 rfl rfl sz22 rfl) ?_
  refine wv rfl (r_ldB Try.underlying22 rfl rfl hM (.head _) rfl) ?_
  refine wv rfl (r_move rfl) ?_
  obtain ⟨r27, h28, hx⟩ := bind_some' hx
  refine w_call rfl rfl (hM.callV fun X S oL hS hR hO => ct_laws_szPartS _ X S a.o s_a_2 left hS (hR _ (.head _)) oL h28) ?_
  rintro _ w29 ⟨rfl, hR30⟩
  have hM := hM.call hR30
  refine wv rfl (r_assign rfl) ?_
  refine wl_nil ?_
  refine sq_n ?_
  refine wc_seq ?_
  refine wc_seq ?_
  refine wc_region ?_
  refine wv rfl (r_move rfl) ?_
  refine wv rfl (r_lss rfl rfl) ?_
  refine wl_nil ?_
  refine sq_n ?_
  refine wc_cond rfl (fun hc34 => ?_) (fun hc34 => ?_)
  · replace hx := xif_t hc34 hx
    refine wc_seq ?_
    refine wc_region ?_
    refine wv rfl (r_assign rfl) ?_
    refine wl_nil ?_
    refine sq_n ?_
    refine wc_ret ?_
    refine sq_ret ?_
    obtain rfl := Option.some.inj hx
    refine fin_ret [(.int .i64 (-1))] ⟨rfl, trivial⟩ ?_
    replace hM := hM.t0
    have hM := hM.fewer rsN
    exact ⟨(), rfl, hM.gives⟩
  · replace hx := xif_f hc34 hx
    refine wc_skip ?_
    refine sq_n ?_
    refine wc_seq ?_
    refine wc_region ?_
    refine wv rfl (r_move rfl) ?_
    refine wv rfl (r_assign rfl) ?_
    refine wl_nil ?_
    refine sq_n ?_
    refine wc_ret ?_
    obtain rfl := Option.some.inj hx
    refine fin_ret [(.int .i64 r27)] ⟨rfl, trivial⟩ ?_
    replace hM := hM.t0
    have hM := hM.fewer rsN
    exact ⟨(), rfl, hM.gives⟩

noncomputable def x_laws_szEntryS_b0 (a : List DEntry) (left12 : Int) (i13 : Int) : Option (Lr (Int × Int) (Sum Int Int)) :=
  bif decide (i13 < (a.length : Int)) then (xg (0 ≤ i13 ∧ i13 < (a.length : Int)) <| Option.bind (x_laws_szEntry (el a i13.toNat) left12) fun r52 => bif decide (r52 < 0) then (some (Lr.out (Sum.inr (-1)))) else (xg (inI (i13 + 1)) <| some (Lr.go (r52, i13 + 1)))) else (some (Lr.out (Sum.inl left12)))
noncomputable def x_laws_szEntryS_f0 (a : List DEntry) (s64 : Int × Int) : Option (Lr (Int × Int) (Sum Int Int)) := x_laws_szEntryS_b0 a s64.1 s64.2
noncomputable def x_laws_szEntryS (a : List DEntry) (left : Int) : Option Int :=
  xg (inI (left - (a.length : Int))) <| bif decide ((left - (a.length : Int)) < 0) then (some (-1)) else (Option.bind (iter (x_laws_szEntryS_f0 a) (left - (a.length : Int), 0)) fun (y65 : Sum Int Int) => Sum.elim (fun y66 => some y66) (fun y67 => some y67) y65)
theorem ct_laws_szEntryS (w : World) (X S : Bs) (a : List DEntry) (s_a : Sv) (left : Int) (hS : ∀ b, S b → b < w.heap.size ∧ ¬ X b) (a_a_0 : (cSl 3 fDEntry a).rd S w s_a.v) (oL : Sep [] X w) {r : Int} (hx : x_laws_szEntryS a left = some r) :
    Ret Try.prog 32 [s_a.v, (.int .i64 left)] w (fun u w' => ∃ _ : Unit, u = (.int .i64 r) ∧ Gives X S w [] [] w') := by
  unfold x_laws_szEntryS at hx
  refine enter Try.func32 rfl Try.ntmps32 (by kernel_rfl) rfl ?_
  have hM := St.enter oL hS
  have hM := hM.addE (r := rV s_a.v (cSl 3 fDEntry a)) a_a_0
  refine wc_seq ?_
  refine wc_region ?_
  refine wv rfl (r_assign rfl) ?_
  refine wl_nil ?_
  refine sq_n ?_
  refine wc_seq ?_
  refine wc_region ?_
  refine wv rfl (r_move rfl) ?_
  refine wv rfl (r_move rfl) ?_
  refine wv rfl (r_lenC Try.underlying26 rfl (hM.seeR (.head _))) ?_
  obtain ⟨hg75, hx⟩ := xg_some hx
  refine wv rfl (r_sub rfl rfl hg75) ?_
  refine wv rfl (r_assign rfl) ?_
  refine wl_nil ?_
  refine sq_n ?_
  refine wc_seq ?_
  refine wc_seq ?_
  refine wc_region ?_
  refine wv rfl (r_move rfl) ?_
  refine wv rfl (r_lss rfl rfl) ?_
  refine wl_nil ?_
  refine sq_n ?_
  refine wc_cond rfl (fun hc79 => ?_) (fun hc79 => ?_)
  · replace hx := xif_t hc79 hx
    refine wc_seq ?_
    refine wc_region ?_
    refine wv rfl (r_assign rfl) ?_
    refine wl_nil ?_
    refine sq_n ?_
    refine wc_ret ?_
    refine sq_ret ?_
    obtain rfl := Option.some.inj hx
    refine fin_ret [(.int .i64 (-1))] ⟨rfl, trivial⟩ ?_
    replace hM := hM.t0
    have hM := hM.fewer rsN
    exact ⟨(), rfl, hM.gives⟩
  · replace hx := xif_f hc79 hx
    refine wc_skip ?_
    refine sq_n ?_
    refine wc_seq ?_
    refine wc_seq ?_
    refine wc_region ?_
    refine wv rfl (r_assign rfl) ?_
    refine wl_nil ?_
    refine sq_n ?_
    refine wc_block ?_
    obtain ⟨y82, hx, hx83⟩ := bind_some' hx
    obtain ⟨m88, hx⟩ := iter_run hx
    refine wc_loop (un fun (m86 : Nat) => un fun (left84 : Int) => fun (i85 : Int) => [(0, s_a.v), (1, (.int .i64 left84)), (5, (.int .i64 i85))]) (un fun (m86 : Nat) => un fun (left84 : Int) => fun (i85 : Int) w' => St ⟨w, X, S⟩ [] [rV s_a.v (cSl 3 fDEntry a)] w' ∧ iterN _ m86 (left84, i85) = some y82) (fun p => p.1) (m88, left - (a.length : Int), 0) ⟨rfl, rfl, rfl, trivial⟩ ⟨hM, hx⟩ ?_
    rintro ⟨m86, left84, i85⟩ w89 ⟨hM, hx⟩
    obtain ⟨m90, z91, rfl, hx, hx92⟩ := iterN_step hx
    unfold x_laws_szEntryS_f0 x_laws_szEntryS_b0 at hx
    try dsimp only at hx
    refine wc_seq ?_
    refine wc_seq ?_
    refine wc_region ?_
    refine wv rfl (r_move rfl) ?_
    refine wv rfl (r_move rfl) ?_
    refine wv rfl (r_lenC Try.underlying26 rfl (hM.seeR (.head _))) ?_
    refine wv rfl (r_lss rfl rfl) ?_
    refine wl_nil ?_
    refine sq_n ?_
    refine wc_cond rfl (fun hc97 => ?_) (fun hc97 => ?_)
    · replace hx := xif_t hc97 hx
      refine wc_skip ?_
      refine sq_n ?_
      refine wc_seq ?_
      refine wc_block ?_
      refine wc_seq ?_
      refine wc_region ?_
      refine wv rfl (r_move rfl) ?_
      refine wv rfl (r_move rfl) ?_
      obtain ⟨hg102, hx⟩ := xg_some hx
      have hi101 : i85.toNat < a.length := by omega
      refine wv rfl (r_ixC Try.underlying26 sz94 rfl rfl (hM.seeR (.head _)) hg102) ?_
      obtain ⟨s104, hM, hc105⟩ := hM.leaf (i := i85.toNat) (j := 2) (.head _) (fun _ => rfl) hi101 rfl
      refine wv rfl (r_ldC (o := i85.toNat * 3) Try.underlying94 sz94 rfl (us := [(.int .i64 ((el a i85.toNat).client)), (.int .i64 ((el a i85.toNat).seq)), s104.v]) rfl (hM.seeR (.tail _ (.head _))) hi101 ⟨(Cs.get (i := i85.toNat) (j := 0) (hM.seeR (.tail _ (.head _))) (fun _ => rfl) hi101 rfl), (Cs.get (i := i85.toNat) (j := 1) (hM.seeR (.tail _ (.head _))) (fun _ => rfl) hi101 rfl), (hc105 _ (Rel.refl _)), trivial⟩) ?_
      refine wv rfl (r_move rfl) ?_
      obtain ⟨r107, h108, hx⟩ := bind_some' hx
      refine w_call rfl rfl (hM.callV fun X S oL hS hR hO => ct_laws_szEntry _ X S (el a i85.toNat) s104 left84 hS (hR _ (.head _)) oL h108) ?_
      rintro _ w109 ⟨rfl, hR110⟩
      have hM := hM.call hR110
      refine wv rfl (r_assign rfl) ?_
      refine wl_nil ?_
      refine sq_n ?_
      refine wc_seq ?_
      refine wc_region ?_
      refine wv rfl (r_move rfl) ?_
      refine wv rfl (r_lss rfl rfl) ?_
      refine wl_nil ?_
      refine sq_n ?_
      refine wc_cond rfl (fun hc114 => ?_) (fun hc114 => ?_)
      · replace hx := xif_t hc114 hx
        refine wc_seq ?_
        refine wc_region ?_
        refine wv rfl (r_assign rfl) ?_
        refine wl_nil ?_
        refine sq_n ?_
        refine wc_ret ?_
        refine bk_ret ?_
        refine sq_ret ?_
        refine lp1_ret ?_
        obtain rfl := Option.some.inj hx
        obtain rfl := Option.some.inj hx92
        replace hx := hx83
        try dsimp only [Sum.elim_inl, Sum.elim_inr] at hx
        refine bk_ret ?_
        refine sq_ret ?_
        obtain rfl := Option.some.inj hx
        refine fin_ret [(.int .i64 (-1))] ⟨rfl, trivial⟩ ?_
        replace hM := hM.t0
        have hM := hM.fewer rsN
        exact ⟨(), rfl, hM.gives⟩
      · replace hx := xif_f hc114 hx
        refine wc_skip ?_
        refine bk_n ?_
        refine sq_n ?_
        refine wc_region ?_
        refine wv rfl (r_move rfl) ?_
        obtain ⟨hg118, hx⟩ := xg_some hx
        refine wv rfl (r_add rfl rfl hg118) ?_
        refine wv rfl (r_assign rfl) ?_
        refine wl_nil ?_
        obtain rfl := Option.some.inj hx
        have hM := hM.fewer (rsC (.tail _ (.head _)) rsN)
        replace hM : St ⟨w, X, S⟩ [] [rV s_a.v (cSl 3 fDEntry a)] _ := hM
        exact lp_end (m90, r107, i85 + 1) (Nat.lt_succ_self _) ⟨rfl, rfl, rfl, trivial⟩ ⟨hM, hx92⟩
    · replace hx := xif_f hc97 hx
      refine wc_exit ?_
      refine sq_exit ?_
      refine lp1_exit ?_
      obtain rfl := Option.some.inj hx
      obtain rfl := Option.some.inj hx92
      replace hx := hx83
      try dsimp only [Sum.elim_inl, Sum.elim_inr] at hx
      refine bk_here ?_
      refine sq_n ?_
      refine wc_seq ?_
      refine wc_region ?_
      refine wv rfl (r_move rfl) ?_
      refine wv rfl (r_assign rfl) ?_
      refine wl_nil ?_
      refine sq_n ?_
      refine wc_ret ?_
      obtain rfl := Option.some.inj hx
      refine fin_ret [(.int .i64 left84)] ⟨rfl, trivial⟩ ?_
      replace hM := hM.t0
      have hM := hM.fewer rsN
      exact ⟨(), rfl, hM.gives⟩

noncomputable def x_laws_szSeenS (a : List DSeen) (left : Int) : Option Int :=
  xg (inI (left - (a.length : Int))) <| bif decide ((left - (a.length : Int)) < 0) then (some (-1)) else (some (left - (a.length : Int)))
theorem ct_laws_szSeenS (w : World) (X S : Bs) (a : List DSeen) (s_a : Sv) (left : Int) (hS : ∀ b, S b → b < w.heap.size ∧ ¬ X b) (a_a_0 : (cSl 3 fDSeen a).rd S w s_a.v) (oL : Sep [] X w) {r : Int} (hx : x_laws_szSeenS a left = some r) :
    Ret Try.prog 33 [s_a.v, (.int .i64 left)] w (fun u w' => ∃ _ : Unit, u = (.int .i64 r) ∧ Gives X S w [] [] w') := by
  unfold x_laws_szSeenS at hx
  refine enter Try.func33 rfl Try.ntmps33 (by kernel_rfl) rfl ?_
  have hM := St.enter oL hS
  have hM := hM.addE (r := rV s_a.v (cSl 3 fDSeen a)) a_a_0
  refine wc_seq ?_
  refine wc_region ?_
  refine wv rfl (r_assign rfl) ?_
  refine wl_nil ?_
  refine sq_n ?_
  refine wc_seq ?_
  refine wc_region ?_
  refine wv rfl (r_move rfl) ?_
  refine wv rfl (r_move rfl) ?_
  refine wv rfl (r_lenC Try.underlying44 rfl (hM.seeR (.head _))) ?_
  obtain ⟨hg18, hx⟩ := xg_some hx
  refine wv rfl (r_sub rfl rfl hg18) ?_
  refine wv rfl (r_assign rfl) ?_
  refine wl_nil ?_
  refine sq_n ?_
  refine wc_seq ?_
  refine wc_seq ?_
  refine wc_region ?_
  refine wv rfl (r_move rfl) ?_
  refine wv rfl (r_lss rfl rfl) ?_
  refine wl_nil ?_
  refine sq_n ?_
  refine wc_cond rfl (fun hc22 => ?_) (fun hc22 => ?_)
  · replace hx := xif_t hc22 hx
    refine wc_seq ?_
    refine wc_region ?_
    refine wv rfl (r_assign rfl) ?_
    refine wl_nil ?_
    refine sq_n ?_
    refine wc_ret ?_
    refine sq_ret ?_
    obtain rfl := Option.some.inj hx
    refine fin_ret [(.int .i64 (-1))] ⟨rfl, trivial⟩ ?_
    replace hM := hM.t0
    have hM := hM.fewer rsN
    exact ⟨(), rfl, hM.gives⟩
  · replace hx := xif_f hc22 hx
    refine wc_skip ?_
    refine sq_n ?_
    refine wc_seq ?_
    refine wc_region ?_
    refine wv rfl (r_move rfl) ?_
    refine wv rfl (r_assign rfl) ?_
    refine wl_nil ?_
    refine sq_n ?_
    refine wc_ret ?_
    obtain rfl := Option.some.inj hx
    refine fin_ret [(.int .i64 (left - (a.length : Int)))] ⟨rfl, trivial⟩ ?_
    replace hM := hM.t0
    have hM := hM.fewer rsN
    exact ⟨(), rfl, hM.gives⟩

noncomputable def x_laws_szDoc (a : DDoc) (left : Int) : Option Int :=
  xg (inI (left - (a.name.size : Int))) <| bif decide ((left - (a.name.size : Int)) < 0) then (some (-1)) else (Option.bind (x_laws_szIntS a.text (left - (a.name.size : Int))) fun r19 => bif decide (r19 < 0) then (some (-1)) else (Option.bind (x_laws_szEntryS a.list r19) fun r30 => bif decide (r30 < 0) then (some (-1)) else (Option.bind (x_laws_szSeenS a.seen r30) fun r41 => bif decide (r41 < 0) then (some (-1)) else (some r41))))
theorem ct_laws_szDoc (w : World) (X S : Bs) (a : DDoc) (s_a_2 : Sv) (s_a_3 : Sv) (s_a_4 : Sv) (left : Int) (hS : ∀ b, S b → b < w.heap.size ∧ ¬ X b) (a_a_2 : (cSl 1 fI a.text).rd S w s_a_2.v) (a_a_3 : (cSl 3 fDEntry a.list).rd S w s_a_3.v) (a_a_4 : (cSl 3 fDSeen a.seen).rd S w s_a_4.v) (oL : Sep [] X w) {r : Int} (hx : x_laws_szDoc a left = some r) :
    Ret Try.prog 10 [(.agg #[(.string a.name), (.int .i64 a.from_), s_a_2.v, s_a_3.v, s_a_4.v]), (.int .i64 left)] w (fun u w' => ∃ _ : Unit, u = (.int .i64 r) ∧ Gives X S w [] [] w') := by
  unfold x_laws_szDoc at hx
  refine enter Try.func10 rfl Try.ntmps10 (by kernel_rfl) rfl ?_
  have hM := St.enter oL hS
  have hM := hM.addE (r := rV s_a_2.v (cSl 1 fI a.text)) a_a_2
  have hM := hM.addE (r := rV s_a_3.v (cSl 3 fDEntry a.list)) a_a_3
  have hM := hM.addE (r := rV s_a_4.v (cSl 3 fDSeen a.seen)) a_a_4
  refine wc_seq ?_
  refine wc_region ?_
  refine w_ex rfl (x_box rfl hM ?_); intro b52 w51 hR53 hM
  replace hM : St ⟨w, X, S⟩ [oBox b52 #[(.string a.name), (.int .i64 a.from_), s_a_2.v, s_a_3.v, s_a_4.v] 46] [rV s_a_4.v (cSl 3 fDSeen a.seen), rV s_a_3.v (cSl 3 fDEntry a.list), rV s_a_2.v (cSl 1 fI a.text)] _ := hM
  refine wv rfl (r_assign rfl) ?_
  refine wl_nil ?_
  refine sq_n ?_
  refine wc_seq ?_
  refine wc_region ?_
  refine wv rfl (r_move rfl) ?_
  refine wv rfl (r_fld Try.underlying46 rfl rfl sz9 rfl) ?_
  refine wv rfl (r_ldB Try.underlying9 rfl rfl hM (.head _) rfl) ?_
  refine wv rfl (r_lens Try.underlying9 rfl) ?_
  obtain ⟨hg61, hx⟩ := xg_some hx
  refine wv rfl (r_sub rfl rfl hg61) ?_
  refine wv rfl (r_assign rfl) ?_
  refine wl_nil ?_
  refine sq_n ?_
  refine wc_seq ?_
  refine wc_seq ?_
  refine wc_region ?_
  refine wv rfl (r_move rfl) ?_
  refine wv rfl (r_lss rfl rfl) ?_
  refine wl_nil ?_
  refine sq_n ?_
  refine wc_cond rfl (fun hc65 => ?_) (fun hc65 => ?_)
  · replace hx := xif_t hc65 hx
    refine wc_seq ?_
    refine wc_region ?_
    refine wv rfl (r_assign rfl) ?_
    refine wl_nil ?_
    refine sq_n ?_
    refine wc_ret ?_
    refine sq_ret ?_
    obtain rfl := Option.some.inj hx
    refine fin_ret [(.int .i64 (-1))] ⟨rfl, trivial⟩ ?_
    replace hM := hM.t0
    have hM := hM.fewer rsN
    exact ⟨(), rfl, hM.gives⟩
  · replace hx := xif_f hc65 hx
    refine wc_skip ?_
    refine sq_n ?_
    refine wc_seq ?_
    refine wc_region ?_
    refine wv rfl (r_fld Try.underlying46 rfl rfl sz23 rfl) ?_
    refine wv rfl (r_ldB Try.underlying23 rfl rfl hM (.head _) rfl) ?_
    refine wv rfl (r_move rfl) ?_
    obtain ⟨r70, h71, hx⟩ := bind_some' hx
    refine w_call rfl rfl (hM.callV fun X S oL hS hR hO => ct_laws_szIntS _ X S a.text s_a_2 (left - (a.name.size : Int)) hS (hR _ (.tail _ (.tail _ (.head _)))) oL h71) ?_
    rintro _ w72 ⟨rfl, hR73⟩
    have hM := hM.call hR73
    refine wv rfl (r_assign rfl) ?_
    refine wl_nil ?_
    refine sq_n ?_
    refine wc_seq ?_
    refine wc_seq ?_
    refine wc_region ?_
    refine wv rfl (r_move rfl) ?_
    refine wv rfl (r_lss rfl rfl) ?_
    refine wl_nil ?_
    refine sq_n ?_
    refine wc_cond rfl (fun hc77 => ?_) (fun hc77 => ?_)
    · replace hx := xif_t hc77 hx
      refine wc_seq ?_
      refine wc_region ?_
      refine wv rfl (r_assign rfl) ?_
      refine wl_nil ?_
      refine sq_n ?_
      refine wc_ret ?_
      refine sq_ret ?_
      obtain rfl := Option.some.inj hx
      refine fin_ret [(.int .i64 (-1))] ⟨rfl, trivial⟩ ?_
      replace hM := hM.t0
      have hM := hM.fewer rsN
      exact ⟨(), rfl, hM.gives⟩
    · replace hx := xif_f hc77 hx
      refine wc_skip ?_
      refine sq_n ?_
      refine wc_seq ?_
      refine wc_region ?_
      refine wv rfl (r_fld Try.underlying46 rfl rfl sz26 rfl) ?_
      refine wv rfl (r_ldB Try.underlying26 rfl rfl hM (.head _) rfl) ?_
      refine wv rfl (r_move rfl) ?_
      obtain ⟨r82, h83, hx⟩ := bind_some' hx
      refine w_call rfl rfl (hM.callV fun X S oL hS hR hO => ct_laws_szEntryS _ X S a.list s_a_3 r70 hS (hR _ (.tail _ (.head _))) oL h83) ?_
      rintro _ w84 ⟨rfl, hR85⟩
      have hM := hM.call hR85
      refine wv rfl (r_assign rfl) ?_
      refine wl_nil ?_
      refine sq_n ?_
      refine wc_seq ?_
      refine wc_seq ?_
      refine wc_region ?_
      refine wv rfl (r_move rfl) ?_
      refine wv rfl (r_lss rfl rfl) ?_
      refine wl_nil ?_
      refine sq_n ?_
      refine wc_cond rfl (fun hc89 => ?_) (fun hc89 => ?_)
      · replace hx := xif_t hc89 hx
        refine wc_seq ?_
        refine wc_region ?_
        refine wv rfl (r_assign rfl) ?_
        refine wl_nil ?_
        refine sq_n ?_
        refine wc_ret ?_
        refine sq_ret ?_
        obtain rfl := Option.some.inj hx
        refine fin_ret [(.int .i64 (-1))] ⟨rfl, trivial⟩ ?_
        replace hM := hM.t0
        have hM := hM.fewer rsN
        exact ⟨(), rfl, hM.gives⟩
      · replace hx := xif_f hc89 hx
        refine wc_skip ?_
        refine sq_n ?_
        refine wc_seq ?_
        refine wc_region ?_
        refine wv rfl (r_fld Try.underlying46 rfl rfl sz44 rfl) ?_
        refine wv rfl (r_ldB Try.underlying44 rfl rfl hM (.head _) rfl) ?_
        refine wv rfl (r_move rfl) ?_
        obtain ⟨r94, h95, hx⟩ := bind_some' hx
        refine w_call rfl rfl (hM.callV fun X S oL hS hR hO => ct_laws_szSeenS _ X S a.seen s_a_4 r82 hS (hR _ (.head _)) oL h95) ?_
        rintro _ w96 ⟨rfl, hR97⟩
        have hM := hM.call hR97
        refine wv rfl (r_assign rfl) ?_
        refine wl_nil ?_
        refine sq_n ?_
        refine wc_seq ?_
        refine wc_seq ?_
        refine wc_region ?_
        refine wv rfl (r_move rfl) ?_
        refine wv rfl (r_lss rfl rfl) ?_
        refine wl_nil ?_
        refine sq_n ?_
        refine wc_cond rfl (fun hc101 => ?_) (fun hc101 => ?_)
        · replace hx := xif_t hc101 hx
          refine wc_seq ?_
          refine wc_region ?_
          refine wv rfl (r_assign rfl) ?_
          refine wl_nil ?_
          refine sq_n ?_
          refine wc_ret ?_
          refine sq_ret ?_
          obtain rfl := Option.some.inj hx
          refine fin_ret [(.int .i64 (-1))] ⟨rfl, trivial⟩ ?_
          replace hM := hM.t0
          have hM := hM.fewer rsN
          exact ⟨(), rfl, hM.gives⟩
        · replace hx := xif_f hc101 hx
          refine wc_skip ?_
          refine sq_n ?_
          refine wc_seq ?_
          refine wc_region ?_
          refine wv rfl (r_move rfl) ?_
          refine wv rfl (r_assign rfl) ?_
          refine wl_nil ?_
          refine sq_n ?_
          refine wc_ret ?_
          obtain rfl := Option.some.inj hx
          refine fin_ret [(.int .i64 r94)] ⟨rfl, trivial⟩ ?_
          replace hM := hM.t0
          have hM := hM.fewer rsN
          exact ⟨(), rfl, hM.gives⟩

noncomputable def x_laws_toIntS_b0 (a : List Int) (i34 : Int) (l35 : List Int) : Option (Lr (Int × List Int) (List Int)) :=
  bif decide (i34 < (a.length : Int)) then (xg (0 ≤ i34 ∧ i34 < (a.length : Int)) <| xg (0 ≤ i34 ∧ i34 < (l35.length : Int)) <| xg (inI (i34 + 1)) <| some (Lr.go (i34 + 1, l35.set i34.toNat (el a i34.toNat)))) else (some (Lr.out l35))
noncomputable def x_laws_toIntS_f0 (a : List Int) (s79 : Int × List Int) : Option (Lr (Int × List Int) (List Int)) := x_laws_toIntS_b0 a s79.1 s79.2
noncomputable def x_laws_toIntS (a : List Int) : Option (List Int) :=
  xg (0 ≤ (a.length : Int) ∧ (a.length : Int) ≤ 1099511627776) <| Option.bind (iter (x_laws_toIntS_f0 a) (0, List.replicate ((a.length : Int).toNat) 0)) fun (y80 : List Int) => some y80
theorem ct_laws_toIntS (w : World) (X S : Bs) (a : List Int) (s_a : Sv) (hS : ∀ b, S b → b < w.heap.size ∧ ¬ X b) (a_a_0 : (cSl 1 fI a).rd S w s_a.v) (oL : Sep [] X w) {r : List Int} (hx : x_laws_toIntS a = some r) :
    Ret Try.prog 37 [s_a.v] w (fun u w' => ∃ y : Sv, u = y.v ∧ Gives X S w [oC (cSl 1 fI r) y.v] [] w') := by
  unfold x_laws_toIntS at hx
  refine enter Try.func37 rfl Try.ntmps37 (by kernel_rfl) rfl ?_
  have hM := St.enter oL hS
  have hM := hM.addE (r := rV s_a.v (cSl 1 fI a)) a_a_0
  refine wc_seq ?_
  refine wc_region ?_
  refine wv rfl (r_assign rfl) ?_
  refine wl_nil ?_
  refine sq_n ?_
  refine wc_seq ?_
  refine wc_region ?_
  refine wv rfl (r_move rfl) ?_
  refine wv rfl (r_lenC Try.underlying23 rfl (hM.seeR (.head _))) ?_
  obtain ⟨hg89, hx⟩ := xg_some hx
  have hk90 : (a.length : Int) = ((a.length : Int).toNat : Int) := by omega
  refine w_ex rfl (x_make (f := fI) (k := ((a.length : Int).toNat)) 0 Try.underlying23 sz3 (fun _ => rfl) (fun _ => zP (pV _ rfl) zN) (by rw [← hk90]; rfl) (by omega) rfl hM ?_); intro s88 w87 hR91 hM
  refine wv rfl (r_assign rfl) ?_
  refine wl_nil ?_
  refine sq_n ?_
  refine wc_seq ?_
  refine wc_seq ?_
  refine wc_region ?_
  refine wv rfl (r_assign rfl) ?_
  refine wl_nil ?_
  refine sq_n ?_
  refine wc_block ?_
  obtain ⟨y95, hx, hx96⟩ := bind_some' hx
  obtain ⟨m101, hx⟩ := iter_run hx
  refine wc_loop (un fun (m99 : Nat) => un fun (i97 : Int) => fun (l98 : List Int) => [(0, s_a.v), (3, s88.v), (4, (.int .i64 i97))]) (un fun (m99 : Nat) => un fun (i97 : Int) => fun (l98 : List Int) w' => St ⟨w, X, S⟩ [oC (cSl 1 fI l98) s88.v] [rV s_a.v (cSl 1 fI a)] w' ∧ iterN _ m99 (i97, l98) = some y95) (fun p => p.1) (m101, 0, List.replicate ((a.length : Int).toNat) 0) ⟨rfl, rfl, rfl, trivial⟩ ⟨hM, hx⟩ ?_
  rintro ⟨m99, i97, l98⟩ w102 ⟨hM, hx⟩
  obtain ⟨m103, z104, rfl, hx, hx105⟩ := iterN_step hx
  unfold x_laws_toIntS_f0 x_laws_toIntS_b0 at hx
  try dsimp only at hx
  refine wc_seq ?_
  refine wc_seq ?_
  refine wc_region ?_
  refine wv rfl (r_move rfl) ?_
  refine wv rfl (r_move rfl) ?_
  refine wv rfl (r_lenC Try.underlying23 rfl (hM.seeR (.head _))) ?_
  refine wv rfl (r_lss rfl rfl) ?_
  refine wl_nil ?_
  refine sq_n ?_
  refine wc_cond rfl (fun hc110 => ?_) (fun hc110 => ?_)
  · replace hx := xif_t hc110 hx
    refine wc_skip ?_
    refine sq_n ?_
    refine wc_seq ?_
    refine wc_block ?_
    refine wc_region ?_
    refine wv rfl (r_move rfl) ?_
    refine wv rfl (r_move rfl) ?_
    refine wv rfl (r_move rfl) ?_
    refine wv rfl (r_move rfl) ?_
    obtain ⟨hg117, hx⟩ := xg_some hx
    have hi116 : i97.toNat < a.length := by omega
    refine wv rfl (r_ixC Try.underlying23 sz3 rfl rfl (hM.seeR (.head _)) hg117) ?_
    refine wv rfl (r_ld Try.underlying3 rfl rfl (Cs.get (i := i97.toNat) (j := 0) (hM.seeR (.head _)) (fun _ => rfl) hi116 rfl)) ?_
    obtain ⟨hg121, hx⟩ := xg_some hx
    have hi120 : i97.toNat < l98.length := by omega
    refine wv rfl (r_ixC Try.underlying23 sz3 rfl rfl (hM.seeO (.head _)) hg121) ?_
    refine w_exu (x_stE (f := fI) (k := 1) (L := l98) (i := i97.toNat) (j := 0) (el a i97.toNat) [cI (el a i97.toNat)] sz3 (fun _ => rfl) rfl rfl hi120 rfl rfl rfl rfl rfl (fun _ => zP (pV _ rfl) zN) hM ?_); intro w122 hM
    refine wl_nil ?_
    refine bk_n ?_
    refine sq_n ?_
    refine wc_region ?_
    refine wv rfl (r_move rfl) ?_
    obtain ⟨hg126, hx⟩ := xg_some hx
    refine wv rfl (r_add rfl rfl hg126) ?_
    refine wv rfl (r_assign rfl) ?_
    refine wl_nil ?_
    obtain rfl := Option.some.inj hx
    exact lp_end (m103, i97 + 1, l98.set i97.toNat (el a i97.toNat)) (Nat.lt_succ_self _) ⟨rfl, rfl, rfl, trivial⟩ ⟨hM, hx105⟩
  · replace hx := xif_f hc110 hx
    refine wc_exit ?_
    refine sq_exit ?_
    refine lp1_exit ?_
    obtain rfl := Option.some.inj hx
    obtain rfl := Option.some.inj hx105
    replace hx := hx96
    try dsimp only [Sum.elim_inl, Sum.elim_inr] at hx
    refine bk_here ?_
    refine sq_n ?_
    refine wc_seq ?_
    refine wc_region ?_
    refine wv rfl (r_move rfl) ?_
    refine wv rfl (r_assign rfl) ?_
    refine wl_nil ?_
    refine sq_n ?_
    refine wc_ret ?_
    obtain rfl := Option.some.inj hx
    refine fin_ret [s88.v] ⟨rfl, trivial⟩ ?_
    replace hM := hM.t1
    have hM := hM.fewer rsN
    exact ⟨s88, rfl, hM.gives⟩

noncomputable def x_laws_toPart (a : DPart) : Option DPart :=
  Option.bind (x_laws_toIntS a.signs) fun r25 => some (⟨a.kind, a.n, r25⟩ : DPart)
theorem ct_laws_toPart (w : World) (X S : Bs) (a : DPart) (s_a_2 : Sv) (hS : ∀ b, S b → b < w.heap.size ∧ ¬ X b) (a_a_2 : (cSl 1 fI a.signs).rd S w s_a_2.v) (oL : Sep [] X w) {r : DPart} (hx : x_laws_toPart a = some r) :
    Ret Try.prog 80 [(.agg #[(.int .i64 a.kind), (.int .i64 a.n), s_a_2.v])] w (fun u w' => ∃ y : Sv, u = .agg #[(.int .i64 r.kind), (.int .i64 r.n), y.v] ∧ Gives X S w [oC (cSl 1 fI r.signs) y.v] [] w') := by
  unfold x_laws_toPart at hx
  refine enter Try.func80 rfl Try.ntmps80 (by kernel_rfl) rfl ?_
  have hM := St.enter oL hS
  have hM := hM.addE (r := rV s_a_2.v (cSl 1 fI a.signs)) a_a_2
  refine wc_seq ?_
  refine wc_region ?_
  refine w_ex rfl (x_box rfl hM ?_); intro b37 w36 hR38 hM
  replace hM : St ⟨w, X, S⟩ [oBox b37 #[(.int .i64 a.kind), (.int .i64 a.n), s_a_2.v] 117] [rV s_a_2.v (cSl 1 fI a.signs)] _ := hM
  refine w_ex rfl (x_alloc sz105 hM ?_); intro b41 w40 hR42 hM
  replace hM : St ⟨w, X, S⟩ [oBox b41 #[(.int .i64 0), (.int .i64 0), (.slice none 0 0)] 105, oBox b37 #[(.int .i64 a.kind), (.int .i64 a.n), s_a_2.v] 117] [rV s_a_2.v (cSl 1 fI a.signs)] _ := hM
  refine wl_nil ?_
  refine sq_n ?_
  refine wc_seq ?_
  refine wc_region ?_
  refine w_ex rfl (x_alloc sz105 hM ?_); intro b45 w44 hR46 hM
  replace hM : St ⟨w, X, S⟩ [oBox b45 #[(.int .i64 0), (.int .i64 0), (.slice none 0 0)] 105, oBox b41 #[(.int .i64 0), (.int .i64 0), (.slice none 0 0)] 105, oBox b37 #[(.int .i64 a.kind), (.int .i64 a.n), s_a_2.v] 117] [rV s_a_2.v (cSl 1 fI a.signs)] _ := hM
  refine wl_nil ?_
  refine sq_n ?_
  refine wc_seq ?_
  refine wc_region ?_
  refine wv rfl (r_fld Try.underlying117 rfl rfl sz3 rfl) ?_
  refine wv rfl (r_ldB Try.underlying3 rfl rfl hM (.tail _ (.tail _ (.head _))) rfl) ?_
  refine wv rfl (r_fld Try.underlying105 rfl rfl sz3 rfl) ?_
  refine w_exu (x_stB #[(.int .i64 a.kind), (.int .i64 0), (.slice none 0 0)] sz3 rfl rfl rfl rfl rfl rfl hM ?_); intro w51 hM
  refine wl_nil ?_
  refine sq_n ?_
  refine wc_seq ?_
  refine wc_region ?_
  refine wv rfl (r_fld Try.underlying117 rfl rfl sz3 rfl) ?_
  refine wv rfl (r_ldB Try.underlying3 rfl rfl hM (.tail _ (.tail _ (.head _))) rfl) ?_
  refine wv rfl (r_fld Try.underlying105 rfl rfl sz3 rfl) ?_
  refine w_exu (x_stB #[(.int .i64 a.kind), (.int .i64 a.n), (.slice none 0 0)] sz3 rfl rfl rfl rfl rfl rfl hM ?_); intro w56 hM
  refine wl_nil ?_
  refine sq_n ?_
  refine wc_seq ?_
  refine wc_region ?_
  refine wv rfl (r_fld Try.underlying117 rfl rfl sz23 rfl) ?_
  refine wv rfl (r_ldB Try.underlying23 rfl rfl hM (.tail _ (.tail _ (.head _))) rfl) ?_
  obtain ⟨r60, h61, hx⟩ := bind_some' hx
  refine w_call rfl rfl (hM.callO (l := []) fun X S oL hS hR hO => ct_laws_toIntS _ X S a.signs s_a_2 hS (hR _ (.head _)) oL h61) ?_
  rintro _ w62 ⟨s63, rfl, hM⟩
  replace hM : St ⟨w, X, S⟩ [oC (cSl 1 fI r60) s63.v, oBox b45 #[(.int .i64 a.kind), (.int .i64 a.n), (.slice none 0 0)] 105, oBox b41 #[(.int .i64 0), (.int .i64 0), (.slice none 0 0)] 105, oBox b37 #[(.int .i64 a.kind), (.int .i64 a.n), s_a_2.v] 117] [rV s_a_2.v (cSl 1 fI a.signs)] _ := hM
  refine wv rfl (r_fld Try.underlying105 rfl rfl sz23 rfl) ?_
  replace hM := hM.p1
  refine w_exu (x_stB #[(.int .i64 a.kind), (.int .i64 a.n), s63.v] sz23 rfl rfl rfl rfl rfl rfl hM ?_); intro w66 hM
  refine wl_nil ?_
  refine sq_n ?_
  refine wc_seq ?_
  refine wc_region ?_
  refine wv rfl (r_ldBS Try.underlying105 sz105 rfl (us := [(.int .i64 a.kind), (.int .i64 a.n), s63.v]) rfl hM (.head _) rfl) ?_
  replace hM := hM.p2
  refine w_exu (x_stB #[(.int .i64 a.kind), (.int .i64 a.n), s63.v] sz105 rfl rfl rfl rfl rfl rfl hM ?_); intro w69 hM
  refine wl_nil ?_
  refine sq_n ?_
  refine wc_ret ?_
  obtain rfl := Option.some.inj hx
  refine fin_ret [(.agg #[(.int .i64 a.kind), (.int .i64 a.n), s63.v])] ⟨rv_box Try.underlying105 sz105 rfl rfl hM (.head _), trivial⟩ ?_
  replace hM := hM.p2
  replace hM := hM.t1
  have hM := hM.fewer rsN
  exact ⟨s63, rfl, hM.gives⟩

noncomputable def x_laws_toPartS_b0 (a : List DPart) (i41 : Int) (l42 : List DPart) : Option (Lr (Int × List DPart) (List DPart)) :=
  bif decide (i41 < (a.length : Int)) then (xg (0 ≤ i41 ∧ i41 < (a.length : Int)) <| Option.bind (x_laws_toPart (el a i41.toNat)) fun r86 => xg (0 ≤ i41 ∧ i41 < (l42.length : Int)) <| xg (inI (i41 + 1)) <| some (Lr.go (i41 + 1, l42.set i41.toNat r86))) else (some (Lr.out l42))
noncomputable def x_laws_toPartS_f0 (a : List DPart) (s100 : Int × List DPart) : Option (Lr (Int × List DPart) (List DPart)) := x_laws_toPartS_b0 a s100.1 s100.2
noncomputable def x_laws_toPartS (a : List DPart) : Option (List DPart) :=
  xg (0 ≤ (a.length : Int) ∧ (a.length : Int) ≤ 1099511627776) <| Option.bind (iter (x_laws_toPartS_f0 a) (0, List.replicate ((a.length : Int).toNat) (default : DPart))) fun (y101 : List DPart) => some y101
theorem ct_laws_toPartS (w : World) (X S : Bs) (a : List DPart) (s_a : Sv) (hS : ∀ b, S b → b < w.heap.size ∧ ¬ X b) (a_a_0 : (cSl 3 fDPart a).rd S w s_a.v) (oL : Sep [] X w) {r : List DPart} (hx : x_laws_toPartS a = some r) :
    Ret Try.prog 52 [s_a.v] w (fun u w' => ∃ y : Sv, u = y.v ∧ Gives X S w [oC (cSl 3 fDPart r) y.v] [] w') := by
  unfold x_laws_toPartS at hx
  refine enter Try.func52 rfl Try.ntmps52 (by kernel_rfl) rfl ?_
  have hM := St.enter oL hS
  have hM := hM.addE (r := rV s_a.v (cSl 3 fDPart a)) a_a_0
  refine wc_seq ?_
  refine wc_region ?_
  refine wv rfl (r_assign rfl) ?_
  refine wl_nil ?_
  refine sq_n ?_
  refine wc_seq ?_
  refine wc_region ?_
  refine wv rfl (r_move rfl) ?_
  refine wv rfl (r_lenC Try.underlying22 rfl (hM.seeR (.head _))) ?_
  obtain ⟨hg110, hx⟩ := xg_some hx
  have hk111 : (a.length : Int) = ((a.length : Int).toNat : Int) := by omega
  refine w_ex rfl (x_make (f := fDPart) (k := ((a.length : Int).toNat)) (default : DPart) Try.underlying33 sz105 (fun _ => rfl) (fun _ => zP (pV _ rfl) (zP (pV _ rfl) (zP (pN _ _) zN))) (by rw [← hk111]; rfl) (by omega) rfl hM ?_); intro s109 w108 hR112 hM
  refine wv rfl (r_assign rfl) ?_
  refine wl_nil ?_
  refine sq_n ?_
  refine wc_seq ?_
  refine wc_seq ?_
  refine wc_region ?_
  refine wv rfl (r_assign rfl) ?_
  refine wl_nil ?_
  refine sq_n ?_
  refine wc_block ?_
  obtain ⟨y116, hx, hx117⟩ := bind_some' hx
  obtain ⟨m122, hx⟩ := iter_run hx
  refine wc_loop (un fun (m120 : Nat) => un fun (i118 : Int) => fun (l119 : List DPart) => [(0, s_a.v), (3, s109.v), (4, (.int .i64 i118))]) (un fun (m120 : Nat) => un fun (i118 : Int) => fun (l119 : List DPart) w' => St ⟨w, X, S⟩ [oC (cSl 3 fDPart l119) s109.v] [rV s_a.v (cSl 3 fDPart a)] w' ∧ iterN _ m120 (i118, l119) = some y116) (fun p => p.1) (m122, 0, List.replicate ((a.length : Int).toNat) (default : DPart)) ⟨rfl, rfl, rfl, trivial⟩ ⟨hM, hx⟩ ?_
  rintro ⟨m120, i118, l119⟩ w123 ⟨hM, hx⟩
  obtain ⟨m124, z125, rfl, hx, hx126⟩ := iterN_step hx
  unfold x_laws_toPartS_f0 x_laws_toPartS_b0 at hx
  try dsimp only at hx
  refine wc_seq ?_
  refine wc_seq ?_
  refine wc_region ?_
  refine wv rfl (r_move rfl) ?_
  refine wv rfl (r_move rfl) ?_
  refine wv rfl (r_lenC Try.underlying22 rfl (hM.seeR (.head _))) ?_
  refine wv rfl (r_lss rfl rfl) ?_
  refine wl_nil ?_
  refine sq_n ?_
  refine wc_cond rfl (fun hc131 => ?_) (fun hc131 => ?_)
  · replace hx := xif_t hc131 hx
    refine wc_skip ?_
    refine sq_n ?_
    refine wc_seq ?_
    refine wc_block ?_
    refine wc_region ?_
    refine wv rfl (r_move rfl) ?_
    refine wv rfl (r_move rfl) ?_
    refine wv rfl (r_move rfl) ?_
    refine wv rfl (r_move rfl) ?_
    obtain ⟨hg138, hx⟩ := xg_some hx
    have hi137 : i118.toNat < a.length := by omega
    refine wv rfl (r_ixC Try.underlying22 sz117 rfl rfl (hM.seeR (.head _)) hg138) ?_
    obtain ⟨s140, hM, hc141⟩ := hM.leaf (i := i118.toNat) (j := 2) (.head _) (fun _ => rfl) hi137 rfl
    refine wv rfl (r_ldC (o := i118.toNat * 3) Try.underlying117 sz117 rfl (us := [(.int .i64 ((el a i118.toNat).kind)), (.int .i64 ((el a i118.toNat).n)), s140.v]) rfl (hM.seeR (.tail _ (.head _))) hi137 ⟨(Cs.get (i := i118.toNat) (j := 0) (hM.seeR (.tail _ (.head _))) (fun _ => rfl) hi137 rfl), (Cs.get (i := i118.toNat) (j := 1) (hM.seeR (.tail _ (.head _))) (fun _ => rfl) hi137 rfl), (hc141 _ (Rel.refl _)), trivial⟩) ?_
    obtain ⟨r142, h143, hx⟩ := bind_some' hx
    refine w_call rfl rfl (hM.callO (l := []) fun X S oL hS hR hO => ct_laws_toPart _ X S (el a i118.toNat) s140 hS (hR _ (.head _)) oL h143) ?_
    rintro _ w144 ⟨s145, rfl, hM⟩
    replace hM : St ⟨w, X, S⟩ [oC (cSl 1 fI r142.signs) s145.v, oC (cSl 3 fDPart l119) s109.v] [rV s140.v (cSl 1 fI ((el a i118.toNat).signs)), rV s_a.v (cSl 3 fDPart a)] _ := hM
    obtain ⟨hg149, hx⟩ := xg_some hx
    have hi148 : i118.toNat < l119.length := by omega
    refine wv rfl (r_ixC Try.underlying33 sz105 rfl rfl (hM.seeO (.tail _ (.head _))) hg149) ?_
    replace hM := hM.p1
    refine w_exu (x_stE (f := fDPart) (k := 3) (L := l119) (i := i118.toNat) (j := 0) r142 [cI r142.kind, cI r142.n, cSl 1 fI r142.signs] sz105 (fun _ => rfl) rfl rfl hi148 rfl rfl rfl rfl rfl (fun _ => zP (pV _ rfl) (zP (pV _ rfl) (zO zN))) hM ?_); intro w150 hM
    refine wl_nil ?_
    refine bk_n ?_
    refine sq_n ?_
    refine wc_region ?_
    refine wv rfl (r_move rfl) ?_
    obtain ⟨hg154, hx⟩ := xg_some hx
    refine wv rfl (r_add rfl rfl hg154) ?_
    refine wv rfl (r_assign rfl) ?_
    refine wl_nil ?_
    obtain rfl := Option.some.inj hx
    have hM := hM.fewer (rsC (.tail _ (.head _)) rsN)
    replace hM : St ⟨w, X, S⟩ [oC (cSl 3 fDPart (l119.set i118.toNat r142)) s109.v] [rV s_a.v (cSl 3 fDPart a)] _ := hM
    exact lp_end (m124, i118 + 1, l119.set i118.toNat r142) (Nat.lt_succ_self _) ⟨rfl, rfl, rfl, trivial⟩ ⟨hM, hx126⟩
  · replace hx := xif_f hc131 hx
    refine wc_exit ?_
    refine sq_exit ?_
    refine lp1_exit ?_
    obtain rfl := Option.some.inj hx
    obtain rfl := Option.some.inj hx126
    replace hx := hx117
    try dsimp only [Sum.elim_inl, Sum.elim_inr] at hx
    refine bk_here ?_
    refine sq_n ?_
    refine wc_seq ?_
    refine wc_region ?_
    refine wv rfl (r_move rfl) ?_
    refine wv rfl (r_assign rfl) ?_
    refine wl_nil ?_
    refine sq_n ?_
    refine wc_ret ?_
    obtain rfl := Option.some.inj hx
    refine fin_ret [s109.v] ⟨rfl, trivial⟩ ?_
    replace hM := hM.t1
    have hM := hM.fewer rsN
    exact ⟨s109, rfl, hM.gives⟩

noncomputable def x_laws_toEntry (a : DEntry) : Option DEntry :=
  Option.bind (x_laws_toPartS a.o) fun r25 => some (⟨a.client, a.seq, r25⟩ : DEntry)
theorem ct_laws_toEntry (w : World) (X S : Bs) (a : DEntry) (s_a_2 : Sv) (hS : ∀ b, S b → b < w.heap.size ∧ ¬ X b) (a_a_2 : (cSl 3 fDPart a.o).rd S w s_a_2.v) (oL : Sep [] X w) {r : DEntry} (hx : x_laws_toEntry a = some r) :
    Ret Try.prog 64 [(.agg #[(.int .i64 a.client), (.int .i64 a.seq), s_a_2.v])] w (fun u w' => ∃ y : Sv, u = .agg #[(.int .i64 r.client), (.int .i64 r.seq), y.v] ∧ Gives X S w [oC (cSl 3 fDPart r.o) y.v] [] w') := by
  unfold x_laws_toEntry at hx
  refine enter Try.func64 rfl Try.ntmps64 (by kernel_rfl) rfl ?_
  have hM := St.enter oL hS
  have hM := hM.addE (r := rV s_a_2.v (cSl 3 fDPart a.o)) a_a_2
  refine wc_seq ?_
  refine wc_region ?_
  refine w_ex rfl (x_box rfl hM ?_); intro b37 w36 hR38 hM
  replace hM : St ⟨w, X, S⟩ [oBox b37 #[(.int .i64 a.client), (.int .i64 a.seq), s_a_2.v] 94] [rV s_a_2.v (cSl 3 fDPart a.o)] _ := hM
  refine w_ex rfl (x_alloc sz73 hM ?_); intro b41 w40 hR42 hM
  replace hM : St ⟨w, X, S⟩ [oBox b41 #[(.int .i64 0), (.int .i64 0), (.slice none 0 0)] 73, oBox b37 #[(.int .i64 a.client), (.int .i64 a.seq), s_a_2.v] 94] [rV s_a_2.v (cSl 3 fDPart a.o)] _ := hM
  refine wl_nil ?_
  refine sq_n ?_
  refine wc_seq ?_
  refine wc_region ?_
  refine w_ex rfl (x_alloc sz73 hM ?_); intro b45 w44 hR46 hM
  replace hM : St ⟨w, X, S⟩ [oBox b45 #[(.int .i64 0), (.int .i64 0), (.slice none 0 0)] 73, oBox b41 #[(.int .i64 0), (.int .i64 0), (.slice none 0 0)] 73, oBox b37 #[(.int .i64 a.client), (.int .i64 a.seq), s_a_2.v] 94] [rV s_a_2.v (cSl 3 fDPart a.o)] _ := hM
  refine wl_nil ?_
  refine sq_n ?_
  refine wc_seq ?_
  refine wc_region ?_
  refine wv rfl (r_fld Try.underlying94 rfl rfl sz3 rfl) ?_
  refine wv rfl (r_ldB Try.underlying3 rfl rfl hM (.tail _ (.tail _ (.head _))) rfl) ?_
  refine wv rfl (r_fld Try.underlying73 rfl rfl sz3 rfl) ?_
  refine w_exu (x_stB #[(.int .i64 a.client), (.int .i64 0), (.slice none 0 0)] sz3 rfl rfl rfl rfl rfl rfl hM ?_); intro w51 hM
  refine wl_nil ?_
  refine sq_n ?_
  refine wc_seq ?_
  refine wc_region ?_
  refine wv rfl (r_fld Try.underlying94 rfl rfl sz3 rfl) ?_
  refine wv rfl (r_ldB Try.underlying3 rfl rfl hM (.tail _ (.tail _ (.head _))) rfl) ?_
  refine wv rfl (r_fld Try.underlying73 rfl rfl sz3 rfl) ?_
  refine w_exu (x_stB #[(.int .i64 a.client), (.int .i64 a.seq), (.slice none 0 0)] sz3 rfl rfl rfl rfl rfl rfl hM ?_); intro w56 hM
  refine wl_nil ?_
  refine sq_n ?_
  refine wc_seq ?_
  refine wc_region ?_
  refine wv rfl (r_fld Try.underlying94 rfl rfl sz22 rfl) ?_
  refine wv rfl (r_ldB Try.underlying22 rfl rfl hM (.tail _ (.tail _ (.head _))) rfl) ?_
  obtain ⟨r60, h61, hx⟩ := bind_some' hx
  refine w_call rfl rfl (hM.callO (l := []) fun X S oL hS hR hO => ct_laws_toPartS _ X S a.o s_a_2 hS (hR _ (.head _)) oL h61) ?_
  rintro _ w62 ⟨s63, rfl, hM⟩
  replace hM : St ⟨w, X, S⟩ [oC (cSl 3 fDPart r60) s63.v, oBox b45 #[(.int .i64 a.client), (.int .i64 a.seq), (.slice none 0 0)] 73, oBox b41 #[(.int .i64 0), (.int .i64 0), (.slice none 0 0)] 73, oBox b37 #[(.int .i64 a.client), (.int .i64 a.seq), s_a_2.v] 94] [rV s_a_2.v (cSl 3 fDPart a.o)] _ := hM
  refine wv rfl (r_fld Try.underlying73 rfl rfl sz33 rfl) ?_
  replace hM := hM.p1
  refine w_exu (x_stB #[(.int .i64 a.client), (.int .i64 a.seq), s63.v] sz33 rfl rfl rfl rfl rfl rfl hM ?_); intro w66 hM
  refine wl_nil ?_
  refine sq_n ?_
  refine wc_seq ?_
  refine wc_region ?_
  refine wv rfl (r_ldBS Try.underlying73 sz73 rfl (us := [(.int .i64 a.client), (.int .i64 a.seq), s63.v]) rfl hM (.head _) rfl) ?_
  replace hM := hM.p2
  refine w_exu (x_stB #[(.int .i64 a.client), (.int .i64 a.seq), s63.v] sz73 rfl rfl rfl rfl rfl rfl hM ?_); intro w69 hM
  refine wl_nil ?_
  refine sq_n ?_
  refine wc_ret ?_
  obtain rfl := Option.some.inj hx
  refine fin_ret [(.agg #[(.int .i64 a.client), (.int .i64 a.seq), s63.v])] ⟨rv_box Try.underlying73 sz73 rfl rfl hM (.head _), trivial⟩ ?_
  replace hM := hM.p2
  replace hM := hM.t1
  have hM := hM.fewer rsN
  exact ⟨s63, rfl, hM.gives⟩

noncomputable def x_laws_toEntryS_b0 (a : List DEntry) (i41 : Int) (l42 : List DEntry) : Option (Lr (Int × List DEntry) (List DEntry)) :=
  bif decide (i41 < (a.length : Int)) then (xg (0 ≤ i41 ∧ i41 < (a.length : Int)) <| Option.bind (x_laws_toEntry (el a i41.toNat)) fun r86 => xg (0 ≤ i41 ∧ i41 < (l42.length : Int)) <| xg (inI (i41 + 1)) <| some (Lr.go (i41 + 1, l42.set i41.toNat r86))) else (some (Lr.out l42))
noncomputable def x_laws_toEntryS_f0 (a : List DEntry) (s100 : Int × List DEntry) : Option (Lr (Int × List DEntry) (List DEntry)) := x_laws_toEntryS_b0 a s100.1 s100.2
noncomputable def x_laws_toEntryS (a : List DEntry) : Option (List DEntry) :=
  xg (0 ≤ (a.length : Int) ∧ (a.length : Int) ≤ 1099511627776) <| Option.bind (iter (x_laws_toEntryS_f0 a) (0, List.replicate ((a.length : Int).toNat) (default : DEntry))) fun (y101 : List DEntry) => some y101
theorem ct_laws_toEntryS (w : World) (X S : Bs) (a : List DEntry) (s_a : Sv) (hS : ∀ b, S b → b < w.heap.size ∧ ¬ X b) (a_a_0 : (cSl 3 fDEntry a).rd S w s_a.v) (oL : Sep [] X w) {r : List DEntry} (hx : x_laws_toEntryS a = some r) :
    Ret Try.prog 38 [s_a.v] w (fun u w' => ∃ y : Sv, u = y.v ∧ Gives X S w [oC (cSl 3 fDEntry r) y.v] [] w') := by
  unfold x_laws_toEntryS at hx
  refine enter Try.func38 rfl Try.ntmps38 (by kernel_rfl) rfl ?_
  have hM := St.enter oL hS
  have hM := hM.addE (r := rV s_a.v (cSl 3 fDEntry a)) a_a_0
  refine wc_seq ?_
  refine wc_region ?_
  refine wv rfl (r_assign rfl) ?_
  refine wl_nil ?_
  refine sq_n ?_
  refine wc_seq ?_
  refine wc_region ?_
  refine wv rfl (r_move rfl) ?_
  refine wv rfl (r_lenC Try.underlying26 rfl (hM.seeR (.head _))) ?_
  obtain ⟨hg110, hx⟩ := xg_some hx
  have hk111 : (a.length : Int) = ((a.length : Int).toNat : Int) := by omega
  refine w_ex rfl (x_make (f := fDEntry) (k := ((a.length : Int).toNat)) (default : DEntry) Try.underlying36 sz73 (fun _ => rfl) (fun _ => zP (pV _ rfl) (zP (pV _ rfl) (zP (pN _ _) zN))) (by rw [← hk111]; rfl) (by omega) rfl hM ?_); intro s109 w108 hR112 hM
  refine wv rfl (r_assign rfl) ?_
  refine wl_nil ?_
  refine sq_n ?_
  refine wc_seq ?_
  refine wc_seq ?_
  refine wc_region ?_
  refine wv rfl (r_assign rfl) ?_
  refine wl_nil ?_
  refine sq_n ?_
  refine wc_block ?_
  obtain ⟨y116, hx, hx117⟩ := bind_some' hx
  obtain ⟨m122, hx⟩ := iter_run hx
  refine wc_loop (un fun (m120 : Nat) => un fun (i118 : Int) => fun (l119 : List DEntry) => [(0, s_a.v), (3, s109.v), (4, (.int .i64 i118))]) (un fun (m120 : Nat) => un fun (i118 : Int) => fun (l119 : List DEntry) w' => St ⟨w, X, S⟩ [oC (cSl 3 fDEntry l119) s109.v] [rV s_a.v (cSl 3 fDEntry a)] w' ∧ iterN _ m120 (i118, l119) = some y116) (fun p => p.1) (m122, 0, List.replicate ((a.length : Int).toNat) (default : DEntry)) ⟨rfl, rfl, rfl, trivial⟩ ⟨hM, hx⟩ ?_
  rintro ⟨m120, i118, l119⟩ w123 ⟨hM, hx⟩
  obtain ⟨m124, z125, rfl, hx, hx126⟩ := iterN_step hx
  unfold x_laws_toEntryS_f0 x_laws_toEntryS_b0 at hx
  try dsimp only at hx
  refine wc_seq ?_
  refine wc_seq ?_
  refine wc_region ?_
  refine wv rfl (r_move rfl) ?_
  refine wv rfl (r_move rfl) ?_
  refine wv rfl (r_lenC Try.underlying26 rfl (hM.seeR (.head _))) ?_
  refine wv rfl (r_lss rfl rfl) ?_
  refine wl_nil ?_
  refine sq_n ?_
  refine wc_cond rfl (fun hc131 => ?_) (fun hc131 => ?_)
  · replace hx := xif_t hc131 hx
    refine wc_skip ?_
    refine sq_n ?_
    refine wc_seq ?_
    refine wc_block ?_
    refine wc_region ?_
    refine wv rfl (r_move rfl) ?_
    refine wv rfl (r_move rfl) ?_
    refine wv rfl (r_move rfl) ?_
    refine wv rfl (r_move rfl) ?_
    obtain ⟨hg138, hx⟩ := xg_some hx
    have hi137 : i118.toNat < a.length := by omega
    refine wv rfl (r_ixC Try.underlying26 sz94 rfl rfl (hM.seeR (.head _)) hg138) ?_
    obtain ⟨s140, hM, hc141⟩ := hM.leaf (i := i118.toNat) (j := 2) (.head _) (fun _ => rfl) hi137 rfl
    refine wv rfl (r_ldC (o := i118.toNat * 3) Try.underlying94 sz94 rfl (us := [(.int .i64 ((el a i118.toNat).client)), (.int .i64 ((el a i118.toNat).seq)), s140.v]) rfl (hM.seeR (.tail _ (.head _))) hi137 ⟨(Cs.get (i := i118.toNat) (j := 0) (hM.seeR (.tail _ (.head _))) (fun _ => rfl) hi137 rfl), (Cs.get (i := i118.toNat) (j := 1) (hM.seeR (.tail _ (.head _))) (fun _ => rfl) hi137 rfl), (hc141 _ (Rel.refl _)), trivial⟩) ?_
    obtain ⟨r142, h143, hx⟩ := bind_some' hx
    refine w_call rfl rfl (hM.callO (l := []) fun X S oL hS hR hO => ct_laws_toEntry _ X S (el a i118.toNat) s140 hS (hR _ (.head _)) oL h143) ?_
    rintro _ w144 ⟨s145, rfl, hM⟩
    replace hM : St ⟨w, X, S⟩ [oC (cSl 3 fDPart r142.o) s145.v, oC (cSl 3 fDEntry l119) s109.v] [rV s140.v (cSl 3 fDPart ((el a i118.toNat).o)), rV s_a.v (cSl 3 fDEntry a)] _ := hM
    obtain ⟨hg149, hx⟩ := xg_some hx
    have hi148 : i118.toNat < l119.length := by omega
    refine wv rfl (r_ixC Try.underlying36 sz73 rfl rfl (hM.seeO (.tail _ (.head _))) hg149) ?_
    replace hM := hM.p1
    refine w_exu (x_stE (f := fDEntry) (k := 3) (L := l119) (i := i118.toNat) (j := 0) r142 [cI r142.client, cI r142.seq, cSl 3 fDPart r142.o] sz73 (fun _ => rfl) rfl rfl hi148 rfl rfl rfl rfl rfl (fun _ => zP (pV _ rfl) (zP (pV _ rfl) (zO zN))) hM ?_); intro w150 hM
    refine wl_nil ?_
    refine bk_n ?_
    refine sq_n ?_
    refine wc_region ?_
    refine wv rfl (r_move rfl) ?_
    obtain ⟨hg154, hx⟩ := xg_some hx
    refine wv rfl (r_add rfl rfl hg154) ?_
    refine wv rfl (r_assign rfl) ?_
    refine wl_nil ?_
    obtain rfl := Option.some.inj hx
    have hM := hM.fewer (rsC (.tail _ (.head _)) rsN)
    replace hM : St ⟨w, X, S⟩ [oC (cSl 3 fDEntry (l119.set i118.toNat r142)) s109.v] [rV s_a.v (cSl 3 fDEntry a)] _ := hM
    exact lp_end (m124, i118 + 1, l119.set i118.toNat r142) (Nat.lt_succ_self _) ⟨rfl, rfl, rfl, trivial⟩ ⟨hM, hx126⟩
  · replace hx := xif_f hc131 hx
    refine wc_exit ?_
    refine sq_exit ?_
    refine lp1_exit ?_
    obtain rfl := Option.some.inj hx
    obtain rfl := Option.some.inj hx126
    replace hx := hx117
    try dsimp only [Sum.elim_inl, Sum.elim_inr] at hx
    refine bk_here ?_
    refine sq_n ?_
    refine wc_seq ?_
    refine wc_region ?_
    refine wv rfl (r_move rfl) ?_
    refine wv rfl (r_assign rfl) ?_
    refine wl_nil ?_
    refine sq_n ?_
    refine wc_ret ?_
    obtain rfl := Option.some.inj hx
    refine fin_ret [s109.v] ⟨rfl, trivial⟩ ?_
    replace hM := hM.t1
    have hM := hM.fewer rsN
    exact ⟨s109, rfl, hM.gives⟩

noncomputable def x_laws_toSeen (a : DSeen) : Option DSeen :=
  some a
theorem ct_laws_toSeen (w : World) (X S : Bs) (a : DSeen) (hS : ∀ b, S b → b < w.heap.size ∧ ¬ X b)  (oL : Sep [] X w) {r : DSeen} (hx : x_laws_toSeen a = some r) :
    Ret Try.prog 65 [(.agg #[(.int .i64 a.client), (.int .i64 a.seq), (.int .i64 a.rev)])] w (fun u w' => ∃ _ : Unit, u = .agg #[(.int .i64 r.client), (.int .i64 r.seq), (.int .i64 r.rev)] ∧ Gives X S w [] [] w') := by
  unfold x_laws_toSeen at hx
  refine enter Try.func65 rfl Try.ntmps65 (by kernel_rfl) rfl ?_
  have hM := St.enter oL hS
  refine wc_seq ?_
  refine wc_region ?_
  refine w_ex rfl (x_box rfl hM ?_); intro b32 w31 hR33 hM
  replace hM : St ⟨w, X, S⟩ [oBox b32 #[(.int .i64 a.client), (.int .i64 a.seq), (.int .i64 a.rev)] 108] [] _ := hM
  refine w_ex rfl (x_alloc sz76 hM ?_); intro b36 w35 hR37 hM
  replace hM : St ⟨w, X, S⟩ [oBox b36 #[(.int .i64 0), (.int .i64 0), (.int .i64 0)] 76, oBox b32 #[(.int .i64 a.client), (.int .i64 a.seq), (.int .i64 a.rev)] 108] [] _ := hM
  refine wl_nil ?_
  refine sq_n ?_
  refine wc_seq ?_
  refine wc_region ?_
  refine w_ex rfl (x_alloc sz76 hM ?_); intro b40 w39 hR41 hM
  replace hM : St ⟨w, X, S⟩ [oBox b40 #[(.int .i64 0), (.int .i64 0), (.int .i64 0)] 76, oBox b36 #[(.int .i64 0), (.int .i64 0), (.int .i64 0)] 76, oBox b32 #[(.int .i64 a.client), (.int .i64 a.seq), (.int .i64 a.rev)] 108] [] _ := hM
  refine wl_nil ?_
  refine sq_n ?_
  refine wc_seq ?_
  refine wc_region ?_
  refine wv rfl (r_fld Try.underlying108 rfl rfl sz3 rfl) ?_
  refine wv rfl (r_ldB Try.underlying3 rfl rfl hM (.tail _ (.tail _ (.head _))) rfl) ?_
  refine wv rfl (r_fld Try.underlying76 rfl rfl sz3 rfl) ?_
  refine w_exu (x_stB #[(.int .i64 a.client), (.int .i64 0), (.int .i64 0)] sz3 rfl rfl rfl rfl rfl rfl hM ?_); intro w46 hM
  refine wl_nil ?_
  refine sq_n ?_
  refine wc_seq ?_
  refine wc_region ?_
  refine wv rfl (r_fld Try.underlying108 rfl rfl sz3 rfl) ?_
  refine wv rfl (r_ldB Try.underlying3 rfl rfl hM (.tail _ (.tail _ (.head _))) rfl) ?_
  refine wv rfl (r_fld Try.underlying76 rfl rfl sz3 rfl) ?_
  refine w_exu (x_stB #[(.int .i64 a.client), (.int .i64 a.seq), (.int .i64 0)] sz3 rfl rfl rfl rfl rfl rfl hM ?_); intro w51 hM
  refine wl_nil ?_
  refine sq_n ?_
  refine wc_seq ?_
  refine wc_region ?_
  refine wv rfl (r_fld Try.underlying108 rfl rfl sz3 rfl) ?_
  refine wv rfl (r_ldB Try.underlying3 rfl rfl hM (.tail _ (.tail _ (.head _))) rfl) ?_
  refine wv rfl (r_fld Try.underlying76 rfl rfl sz3 rfl) ?_
  refine w_exu (x_stB #[(.int .i64 a.client), (.int .i64 a.seq), (.int .i64 a.rev)] sz3 rfl rfl rfl rfl rfl rfl hM ?_); intro w56 hM
  refine wl_nil ?_
  refine sq_n ?_
  refine wc_seq ?_
  refine wc_region ?_
  refine wv rfl (r_ldBS Try.underlying76 sz76 rfl (us := [(.int .i64 a.client), (.int .i64 a.seq), (.int .i64 a.rev)]) rfl hM (.head _) rfl) ?_
  replace hM := hM.p1
  refine w_exu (x_stB #[(.int .i64 a.client), (.int .i64 a.seq), (.int .i64 a.rev)] sz76 rfl rfl rfl rfl rfl rfl hM ?_); intro w59 hM
  refine wl_nil ?_
  refine sq_n ?_
  refine wc_ret ?_
  obtain rfl := Option.some.inj hx
  refine fin_ret [(.agg #[(.int .i64 a.client), (.int .i64 a.seq), (.int .i64 a.rev)])] ⟨rv_box Try.underlying76 sz76 rfl rfl hM (.head _), trivial⟩ ?_
  replace hM := hM.t0
  have hM := hM.fewer rsN
  exact ⟨(), rfl, hM.gives⟩

noncomputable def x_laws_toSeenS_b0 (a : List DSeen) (i38 : Int) (l39 : List DSeen) : Option (Lr (Int × List DSeen) (List DSeen)) :=
  bif decide (i38 < (a.length : Int)) then (xg (0 ≤ i38 ∧ i38 < (a.length : Int)) <| Option.bind (x_laws_toSeen (el a i38.toNat)) fun r78 => xg (0 ≤ i38 ∧ i38 < (l39.length : Int)) <| xg (inI (i38 + 1)) <| some (Lr.go (i38 + 1, l39.set i38.toNat r78))) else (some (Lr.out l39))
noncomputable def x_laws_toSeenS_f0 (a : List DSeen) (s91 : Int × List DSeen) : Option (Lr (Int × List DSeen) (List DSeen)) := x_laws_toSeenS_b0 a s91.1 s91.2
noncomputable def x_laws_toSeenS (a : List DSeen) : Option (List DSeen) :=
  xg (0 ≤ (a.length : Int) ∧ (a.length : Int) ≤ 1099511627776) <| Option.bind (iter (x_laws_toSeenS_f0 a) (0, List.replicate ((a.length : Int).toNat) (default : DSeen))) fun (y92 : List DSeen) => some y92
theorem ct_laws_toSeenS (w : World) (X S : Bs) (a : List DSeen) (s_a : Sv) (hS : ∀ b, S b → b < w.heap.size ∧ ¬ X b) (a_a_0 : (cSl 3 fDSeen a).rd S w s_a.v) (oL : Sep [] X w) {r : List DSeen} (hx : x_laws_toSeenS a = some r) :
    Ret Try.prog 39 [s_a.v] w (fun u w' => ∃ y : Sv, u = y.v ∧ Gives X S w [oC (cSl 3 fDSeen r) y.v] [] w') := by
  unfold x_laws_toSeenS at hx
  refine enter Try.func39 rfl Try.ntmps39 (by kernel_rfl) rfl ?_
  have hM := St.enter oL hS
  have hM := hM.addE (r := rV s_a.v (cSl 3 fDSeen a)) a_a_0
  refine wc_seq ?_
  refine wc_region ?_
  refine wv rfl (r_assign rfl) ?_
  refine wl_nil ?_
  refine sq_n ?_
  refine wc_seq ?_
  refine wc_region ?_
  refine wv rfl (r_move rfl) ?_
  refine wv rfl (r_lenC Try.underlying44 rfl (hM.seeR (.head _))) ?_
  obtain ⟨hg101, hx⟩ := xg_some hx
  have hk102 : (a.length : Int) = ((a.length : Int).toNat : Int) := by omega
  refine w_ex rfl (x_make (f := fDSeen) (k := ((a.length : Int).toNat)) (default : DSeen) Try.underlying51 sz76 (fun _ => rfl) (fun _ => zP (pV _ rfl) (zP (pV _ rfl) (zP (pV _ rfl) zN))) (by rw [← hk102]; rfl) (by omega) rfl hM ?_); intro s100 w99 hR103 hM
  refine wv rfl (r_assign rfl) ?_
  refine wl_nil ?_
  refine sq_n ?_
  refine wc_seq ?_
  refine wc_seq ?_
  refine wc_region ?_
  refine wv rfl (r_assign rfl) ?_
  refine wl_nil ?_
  refine sq_n ?_
  refine wc_block ?_
  obtain ⟨y107, hx, hx108⟩ := bind_some' hx
  obtain ⟨m113, hx⟩ := iter_run hx
  refine wc_loop (un fun (m111 : Nat) => un fun (i109 : Int) => fun (l110 : List DSeen) => [(0, s_a.v), (3, s100.v), (4, (.int .i64 i109))]) (un fun (m111 : Nat) => un fun (i109 : Int) => fun (l110 : List DSeen) w' => St ⟨w, X, S⟩ [oC (cSl 3 fDSeen l110) s100.v] [rV s_a.v (cSl 3 fDSeen a)] w' ∧ iterN _ m111 (i109, l110) = some y107) (fun p => p.1) (m113, 0, List.replicate ((a.length : Int).toNat) (default : DSeen)) ⟨rfl, rfl, rfl, trivial⟩ ⟨hM, hx⟩ ?_
  rintro ⟨m111, i109, l110⟩ w114 ⟨hM, hx⟩
  obtain ⟨m115, z116, rfl, hx, hx117⟩ := iterN_step hx
  unfold x_laws_toSeenS_f0 x_laws_toSeenS_b0 at hx
  try dsimp only at hx
  refine wc_seq ?_
  refine wc_seq ?_
  refine wc_region ?_
  refine wv rfl (r_move rfl) ?_
  refine wv rfl (r_move rfl) ?_
  refine wv rfl (r_lenC Try.underlying44 rfl (hM.seeR (.head _))) ?_
  refine wv rfl (r_lss rfl rfl) ?_
  refine wl_nil ?_
  refine sq_n ?_
  refine wc_cond rfl (fun hc122 => ?_) (fun hc122 => ?_)
  · replace hx := xif_t hc122 hx
    refine wc_skip ?_
    refine sq_n ?_
    refine wc_seq ?_
    refine wc_block ?_
    refine wc_region ?_
    refine wv rfl (r_move rfl) ?_
    refine wv rfl (r_move rfl) ?_
    refine wv rfl (r_move rfl) ?_
    refine wv rfl (r_move rfl) ?_
    obtain ⟨hg129, hx⟩ := xg_some hx
    have hi128 : i109.toNat < a.length := by omega
    refine wv rfl (r_ixC Try.underlying44 sz108 rfl rfl (hM.seeR (.head _)) hg129) ?_
    refine wv rfl (r_ldC (o := i109.toNat * 3) Try.underlying108 sz108 rfl (us := [(.int .i64 ((el a i109.toNat).client)), (.int .i64 ((el a i109.toNat).seq)), (.int .i64 ((el a i109.toNat).rev))]) rfl (hM.seeR (.head _)) hi128 ⟨(Cs.get (i := i109.toNat) (j := 0) (hM.seeR (.head _)) (fun _ => rfl) hi128 rfl), (Cs.get (i := i109.toNat) (j := 1) (hM.seeR (.head _)) (fun _ => rfl) hi128 rfl), (Cs.get (i := i109.toNat) (j := 2) (hM.seeR (.head _)) (fun _ => rfl) hi128 rfl), trivial⟩) ?_
    obtain ⟨r131, h132, hx⟩ := bind_some' hx
    refine w_call rfl rfl (hM.callV fun X S oL hS hR hO => ct_laws_toSeen _ X S (el a i109.toNat) hS  oL h132) ?_
    rintro _ w133 ⟨rfl, hR134⟩
    have hM := hM.call hR134
    obtain ⟨hg137, hx⟩ := xg_some hx
    have hi136 : i109.toNat < l110.length := by omega
    refine wv rfl (r_ixC Try.underlying51 sz76 rfl rfl (hM.seeO (.head _)) hg137) ?_
    refine w_exu (x_stE (f := fDSeen) (k := 3) (L := l110) (i := i109.toNat) (j := 0) r131 [cI r131.client, cI r131.seq, cI r131.rev] sz76 (fun _ => rfl) rfl rfl hi136 rfl rfl rfl rfl rfl (fun _ => zP (pV _ rfl) (zP (pV _ rfl) (zP (pV _ rfl) zN))) hM ?_); intro w138 hM
    refine wl_nil ?_
    refine bk_n ?_
    refine sq_n ?_
    refine wc_region ?_
    refine wv rfl (r_move rfl) ?_
    obtain ⟨hg142, hx⟩ := xg_some hx
    refine wv rfl (r_add rfl rfl hg142) ?_
    refine wv rfl (r_assign rfl) ?_
    refine wl_nil ?_
    obtain rfl := Option.some.inj hx
    exact lp_end (m115, i109 + 1, l110.set i109.toNat r131) (Nat.lt_succ_self _) ⟨rfl, rfl, rfl, trivial⟩ ⟨hM, hx117⟩
  · replace hx := xif_f hc122 hx
    refine wc_exit ?_
    refine sq_exit ?_
    refine lp1_exit ?_
    obtain rfl := Option.some.inj hx
    obtain rfl := Option.some.inj hx117
    replace hx := hx108
    try dsimp only [Sum.elim_inl, Sum.elim_inr] at hx
    refine bk_here ?_
    refine sq_n ?_
    refine wc_seq ?_
    refine wc_region ?_
    refine wv rfl (r_move rfl) ?_
    refine wv rfl (r_assign rfl) ?_
    refine wl_nil ?_
    refine sq_n ?_
    refine wc_ret ?_
    obtain rfl := Option.some.inj hx
    refine fin_ret [s100.v] ⟨rfl, trivial⟩ ?_
    replace hM := hM.t1
    have hM := hM.fewer rsN
    exact ⟨s100, rfl, hM.gives⟩

noncomputable def x_laws_toDoc (a : DDoc) : Option DDoc :=
  Option.bind (x_laws_toIntS a.text) fun r25 => Option.bind (x_laws_toEntryS a.list) fun r35 => Option.bind (x_laws_toSeenS a.seen) fun r45 => some (⟨a.name, a.from_, r25, r35, r45⟩ : DDoc)
theorem ct_laws_toDoc (w : World) (X S : Bs) (a : DDoc) (s_a_2 : Sv) (s_a_3 : Sv) (s_a_4 : Sv) (hS : ∀ b, S b → b < w.heap.size ∧ ¬ X b) (a_a_2 : (cSl 1 fI a.text).rd S w s_a_2.v) (a_a_3 : (cSl 3 fDEntry a.list).rd S w s_a_3.v) (a_a_4 : (cSl 3 fDSeen a.seen).rd S w s_a_4.v) (oL : Sep [] X w) {r : DDoc} (hx : x_laws_toDoc a = some r) :
    Ret Try.prog 12 [(.agg #[(.string a.name), (.int .i64 a.from_), s_a_2.v, s_a_3.v, s_a_4.v])] w (fun u w' => ∃ y : Sv × Sv × Sv, u = .agg #[(.string r.name), (.int .i64 r.from_), y.1.v, y.2.1.v, y.2.2.v] ∧ Gives X S w [oC (cSl 1 fI r.text) y.1.v, oC (cSl 3 fDEntry r.list) y.2.1.v, oC (cSl 3 fDSeen r.seen) y.2.2.v] [] w') := by
  unfold x_laws_toDoc at hx
  refine enter Try.func12 rfl Try.ntmps12 (by kernel_rfl) rfl ?_
  have hM := St.enter oL hS
  have hM := hM.addE (r := rV s_a_2.v (cSl 1 fI a.text)) a_a_2
  have hM := hM.addE (r := rV s_a_3.v (cSl 3 fDEntry a.list)) a_a_3
  have hM := hM.addE (r := rV s_a_4.v (cSl 3 fDSeen a.seen)) a_a_4
  refine wc_seq ?_
  refine wc_region ?_
  refine w_ex rfl (x_box rfl hM ?_); intro b57 w56 hR58 hM
  replace hM : St ⟨w, X, S⟩ [oBox b57 #[(.string a.name), (.int .i64 a.from_), s_a_2.v, s_a_3.v, s_a_4.v] 46] [rV s_a_4.v (cSl 3 fDSeen a.seen), rV s_a_3.v (cSl 3 fDEntry a.list), rV s_a_2.v (cSl 1 fI a.text)] _ := hM
  refine w_ex rfl (x_alloc sz53 hM ?_); intro b61 w60 hR62 hM
  replace hM : St ⟨w, X, S⟩ [oBox b61 #[(.string ByteArray.empty), (.int .i64 0), (.slice none 0 0), (.slice none 0 0), (.slice none 0 0)] 53, oBox b57 #[(.string a.name), (.int .i64 a.from_), s_a_2.v, s_a_3.v, s_a_4.v] 46] [rV s_a_4.v (cSl 3 fDSeen a.seen), rV s_a_3.v (cSl 3 fDEntry a.list), rV s_a_2.v (cSl 1 fI a.text)] _ := hM
  refine wl_nil ?_
  refine sq_n ?_
  refine wc_seq ?_
  refine wc_region ?_
  refine w_ex rfl (x_alloc sz53 hM ?_); intro b65 w64 hR66 hM
  replace hM : St ⟨w, X, S⟩ [oBox b65 #[(.string ByteArray.empty), (.int .i64 0), (.slice none 0 0), (.slice none 0 0), (.slice none 0 0)] 53, oBox b61 #[(.string ByteArray.empty), (.int .i64 0), (.slice none 0 0), (.slice none 0 0), (.slice none 0 0)] 53, oBox b57 #[(.string a.name), (.int .i64 a.from_), s_a_2.v, s_a_3.v, s_a_4.v] 46] [rV s_a_4.v (cSl 3 fDSeen a.seen), rV s_a_3.v (cSl 3 fDEntry a.list), rV s_a_2.v (cSl 1 fI a.text)] _ := hM
  refine wl_nil ?_
  refine sq_n ?_
  refine wc_seq ?_
  refine wc_region ?_
  refine wv rfl (r_fld Try.underlying46 rfl rfl sz9 rfl) ?_
  refine wv rfl (r_ldB Try.underlying9 rfl rfl hM (.tail _ (.tail _ (.head _))) rfl) ?_
  refine wv rfl (r_fld Try.underlying53 rfl rfl sz9 rfl) ?_
  refine w_exu (x_stB #[(.string a.name), (.int .i64 0), (.slice none 0 0), (.slice none 0 0), (.slice none 0 0)] sz9 rfl rfl rfl rfl rfl rfl hM ?_); intro w71 hM
  refine wl_nil ?_
  refine sq_n ?_
  refine wc_seq ?_
  refine wc_region ?_
  refine wv rfl (r_fld Try.underlying46 rfl rfl sz3 rfl) ?_
  refine wv rfl (r_ldB Try.underlying3 rfl rfl hM (.tail _ (.tail _ (.head _))) rfl) ?_
  refine wv rfl (r_fld Try.underlying53 rfl rfl sz3 rfl) ?_
  refine w_exu (x_stB #[(.string a.name), (.int .i64 a.from_), (.slice none 0 0), (.slice none 0 0), (.slice none 0 0)] sz3 rfl rfl rfl rfl rfl rfl hM ?_); intro w76 hM
  refine wl_nil ?_
  refine sq_n ?_
  refine wc_seq ?_
  refine wc_region ?_
  refine wv rfl (r_fld Try.underlying46 rfl rfl sz23 rfl) ?_
  refine wv rfl (r_ldB Try.underlying23 rfl rfl hM (.tail _ (.tail _ (.head _))) rfl) ?_
  obtain ⟨r80, h81, hx⟩ := bind_some' hx
  refine w_call rfl rfl (hM.callO (l := []) fun X S oL hS hR hO => ct_laws_toIntS _ X S a.text s_a_2 hS (hR _ (.tail _ (.tail _ (.head _)))) oL h81) ?_
  rintro _ w82 ⟨s83, rfl, hM⟩
  replace hM : St ⟨w, X, S⟩ [oC (cSl 1 fI r80) s83.v, oBox b65 #[(.string a.name), (.int .i64 a.from_), (.slice none 0 0), (.slice none 0 0), (.slice none 0 0)] 53, oBox b61 #[(.string ByteArray.empty), (.int .i64 0), (.slice none 0 0), (.slice none 0 0), (.slice none 0 0)] 53, oBox b57 #[(.string a.name), (.int .i64 a.from_), s_a_2.v, s_a_3.v, s_a_4.v] 46] [rV s_a_4.v (cSl 3 fDSeen a.seen), rV s_a_3.v (cSl 3 fDEntry a.list), rV s_a_2.v (cSl 1 fI a.text)] _ := hM
  refine wv rfl (r_fld Try.underlying53 rfl rfl sz23 rfl) ?_
  replace hM := hM.p1
  refine w_exu (x_stB #[(.string a.name), (.int .i64 a.from_), s83.v, (.slice none 0 0), (.slice none 0 0)] sz23 rfl rfl rfl rfl rfl rfl hM ?_); intro w86 hM
  refine wl_nil ?_
  refine sq_n ?_
  refine wc_seq ?_
  refine wc_region ?_
  refine wv rfl (r_fld Try.underlying46 rfl rfl sz26 rfl) ?_
  refine wv rfl (r_ldB Try.underlying26 rfl rfl hM (.tail _ (.tail _ (.tail _ (.head _)))) rfl) ?_
  obtain ⟨r90, h91, hx⟩ := bind_some' hx
  refine w_call rfl rfl (hM.callO (l := []) fun X S oL hS hR hO => ct_laws_toEntryS _ X S a.list s_a_3 hS (hR _ (.tail _ (.head _))) oL h91) ?_
  rintro _ w92 ⟨s93, rfl, hM⟩
  replace hM : St ⟨w, X, S⟩ [oC (cSl 3 fDEntry r90) s93.v, oBox b65 #[(.string a.name), (.int .i64 a.from_), s83.v, (.slice none 0 0), (.slice none 0 0)] 53, oC (cSl 1 fI r80) s83.v, oBox b61 #[(.string ByteArray.empty), (.int .i64 0), (.slice none 0 0), (.slice none 0 0), (.slice none 0 0)] 53, oBox b57 #[(.string a.name), (.int .i64 a.from_), s_a_2.v, s_a_3.v, s_a_4.v] 46] [rV s_a_4.v (cSl 3 fDSeen a.seen), rV s_a_3.v (cSl 3 fDEntry a.list), rV s_a_2.v (cSl 1 fI a.text)] _ := hM
  refine wv rfl (r_fld Try.underlying53 rfl rfl sz36 rfl) ?_
  replace hM := hM.p1
  refine w_exu (x_stB #[(.string a.name), (.int .i64 a.from_), s83.v, s93.v, (.slice none 0 0)] sz36 rfl rfl rfl rfl rfl rfl hM ?_); intro w96 hM
  refine wl_nil ?_
  refine sq_n ?_
  refine wc_seq ?_
  refine wc_region ?_
  refine wv rfl (r_fld Try.underlying46 rfl rfl sz44 rfl) ?_
  refine wv rfl (r_ldB Try.underlying44 rfl rfl hM (.tail _ (.tail _ (.tail _ (.tail _ (.head _))))) rfl) ?_
  obtain ⟨r100, h101, hx⟩ := bind_some' hx
  refine w_call rfl rfl (hM.callO (l := []) fun X S oL hS hR hO => ct_laws_toSeenS _ X S a.seen s_a_4 hS (hR _ (.head _)) oL h101) ?_
  rintro _ w102 ⟨s103, rfl, hM⟩
  replace hM : St ⟨w, X, S⟩ [oC (cSl 3 fDSeen r100) s103.v, oBox b65 #[(.string a.name), (.int .i64 a.from_), s83.v, s93.v, (.slice none 0 0)] 53, oC (cSl 3 fDEntry r90) s93.v, oC (cSl 1 fI r80) s83.v, oBox b61 #[(.string ByteArray.empty), (.int .i64 0), (.slice none 0 0), (.slice none 0 0), (.slice none 0 0)] 53, oBox b57 #[(.string a.name), (.int .i64 a.from_), s_a_2.v, s_a_3.v, s_a_4.v] 46] [rV s_a_4.v (cSl 3 fDSeen a.seen), rV s_a_3.v (cSl 3 fDEntry a.list), rV s_a_2.v (cSl 1 fI a.text)] _ := hM
  refine wv rfl (r_fld Try.underlying53 rfl rfl sz51 rfl) ?_
  replace hM := hM.p1
  refine w_exu (x_stB #[(.string a.name), (.int .i64 a.from_), s83.v, s93.v, s103.v] sz51 rfl rfl rfl rfl rfl rfl hM ?_); intro w106 hM
  refine wl_nil ?_
  refine sq_n ?_
  refine wc_seq ?_
  refine wc_region ?_
  refine wv rfl (r_ldBS Try.underlying53 sz53 rfl (us := [(.string a.name), (.int .i64 a.from_), s83.v, s93.v, s103.v]) rfl hM (.head _) rfl) ?_
  replace hM := hM.p4
  refine w_exu (x_stB #[(.string a.name), (.int .i64 a.from_), s83.v, s93.v, s103.v] sz53 rfl rfl rfl rfl rfl rfl hM ?_); intro w109 hM
  refine wl_nil ?_
  refine sq_n ?_
  refine wc_ret ?_
  obtain rfl := Option.some.inj hx
  refine fin_ret [(.agg #[(.string a.name), (.int .i64 a.from_), s83.v, s93.v, s103.v])] ⟨rv_box Try.underlying53 sz53 rfl rfl hM (.head _), trivial⟩ ?_
  replace hM := hM.p2.p3.p4
  replace hM := hM.t3
  have hM := hM.fewer rsN
  exact ⟨(s83, s93, s103), rfl, hM.gives⟩

noncomputable def x_laws_eqByteS_b0 (a : List UInt8) (b : List UInt8) (i9 : Int) : Option (Lr Int (Sum Unit Unit)) :=
  bif decide (i9 < (a.length : Int)) then (xg (0 ≤ i9 ∧ i9 < (a.length : Int)) <| xg (0 ≤ i9 ∧ i9 < (b.length : Int)) <| bif !decide (((el a i9.toNat).toNat : Int) = ((el b i9.toNat).toNat : Int)) then (some (Lr.out (Sum.inr (())))) else (xg (inI (i9 + 1)) <| some (Lr.go (i9 + 1)))) else (some (Lr.out (Sum.inl ())))
noncomputable def x_laws_eqByteS_f0 (a : List UInt8) (b : List UInt8) (s58 : Int) : Option (Lr Int (Sum Unit Unit)) := x_laws_eqByteS_b0 a b s58
noncomputable def x_laws_eqByteS (a : List UInt8) (b : List UInt8) : Option Bool :=
  bif !decide ((a.length : Int) = (b.length : Int)) then (some false) else (Option.bind (iter (x_laws_eqByteS_f0 a b) 0) fun (y59 : Sum Unit Unit) => Sum.elim (fun _y60 => some true) (fun _y61 => some false) y59)
theorem ct_laws_eqByteS (w : World) (X S : Bs) (a : List UInt8) (s_a : Sv) (b : List UInt8) (s_b : Sv) (hS : ∀ b, S b → b < w.heap.size ∧ ¬ X b) (a_a_0 : (cSl 1 fY a).rd S w s_a.v) (a_b_0 : (cSl 1 fY b).rd S w s_b.v) (oL : Sep [] X w) {r : Bool} (hx : x_laws_eqByteS a b = some r) :
    Ret Try.prog 14 [s_a.v, s_b.v] w (fun u w' => ∃ _ : Unit, u = (.bool r) ∧ Gives X S w [] [] w') := by
  unfold x_laws_eqByteS at hx
  refine enter Try.func14 rfl Try.ntmps14 (by kernel_rfl) rfl ?_
  have hM := St.enter oL hS
  have hM := hM.addE (r := rV s_a.v (cSl 1 fY a)) a_a_0
  have hM := hM.addE (r := rV s_b.v (cSl 1 fY b)) a_b_0
  refine wc_seq ?_
  refine wc_region ?_
  refine wv rfl (r_assign rfl) ?_
  refine wl_nil ?_
  refine sq_n ?_
  refine wc_seq ?_
  refine wc_seq ?_
  refine wc_region ?_
  refine wv rfl (r_move rfl) ?_
  refine wv rfl (r_lenC Try.underlying48 rfl (hM.seeR (.tail _ (.head _)))) ?_
  refine wv rfl (r_move rfl) ?_
  refine wv rfl (r_lenC Try.underlying48 rfl (hM.seeR (.head _))) ?_
  refine wv rfl (r_neq rfl rfl) ?_
  refine wl_nil ?_
  refine sq_n ?_
  refine wc_cond rfl (fun hc69 => ?_) (fun hc69 => ?_)
  · replace hx := xif_t hc69 hx
    refine wc_seq ?_
    refine wc_region ?_
    refine wv rfl (r_assign rfl) ?_
    refine wl_nil ?_
    refine sq_n ?_
    refine wc_ret ?_
    refine sq_ret ?_
    obtain rfl := Option.some.inj hx
    refine fin_ret [(.bool false)] ⟨rfl, trivial⟩ ?_
    replace hM := hM.t0
    have hM := hM.fewer rsN
    exact ⟨(), rfl, hM.gives⟩
  · replace hx := xif_f hc69 hx
    refine wc_skip ?_
    refine sq_n ?_
    refine wc_seq ?_
    refine wc_seq ?_
    refine wc_region ?_
    refine wv rfl (r_assign rfl) ?_
    refine wl_nil ?_
    refine sq_n ?_
    refine wc_block ?_
    obtain ⟨y72, hx, hx73⟩ := bind_some' hx
    have hM := hM.fewer (rsC (.tail _ (.head _)) (rsC (.head _) rsN))
    replace hM : St ⟨w, X, S⟩ [] [rV s_a.v (cSl 1 fY a), rV s_b.v (cSl 1 fY b)] _ := hM
    obtain ⟨m77, hx⟩ := iter_run hx
    refine wc_loop (un fun (m75 : Nat) => fun (i74 : Int) => [(0, s_a.v), (1, s_b.v), (5, (.int .i64 i74))]) (un fun (m75 : Nat) => fun (i74 : Int) w' => St ⟨w, X, S⟩ [] [rV s_a.v (cSl 1 fY a), rV s_b.v (cSl 1 fY b)] w' ∧ iterN _ m75 i74 = some y72) (fun p => p.1) (m77, 0) ⟨rfl, rfl, rfl, trivial⟩ ⟨hM, hx⟩ ?_
    rintro ⟨m75, i74⟩ w78 ⟨hM, hx⟩
    obtain ⟨m79, z80, rfl, hx, hx81⟩ := iterN_step hx
    unfold x_laws_eqByteS_f0 x_laws_eqByteS_b0 at hx
    try dsimp only at hx
    refine wc_seq ?_
    refine wc_seq ?_
    refine wc_region ?_
    refine wv rfl (r_move rfl) ?_
    refine wv rfl (r_move rfl) ?_
    refine wv rfl (r_lenC Try.underlying48 rfl (hM.seeR (.head _))) ?_
    refine wv rfl (r_lss rfl rfl) ?_
    refine wl_nil ?_
    refine sq_n ?_
    refine wc_cond rfl (fun hc86 => ?_) (fun hc86 => ?_)
    · replace hx := xif_t hc86 hx
      refine wc_skip ?_
      refine sq_n ?_
      refine wc_seq ?_
      refine wc_block ?_
      refine wc_seq ?_
      refine wc_draw [(0, 0), (1, 0), (2, 0), (3, 0), (4, 0), (5, 0), (6, 0), (7, 0), (8, 0)] Try_mixed (by kernel_rfl) rfl (by kernel_rfl) rfl ?_
      refine ov rfl (fun w' h' => r_move rfl) ?_
      refine ov rfl (fun w' h' => r_move rfl) ?_
      obtain ⟨hg91, hx⟩ := xg_some hx
      have hi90 : i74.toNat < a.length := by omega
      refine ov rfl (fun w' h' => r_ixC Try.underlying48 sz5 rfl rfl ((hM.call h').seeR (.head _)) hg91) ?_
      refine ov rfl (fun w' h' => r_ld Try.underlying5 rfl rfl (Cs.get (i := i74.toNat) (j := 0) ((hM.call h').seeR (.head _)) (fun _ => rfl) hi90 rfl)) ?_
      refine ov rfl (fun w' h' => r_move rfl) ?_
      refine ov rfl (fun w' h' => r_move rfl) ?_
      obtain ⟨hg97, hx⟩ := xg_some hx
      have hi96 : i74.toNat < b.length := by omega
      refine ov rfl (fun w' h' => r_ixC Try.underlying48 sz5 rfl rfl ((hM.call h').seeR (.tail _ (.head _))) hg97) ?_
      refine ov rfl (fun w' h' => r_ld Try.underlying5 rfl rfl (Cs.get (i := i74.toNat) (j := 0) ((hM.call h').seeR (.tail _ (.head _))) (fun _ => rfl) hi96 rfl)) ?_
      refine ov rfl (fun w' h' => r_neq rfl rfl) ?_
      refine o_nil fun w100 hw101 => ?_
      have hM := hM.call hw101
      refine sq_n ?_
      refine wc_cond rfl (fun hc102 => ?_) (fun hc102 => ?_)
      · replace hx := xif_t hc102 hx
        refine wc_seq ?_
        refine wc_region ?_
        refine wv rfl (r_assign rfl) ?_
        refine wl_nil ?_
        refine sq_n ?_
        refine wc_ret ?_
        refine bk_ret ?_
        refine sq_ret ?_
        refine lp1_ret ?_
        obtain rfl := Option.some.inj hx
        obtain rfl := Option.some.inj hx81
        replace hx := hx73
        try dsimp only [Sum.elim_inl, Sum.elim_inr] at hx
        refine bk_ret ?_
        refine sq_ret ?_
        obtain rfl := Option.some.inj hx
        refine fin_ret [(.bool false)] ⟨rfl, trivial⟩ ?_
        replace hM := hM.t0
        have hM := hM.fewer rsN
        exact ⟨(), rfl, hM.gives⟩
      · replace hx := xif_f hc102 hx
        refine wc_skip ?_
        refine bk_n ?_
        refine sq_n ?_
        refine wc_region ?_
        refine wv rfl (r_move rfl) ?_
        obtain ⟨hg106, hx⟩ := xg_some hx
        refine wv rfl (r_add rfl rfl hg106) ?_
        refine wv rfl (r_assign rfl) ?_
        refine wl_nil ?_
        obtain rfl := Option.some.inj hx
        exact lp_end (m79, i74 + 1) (Nat.lt_succ_self _) ⟨rfl, rfl, rfl, trivial⟩ ⟨hM, hx81⟩
    · replace hx := xif_f hc86 hx
      refine wc_exit ?_
      refine sq_exit ?_
      refine lp1_exit ?_
      obtain rfl := Option.some.inj hx
      obtain rfl := Option.some.inj hx81
      replace hx := hx73
      try dsimp only [Sum.elim_inl, Sum.elim_inr] at hx
      refine bk_here ?_
      refine sq_n ?_
      refine wc_seq ?_
      refine wc_region ?_
      refine wv rfl (r_assign rfl) ?_
      refine wl_nil ?_
      refine sq_n ?_
      refine wc_ret ?_
      obtain rfl := Option.some.inj hx
      refine fin_ret [(.bool true)] ⟨rfl, trivial⟩ ?_
      replace hM := hM.t0
      have hM := hM.fewer rsN
      exact ⟨(), rfl, hM.gives⟩

noncomputable def x_laws_eqIntS_b0 (a : List Int) (b : List Int) (i9 : Int) : Option (Lr Int (Sum Unit Unit)) :=
  bif decide (i9 < (a.length : Int)) then (xg (0 ≤ i9 ∧ i9 < (a.length : Int)) <| xg (0 ≤ i9 ∧ i9 < (b.length : Int)) <| bif !decide ((el a i9.toNat) = (el b i9.toNat)) then (some (Lr.out (Sum.inr (())))) else (xg (inI (i9 + 1)) <| some (Lr.go (i9 + 1)))) else (some (Lr.out (Sum.inl ())))
noncomputable def x_laws_eqIntS_f0 (a : List Int) (b : List Int) (s58 : Int) : Option (Lr Int (Sum Unit Unit)) := x_laws_eqIntS_b0 a b s58
noncomputable def x_laws_eqIntS (a : List Int) (b : List Int) : Option Bool :=
  bif !decide ((a.length : Int) = (b.length : Int)) then (some false) else (Option.bind (iter (x_laws_eqIntS_f0 a b) 0) fun (y59 : Sum Unit Unit) => Sum.elim (fun _y60 => some true) (fun _y61 => some false) y59)
theorem ct_laws_eqIntS (w : World) (X S : Bs) (a : List Int) (s_a : Sv) (b : List Int) (s_b : Sv) (hS : ∀ b, S b → b < w.heap.size ∧ ¬ X b) (a_a_0 : (cSl 1 fI a).rd S w s_a.v) (a_b_0 : (cSl 1 fI b).rd S w s_b.v) (oL : Sep [] X w) {r : Bool} (hx : x_laws_eqIntS a b = some r) :
    Ret Try.prog 43 [s_a.v, s_b.v] w (fun u w' => ∃ _ : Unit, u = (.bool r) ∧ Gives X S w [] [] w') := by
  unfold x_laws_eqIntS at hx
  refine enter Try.func43 rfl Try.ntmps43 (by kernel_rfl) rfl ?_
  have hM := St.enter oL hS
  have hM := hM.addE (r := rV s_a.v (cSl 1 fI a)) a_a_0
  have hM := hM.addE (r := rV s_b.v (cSl 1 fI b)) a_b_0
  refine wc_seq ?_
  refine wc_region ?_
  refine wv rfl (r_assign rfl) ?_
  refine wl_nil ?_
  refine sq_n ?_
  refine wc_seq ?_
  refine wc_seq ?_
  refine wc_region ?_
  refine wv rfl (r_move rfl) ?_
  refine wv rfl (r_lenC Try.underlying23 rfl (hM.seeR (.tail _ (.head _)))) ?_
  refine wv rfl (r_move rfl) ?_
  refine wv rfl (r_lenC Try.underlying23 rfl (hM.seeR (.head _))) ?_
  refine wv rfl (r_neq rfl rfl) ?_
  refine wl_nil ?_
  refine sq_n ?_
  refine wc_cond rfl (fun hc69 => ?_) (fun hc69 => ?_)
  · replace hx := xif_t hc69 hx
    refine wc_seq ?_
    refine wc_region ?_
    refine wv rfl (r_assign rfl) ?_
    refine wl_nil ?_
    refine sq_n ?_
    refine wc_ret ?_
    refine sq_ret ?_
    obtain rfl := Option.some.inj hx
    refine fin_ret [(.bool false)] ⟨rfl, trivial⟩ ?_
    replace hM := hM.t0
    have hM := hM.fewer rsN
    exact ⟨(), rfl, hM.gives⟩
  · replace hx := xif_f hc69 hx
    refine wc_skip ?_
    refine sq_n ?_
    refine wc_seq ?_
    refine wc_seq ?_
    refine wc_region ?_
    refine wv rfl (r_assign rfl) ?_
    refine wl_nil ?_
    refine sq_n ?_
    refine wc_block ?_
    obtain ⟨y72, hx, hx73⟩ := bind_some' hx
    have hM := hM.fewer (rsC (.tail _ (.head _)) (rsC (.head _) rsN))
    replace hM : St ⟨w, X, S⟩ [] [rV s_a.v (cSl 1 fI a), rV s_b.v (cSl 1 fI b)] _ := hM
    obtain ⟨m77, hx⟩ := iter_run hx
    refine wc_loop (un fun (m75 : Nat) => fun (i74 : Int) => [(0, s_a.v), (1, s_b.v), (5, (.int .i64 i74))]) (un fun (m75 : Nat) => fun (i74 : Int) w' => St ⟨w, X, S⟩ [] [rV s_a.v (cSl 1 fI a), rV s_b.v (cSl 1 fI b)] w' ∧ iterN _ m75 i74 = some y72) (fun p => p.1) (m77, 0) ⟨rfl, rfl, rfl, trivial⟩ ⟨hM, hx⟩ ?_
    rintro ⟨m75, i74⟩ w78 ⟨hM, hx⟩
    obtain ⟨m79, z80, rfl, hx, hx81⟩ := iterN_step hx
    unfold x_laws_eqIntS_f0 x_laws_eqIntS_b0 at hx
    try dsimp only at hx
    refine wc_seq ?_
    refine wc_seq ?_
    refine wc_region ?_
    refine wv rfl (r_move rfl) ?_
    refine wv rfl (r_move rfl) ?_
    refine wv rfl (r_lenC Try.underlying23 rfl (hM.seeR (.head _))) ?_
    refine wv rfl (r_lss rfl rfl) ?_
    refine wl_nil ?_
    refine sq_n ?_
    refine wc_cond rfl (fun hc86 => ?_) (fun hc86 => ?_)
    · replace hx := xif_t hc86 hx
      refine wc_skip ?_
      refine sq_n ?_
      refine wc_seq ?_
      refine wc_block ?_
      refine wc_seq ?_
      refine wc_draw [(0, 0), (1, 0), (2, 0), (3, 0), (4, 0), (5, 0), (6, 0), (7, 0), (8, 0)] Try_mixed (by kernel_rfl) rfl (by kernel_rfl) rfl ?_
      refine ov rfl (fun w' h' => r_move rfl) ?_
      refine ov rfl (fun w' h' => r_move rfl) ?_
      obtain ⟨hg91, hx⟩ := xg_some hx
      have hi90 : i74.toNat < a.length := by omega
      refine ov rfl (fun w' h' => r_ixC Try.underlying23 sz3 rfl rfl ((hM.call h').seeR (.head _)) hg91) ?_
      refine ov rfl (fun w' h' => r_ld Try.underlying3 rfl rfl (Cs.get (i := i74.toNat) (j := 0) ((hM.call h').seeR (.head _)) (fun _ => rfl) hi90 rfl)) ?_
      refine ov rfl (fun w' h' => r_move rfl) ?_
      refine ov rfl (fun w' h' => r_move rfl) ?_
      obtain ⟨hg97, hx⟩ := xg_some hx
      have hi96 : i74.toNat < b.length := by omega
      refine ov rfl (fun w' h' => r_ixC Try.underlying23 sz3 rfl rfl ((hM.call h').seeR (.tail _ (.head _))) hg97) ?_
      refine ov rfl (fun w' h' => r_ld Try.underlying3 rfl rfl (Cs.get (i := i74.toNat) (j := 0) ((hM.call h').seeR (.tail _ (.head _))) (fun _ => rfl) hi96 rfl)) ?_
      refine ov rfl (fun w' h' => r_neq rfl rfl) ?_
      refine o_nil fun w100 hw101 => ?_
      have hM := hM.call hw101
      refine sq_n ?_
      refine wc_cond rfl (fun hc102 => ?_) (fun hc102 => ?_)
      · replace hx := xif_t hc102 hx
        refine wc_seq ?_
        refine wc_region ?_
        refine wv rfl (r_assign rfl) ?_
        refine wl_nil ?_
        refine sq_n ?_
        refine wc_ret ?_
        refine bk_ret ?_
        refine sq_ret ?_
        refine lp1_ret ?_
        obtain rfl := Option.some.inj hx
        obtain rfl := Option.some.inj hx81
        replace hx := hx73
        try dsimp only [Sum.elim_inl, Sum.elim_inr] at hx
        refine bk_ret ?_
        refine sq_ret ?_
        obtain rfl := Option.some.inj hx
        refine fin_ret [(.bool false)] ⟨rfl, trivial⟩ ?_
        replace hM := hM.t0
        have hM := hM.fewer rsN
        exact ⟨(), rfl, hM.gives⟩
      · replace hx := xif_f hc102 hx
        refine wc_skip ?_
        refine bk_n ?_
        refine sq_n ?_
        refine wc_region ?_
        refine wv rfl (r_move rfl) ?_
        obtain ⟨hg106, hx⟩ := xg_some hx
        refine wv rfl (r_add rfl rfl hg106) ?_
        refine wv rfl (r_assign rfl) ?_
        refine wl_nil ?_
        obtain rfl := Option.some.inj hx
        exact lp_end (m79, i74 + 1) (Nat.lt_succ_self _) ⟨rfl, rfl, rfl, trivial⟩ ⟨hM, hx81⟩
    · replace hx := xif_f hc86 hx
      refine wc_exit ?_
      refine sq_exit ?_
      refine lp1_exit ?_
      obtain rfl := Option.some.inj hx
      obtain rfl := Option.some.inj hx81
      replace hx := hx73
      try dsimp only [Sum.elim_inl, Sum.elim_inr] at hx
      refine bk_here ?_
      refine sq_n ?_
      refine wc_seq ?_
      refine wc_region ?_
      refine wv rfl (r_assign rfl) ?_
      refine wl_nil ?_
      refine sq_n ?_
      refine wc_ret ?_
      obtain rfl := Option.some.inj hx
      refine fin_ret [(.bool true)] ⟨rfl, trivial⟩ ?_
      replace hM := hM.t0
      have hM := hM.fewer rsN
      exact ⟨(), rfl, hM.gives⟩

noncomputable def x_laws_eqPart (a : DPart) (b : DPart) : Option Bool :=
  bif !decide (a.kind = b.kind) then (some false) else (bif !decide (a.n = b.n) then (some false) else (Option.bind (x_laws_eqIntS a.signs b.signs) fun r26 => bif !r26 then (some false) else (some true)))
theorem ct_laws_eqPart (w : World) (X S : Bs) (a : DPart) (s_a_2 : Sv) (b : DPart) (s_b_2 : Sv) (hS : ∀ b, S b → b < w.heap.size ∧ ¬ X b) (a_a_2 : (cSl 1 fI a.signs).rd S w s_a_2.v) (a_b_2 : (cSl 1 fI b.signs).rd S w s_b_2.v) (oL : Sep [] X w) {r : Bool} (hx : x_laws_eqPart a b = some r) :
    Ret Try.prog 81 [(.agg #[(.int .i64 a.kind), (.int .i64 a.n), s_a_2.v]), (.agg #[(.int .i64 b.kind), (.int .i64 b.n), s_b_2.v])] w (fun u w' => ∃ _ : Unit, u = (.bool r) ∧ Gives X S w [] [] w') := by
  unfold x_laws_eqPart at hx
  refine enter Try.func81 rfl Try.ntmps81 (by kernel_rfl) rfl ?_
  have hM := St.enter oL hS
  have hM := hM.addE (r := rV s_a_2.v (cSl 1 fI a.signs)) a_a_2
  have hM := hM.addE (r := rV s_b_2.v (cSl 1 fI b.signs)) a_b_2
  refine wc_seq ?_
  refine wc_region ?_
  refine w_ex rfl (x_box rfl hM ?_); intro b34 w33 hR35 hM
  replace hM : St ⟨w, X, S⟩ [oBox b34 #[(.int .i64 a.kind), (.int .i64 a.n), s_a_2.v] 105] [rV s_b_2.v (cSl 1 fI b.signs), rV s_a_2.v (cSl 1 fI a.signs)] _ := hM
  refine w_ex rfl (x_box rfl hM ?_); intro b38 w37 hR39 hM
  replace hM : St ⟨w, X, S⟩ [oBox b38 #[(.int .i64 b.kind), (.int .i64 b.n), s_b_2.v] 105, oBox b34 #[(.int .i64 a.kind), (.int .i64 a.n), s_a_2.v] 105] [rV s_b_2.v (cSl 1 fI b.signs), rV s_a_2.v (cSl 1 fI a.signs)] _ := hM
  refine wv rfl (r_assign rfl) ?_
  refine wl_nil ?_
  refine sq_n ?_
  refine wc_seq ?_
  refine wc_seq ?_
  refine wc_region ?_
  refine wv rfl (r_fld Try.underlying105 rfl rfl sz3 rfl) ?_
  refine wv rfl (r_ldB Try.underlying3 rfl rfl hM (.tail _ (.head _)) rfl) ?_
  refine wv rfl (r_fld Try.underlying105 rfl rfl sz3 rfl) ?_
  refine wv rfl (r_ldB Try.underlying3 rfl rfl hM (.head _) rfl) ?_
  refine wv rfl (r_neq rfl rfl) ?_
  refine wl_nil ?_
  refine sq_n ?_
  refine wc_cond rfl (fun hc47 => ?_) (fun hc47 => ?_)
  · replace hx := xif_t hc47 hx
    refine wc_seq ?_
    refine wc_region ?_
    refine wv rfl (r_assign rfl) ?_
    refine wl_nil ?_
    refine sq_n ?_
    refine wc_ret ?_
    refine sq_ret ?_
    obtain rfl := Option.some.inj hx
    refine fin_ret [(.bool false)] ⟨rfl, trivial⟩ ?_
    replace hM := hM.t0
    have hM := hM.fewer rsN
    exact ⟨(), rfl, hM.gives⟩
  · replace hx := xif_f hc47 hx
    refine wc_skip ?_
    refine sq_n ?_
    refine wc_seq ?_
    refine wc_seq ?_
    refine wc_region ?_
    refine wv rfl (r_fld Try.underlying105 rfl rfl sz3 rfl) ?_
    refine wv rfl (r_ldB Try.underlying3 rfl rfl hM (.tail _ (.head _)) rfl) ?_
    refine wv rfl (r_fld Try.underlying105 rfl rfl sz3 rfl) ?_
    refine wv rfl (r_ldB Try.underlying3 rfl rfl hM (.head _) rfl) ?_
    refine wv rfl (r_neq rfl rfl) ?_
    refine wl_nil ?_
    refine sq_n ?_
    refine wc_cond rfl (fun hc54 => ?_) (fun hc54 => ?_)
    · replace hx := xif_t hc54 hx
      refine wc_seq ?_
      refine wc_region ?_
      refine wv rfl (r_assign rfl) ?_
      refine wl_nil ?_
      refine sq_n ?_
      refine wc_ret ?_
      refine sq_ret ?_
      obtain rfl := Option.some.inj hx
      refine fin_ret [(.bool false)] ⟨rfl, trivial⟩ ?_
      replace hM := hM.t0
      have hM := hM.fewer rsN
      exact ⟨(), rfl, hM.gives⟩
    · replace hx := xif_f hc54 hx
      refine wc_skip ?_
      refine sq_n ?_
      refine wc_seq ?_
      refine wc_seq ?_
      refine wc_region ?_
      refine wv rfl (r_fld Try.underlying105 rfl rfl sz23 rfl) ?_
      refine wv rfl (r_ldB Try.underlying23 rfl rfl hM (.tail _ (.head _)) rfl) ?_
      refine wv rfl (r_fld Try.underlying105 rfl rfl sz23 rfl) ?_
      refine wv rfl (r_ldB Try.underlying23 rfl rfl hM (.head _) rfl) ?_
      obtain ⟨r60, h61, hx⟩ := bind_some' hx
      refine w_call rfl rfl (hM.callV fun X S oL hS hR hO => ct_laws_eqIntS _ X S a.signs s_a_2 b.signs s_b_2 hS (hR _ (.tail _ (.head _))) (hR _ (.head _)) oL h61) ?_
      rintro _ w62 ⟨rfl, hR63⟩
      have hM := hM.call hR63
      refine wv rfl (r_not rfl) ?_
      refine wl_nil ?_
      refine sq_n ?_
      refine wc_cond rfl (fun hc65 => ?_) (fun hc65 => ?_)
      · replace hx := xif_t hc65 hx
        refine wc_seq ?_
        refine wc_region ?_
        refine wv rfl (r_assign rfl) ?_
        refine wl_nil ?_
        refine sq_n ?_
        refine wc_ret ?_
        refine sq_ret ?_
        obtain rfl := Option.some.inj hx
        refine fin_ret [(.bool false)] ⟨rfl, trivial⟩ ?_
        replace hM := hM.t0
        have hM := hM.fewer rsN
        exact ⟨(), rfl, hM.gives⟩
      · replace hx := xif_f hc65 hx
        refine wc_skip ?_
        refine sq_n ?_
        refine wc_seq ?_
        refine wc_region ?_
        refine wv rfl (r_assign rfl) ?_
        refine wl_nil ?_
        refine sq_n ?_
        refine wc_ret ?_
        obtain rfl := Option.some.inj hx
        refine fin_ret [(.bool true)] ⟨rfl, trivial⟩ ?_
        replace hM := hM.t0
        have hM := hM.fewer rsN
        exact ⟨(), rfl, hM.gives⟩

noncomputable def x_laws_eqPartS_b0 (a : List DPart) (b : List DPart) (i9 : Int) : Option (Lr Int (Sum Unit Unit)) :=
  bif decide (i9 < (a.length : Int)) then (xg (0 ≤ i9 ∧ i9 < (a.length : Int)) <| xg (0 ≤ i9 ∧ i9 < (b.length : Int)) <| Option.bind (x_laws_eqPart (el a i9.toNat) (el b i9.toNat)) fun r61 => bif !r61 then (some (Lr.out (Sum.inr (())))) else (xg (inI (i9 + 1)) <| some (Lr.go (i9 + 1)))) else (some (Lr.out (Sum.inl ())))
noncomputable def x_laws_eqPartS_f0 (a : List DPart) (b : List DPart) (s72 : Int) : Option (Lr Int (Sum Unit Unit)) := x_laws_eqPartS_b0 a b s72
noncomputable def x_laws_eqPartS (a : List DPart) (b : List DPart) : Option Bool :=
  bif !decide ((a.length : Int) = (b.length : Int)) then (some false) else (Option.bind (iter (x_laws_eqPartS_f0 a b) 0) fun (y73 : Sum Unit Unit) => Sum.elim (fun _y74 => some true) (fun _y75 => some false) y73)
theorem ct_laws_eqPartS (w : World) (X S : Bs) (a : List DPart) (s_a : Sv) (b : List DPart) (s_b : Sv) (hS : ∀ b, S b → b < w.heap.size ∧ ¬ X b) (a_a_0 : (cSl 3 fDPart a).rd S w s_a.v) (a_b_0 : (cSl 3 fDPart b).rd S w s_b.v) (oL : Sep [] X w) {r : Bool} (hx : x_laws_eqPartS a b = some r) :
    Ret Try.prog 54 [s_a.v, s_b.v] w (fun u w' => ∃ _ : Unit, u = (.bool r) ∧ Gives X S w [] [] w') := by
  unfold x_laws_eqPartS at hx
  refine enter Try.func54 rfl Try.ntmps54 (by kernel_rfl) rfl ?_
  have hM := St.enter oL hS
  have hM := hM.addE (r := rV s_a.v (cSl 3 fDPart a)) a_a_0
  have hM := hM.addE (r := rV s_b.v (cSl 3 fDPart b)) a_b_0
  refine wc_seq ?_
  refine wc_region ?_
  refine wv rfl (r_assign rfl) ?_
  refine wl_nil ?_
  refine sq_n ?_
  refine wc_seq ?_
  refine wc_seq ?_
  refine wc_region ?_
  refine wv rfl (r_move rfl) ?_
  refine wv rfl (r_lenC Try.underlying33 rfl (hM.seeR (.tail _ (.head _)))) ?_
  refine wv rfl (r_move rfl) ?_
  refine wv rfl (r_lenC Try.underlying33 rfl (hM.seeR (.head _))) ?_
  refine wv rfl (r_neq rfl rfl) ?_
  refine wl_nil ?_
  refine sq_n ?_
  refine wc_cond rfl (fun hc83 => ?_) (fun hc83 => ?_)
  · replace hx := xif_t hc83 hx
    refine wc_seq ?_
    refine wc_region ?_
    refine wv rfl (r_assign rfl) ?_
    refine wl_nil ?_
    refine sq_n ?_
    refine wc_ret ?_
    refine sq_ret ?_
    obtain rfl := Option.some.inj hx
    refine fin_ret [(.bool false)] ⟨rfl, trivial⟩ ?_
    replace hM := hM.t0
    have hM := hM.fewer rsN
    exact ⟨(), rfl, hM.gives⟩
  · replace hx := xif_f hc83 hx
    refine wc_skip ?_
    refine sq_n ?_
    refine wc_seq ?_
    refine wc_seq ?_
    refine wc_region ?_
    refine wv rfl (r_assign rfl) ?_
    refine wl_nil ?_
    refine sq_n ?_
    refine wc_block ?_
    obtain ⟨y86, hx, hx87⟩ := bind_some' hx
    have hM := hM.fewer (rsC (.tail _ (.head _)) (rsC (.head _) rsN))
    replace hM : St ⟨w, X, S⟩ [] [rV s_a.v (cSl 3 fDPart a), rV s_b.v (cSl 3 fDPart b)] _ := hM
    obtain ⟨m91, hx⟩ := iter_run hx
    refine wc_loop (un fun (m89 : Nat) => fun (i88 : Int) => [(0, s_a.v), (1, s_b.v), (5, (.int .i64 i88))]) (un fun (m89 : Nat) => fun (i88 : Int) w' => St ⟨w, X, S⟩ [] [rV s_a.v (cSl 3 fDPart a), rV s_b.v (cSl 3 fDPart b)] w' ∧ iterN _ m89 i88 = some y86) (fun p => p.1) (m91, 0) ⟨rfl, rfl, rfl, trivial⟩ ⟨hM, hx⟩ ?_
    rintro ⟨m89, i88⟩ w92 ⟨hM, hx⟩
    obtain ⟨m93, z94, rfl, hx, hx95⟩ := iterN_step hx
    unfold x_laws_eqPartS_f0 x_laws_eqPartS_b0 at hx
    try dsimp only at hx
    refine wc_seq ?_
    refine wc_seq ?_
    refine wc_region ?_
    refine wv rfl (r_move rfl) ?_
    refine wv rfl (r_move rfl) ?_
    refine wv rfl (r_lenC Try.underlying33 rfl (hM.seeR (.head _))) ?_
    refine wv rfl (r_lss rfl rfl) ?_
    refine wl_nil ?_
    refine sq_n ?_
    refine wc_cond rfl (fun hc100 => ?_) (fun hc100 => ?_)
    · replace hx := xif_t hc100 hx
      refine wc_skip ?_
      refine sq_n ?_
      refine wc_seq ?_
      refine wc_block ?_
      refine wc_seq ?_
      refine wc_draw [(0, 0), (1, 0), (2, 0), (3, 0), (4, 0), (5, 0), (6, 0), (7, 0), (8, 0), (9, 0)] Try_mixed (by kernel_rfl) rfl (by kernel_rfl) rfl ?_
      refine ov rfl (fun w' h' => r_move rfl) ?_
      refine ov rfl (fun w' h' => r_move rfl) ?_
      obtain ⟨hg105, hx⟩ := xg_some hx
      have hi104 : i88.toNat < a.length := by omega
      refine ov rfl (fun w' h' => r_ixC Try.underlying33 sz105 rfl rfl ((hM.call h').seeR (.head _)) hg105) ?_
      obtain ⟨s107, hM, hc108⟩ := hM.leaf (i := i88.toNat) (j := 2) (.head _) (fun _ => rfl) hi104 rfl
      refine ov rfl (fun w' h' => r_ldC (o := i88.toNat * 3) Try.underlying105 sz105 rfl (us := [(.int .i64 ((el a i88.toNat).kind)), (.int .i64 ((el a i88.toNat).n)), s107.v]) rfl ((hM.call h').seeR (.tail _ (.head _))) hi104 ⟨(Cs.get (i := i88.toNat) (j := 0) ((hM.call h').seeR (.tail _ (.head _))) (fun _ => rfl) hi104 rfl), (Cs.get (i := i88.toNat) (j := 1) ((hM.call h').seeR (.tail _ (.head _))) (fun _ => rfl) hi104 rfl), (hc108 w' h'), trivial⟩) ?_
      refine ov rfl (fun w' h' => r_move rfl) ?_
      refine ov rfl (fun w' h' => r_move rfl) ?_
      obtain ⟨hg113, hx⟩ := xg_some hx
      have hi112 : i88.toNat < b.length := by omega
      refine ov rfl (fun w' h' => r_ixC Try.underlying33 sz105 rfl rfl ((hM.call h').seeR (.tail _ (.tail _ (.head _)))) hg113) ?_
      obtain ⟨s115, hM, hc116⟩ := hM.leaf (i := i88.toNat) (j := 2) (.tail _ (.tail _ (.head _))) (fun _ => rfl) hi112 rfl
      refine ov rfl (fun w' h' => r_ldC (o := i88.toNat * 3) Try.underlying105 sz105 rfl (us := [(.int .i64 ((el b i88.toNat).kind)), (.int .i64 ((el b i88.toNat).n)), s115.v]) rfl ((hM.call h').seeR (.tail _ (.tail _ (.tail _ (.head _))))) hi112 ⟨(Cs.get (i := i88.toNat) (j := 0) ((hM.call h').seeR (.tail _ (.tail _ (.tail _ (.head _))))) (fun _ => rfl) hi112 rfl), (Cs.get (i := i88.toNat) (j := 1) ((hM.call h').seeR (.tail _ (.tail _ (.tail _ (.head _))))) (fun _ => rfl) hi112 rfl), (hc116 w' h'), trivial⟩) ?_
      obtain ⟨r117, h118, hx⟩ := bind_some' hx
      refine oc rfl rfl (fun w' h' => (hM.call h').callV fun X S oL hS hR hO => ct_laws_eqPart _ X S (el a i88.toNat) s107 (el b i88.toNat) s115 hS (hR _ (.tail _ (.head _))) (hR _ (.head _)) oL h118) ?_
      refine ov rfl (fun w' h' => r_not rfl) ?_
      refine o_nil fun w121 hw122 => ?_
      have hM := hM.call hw122
      refine sq_n ?_
      refine wc_cond rfl (fun hc123 => ?_) (fun hc123 => ?_)
      · replace hx := xif_t hc123 hx
        refine wc_seq ?_
        refine wc_region ?_
        refine wv rfl (r_assign rfl) ?_
        refine wl_nil ?_
        refine sq_n ?_
        refine wc_ret ?_
        refine bk_ret ?_
        refine sq_ret ?_
        refine lp1_ret ?_
        obtain rfl := Option.some.inj hx
        obtain rfl := Option.some.inj hx95
        replace hx := hx87
        try dsimp only [Sum.elim_inl, Sum.elim_inr] at hx
        refine bk_ret ?_
        refine sq_ret ?_
        obtain rfl := Option.some.inj hx
        refine fin_ret [(.bool false)] ⟨rfl, trivial⟩ ?_
        replace hM := hM.t0
        have hM := hM.fewer rsN
        exact ⟨(), rfl, hM.gives⟩
      · replace hx := xif_f hc123 hx
        refine wc_skip ?_
        refine bk_n ?_
        refine sq_n ?_
        refine wc_region ?_
        refine wv rfl (r_move rfl) ?_
        obtain ⟨hg127, hx⟩ := xg_some hx
        refine wv rfl (r_add rfl rfl hg127) ?_
        refine wv rfl (r_assign rfl) ?_
        refine wl_nil ?_
        obtain rfl := Option.some.inj hx
        have hM := hM.fewer (rsC (.tail _ (.tail _ (.head _))) (rsC (.tail _ (.tail _ (.tail _ (.head _)))) rsN))
        replace hM : St ⟨w, X, S⟩ [] [rV s_a.v (cSl 3 fDPart a), rV s_b.v (cSl 3 fDPart b)] _ := hM
        exact lp_end (m93, i88 + 1) (Nat.lt_succ_self _) ⟨rfl, rfl, rfl, trivial⟩ ⟨hM, hx95⟩
    · replace hx := xif_f hc100 hx
      refine wc_exit ?_
      refine sq_exit ?_
      refine lp1_exit ?_
      obtain rfl := Option.some.inj hx
      obtain rfl := Option.some.inj hx95
      replace hx := hx87
      try dsimp only [Sum.elim_inl, Sum.elim_inr] at hx
      refine bk_here ?_
      refine sq_n ?_
      refine wc_seq ?_
      refine wc_region ?_
      refine wv rfl (r_assign rfl) ?_
      refine wl_nil ?_
      refine sq_n ?_
      refine wc_ret ?_
      obtain rfl := Option.some.inj hx
      refine fin_ret [(.bool true)] ⟨rfl, trivial⟩ ?_
      replace hM := hM.t0
      have hM := hM.fewer rsN
      exact ⟨(), rfl, hM.gives⟩

noncomputable def x_laws_eqEntry (a : DEntry) (b : DEntry) : Option Bool :=
  bif !decide (a.client = b.client) then (some false) else (bif !decide (a.seq = b.seq) then (some false) else (Option.bind (x_laws_eqPartS a.o b.o) fun r26 => bif !r26 then (some false) else (some true)))
theorem ct_laws_eqEntry (w : World) (X S : Bs) (a : DEntry) (s_a_2 : Sv) (b : DEntry) (s_b_2 : Sv) (hS : ∀ b, S b → b < w.heap.size ∧ ¬ X b) (a_a_2 : (cSl 3 fDPart a.o).rd S w s_a_2.v) (a_b_2 : (cSl 3 fDPart b.o).rd S w s_b_2.v) (oL : Sep [] X w) {r : Bool} (hx : x_laws_eqEntry a b = some r) :
    Ret Try.prog 76 [(.agg #[(.int .i64 a.client), (.int .i64 a.seq), s_a_2.v]), (.agg #[(.int .i64 b.client), (.int .i64 b.seq), s_b_2.v])] w (fun u w' => ∃ _ : Unit, u = (.bool r) ∧ Gives X S w [] [] w') := by
  unfold x_laws_eqEntry at hx
  refine enter Try.func76 rfl Try.ntmps76 (by kernel_rfl) rfl ?_
  have hM := St.enter oL hS
  have hM := hM.addE (r := rV s_a_2.v (cSl 3 fDPart a.o)) a_a_2
  have hM := hM.addE (r := rV s_b_2.v (cSl 3 fDPart b.o)) a_b_2
  refine wc_seq ?_
  refine wc_region ?_
  refine w_ex rfl (x_box rfl hM ?_); intro b34 w33 hR35 hM
  replace hM : St ⟨w, X, S⟩ [oBox b34 #[(.int .i64 a.client), (.int .i64 a.seq), s_a_2.v] 73] [rV s_b_2.v (cSl 3 fDPart b.o), rV s_a_2.v (cSl 3 fDPart a.o)] _ := hM
  refine w_ex rfl (x_box rfl hM ?_); intro b38 w37 hR39 hM
  replace hM : St ⟨w, X, S⟩ [oBox b38 #[(.int .i64 b.client), (.int .i64 b.seq), s_b_2.v] 73, oBox b34 #[(.int .i64 a.client), (.int .i64 a.seq), s_a_2.v] 73] [rV s_b_2.v (cSl 3 fDPart b.o), rV s_a_2.v (cSl 3 fDPart a.o)] _ := hM
  refine wv rfl (r_assign rfl) ?_
  refine wl_nil ?_
  refine sq_n ?_
  refine wc_seq ?_
  refine wc_seq ?_
  refine wc_region ?_
  refine wv rfl (r_fld Try.underlying73 rfl rfl sz3 rfl) ?_
  refine wv rfl (r_ldB Try.underlying3 rfl rfl hM (.tail _ (.head _)) rfl) ?_
  refine wv rfl (r_fld Try.underlying73 rfl rfl sz3 rfl) ?_
  refine wv rfl (r_ldB Try.underlying3 rfl rfl hM (.head _) rfl) ?_
  refine wv rfl (r_neq rfl rfl) ?_
  refine wl_nil ?_
  refine sq_n ?_
  refine wc_cond rfl (fun hc47 => ?_) (fun hc47 => ?_)
  · replace hx := xif_t hc47 hx
    refine wc_seq ?_
    refine wc_region ?_
    refine wv rfl (r_assign rfl) ?_
    refine wl_nil ?_
    refine sq_n ?_
    refine wc_ret ?_
    refine sq_ret ?_
    obtain rfl := Option.some.inj hx
    refine fin_ret [(.bool false)] ⟨rfl, trivial⟩ ?_
    replace hM := hM.t0
    have hM := hM.fewer rsN
    exact ⟨(), rfl, hM.gives⟩
  · replace hx := xif_f hc47 hx
    refine wc_skip ?_
    refine sq_n ?_
    refine wc_seq ?_
    refine wc_seq ?_
    refine wc_region ?_
    refine wv rfl (r_fld Try.underlying73 rfl rfl sz3 rfl) ?_
    refine wv rfl (r_ldB Try.underlying3 rfl rfl hM (.tail _ (.head _)) rfl) ?_
    refine wv rfl (r_fld Try.underlying73 rfl rfl sz3 rfl) ?_
    refine wv rfl (r_ldB Try.underlying3 rfl rfl hM (.head _) rfl) ?_
    refine wv rfl (r_neq rfl rfl) ?_
    refine wl_nil ?_
    refine sq_n ?_
    refine wc_cond rfl (fun hc54 => ?_) (fun hc54 => ?_)
    · replace hx := xif_t hc54 hx
      refine wc_seq ?_
      refine wc_region ?_
      refine wv rfl (r_assign rfl) ?_
      refine wl_nil ?_
      refine sq_n ?_
      refine wc_ret ?_
      refine sq_ret ?_
      obtain rfl := Option.some.inj hx
      refine fin_ret [(.bool false)] ⟨rfl, trivial⟩ ?_
      replace hM := hM.t0
      have hM := hM.fewer rsN
      exact ⟨(), rfl, hM.gives⟩
    · replace hx := xif_f hc54 hx
      refine wc_skip ?_
      refine sq_n ?_
      refine wc_seq ?_
      refine wc_seq ?_
      refine wc_region ?_
      refine wv rfl (r_fld Try.underlying73 rfl rfl sz33 rfl) ?_
      refine wv rfl (r_ldB Try.underlying33 rfl rfl hM (.tail _ (.head _)) rfl) ?_
      refine wv rfl (r_fld Try.underlying73 rfl rfl sz33 rfl) ?_
      refine wv rfl (r_ldB Try.underlying33 rfl rfl hM (.head _) rfl) ?_
      obtain ⟨r60, h61, hx⟩ := bind_some' hx
      refine w_call rfl rfl (hM.callV fun X S oL hS hR hO => ct_laws_eqPartS _ X S a.o s_a_2 b.o s_b_2 hS (hR _ (.tail _ (.head _))) (hR _ (.head _)) oL h61) ?_
      rintro _ w62 ⟨rfl, hR63⟩
      have hM := hM.call hR63
      refine wv rfl (r_not rfl) ?_
      refine wl_nil ?_
      refine sq_n ?_
      refine wc_cond rfl (fun hc65 => ?_) (fun hc65 => ?_)
      · replace hx := xif_t hc65 hx
        refine wc_seq ?_
        refine wc_region ?_
        refine wv rfl (r_assign rfl) ?_
        refine wl_nil ?_
        refine sq_n ?_
        refine wc_ret ?_
        refine sq_ret ?_
        obtain rfl := Option.some.inj hx
        refine fin_ret [(.bool false)] ⟨rfl, trivial⟩ ?_
        replace hM := hM.t0
        have hM := hM.fewer rsN
        exact ⟨(), rfl, hM.gives⟩
      · replace hx := xif_f hc65 hx
        refine wc_skip ?_
        refine sq_n ?_
        refine wc_seq ?_
        refine wc_region ?_
        refine wv rfl (r_assign rfl) ?_
        refine wl_nil ?_
        refine sq_n ?_
        refine wc_ret ?_
        obtain rfl := Option.some.inj hx
        refine fin_ret [(.bool true)] ⟨rfl, trivial⟩ ?_
        replace hM := hM.t0
        have hM := hM.fewer rsN
        exact ⟨(), rfl, hM.gives⟩

noncomputable def x_laws_eqEntryS_b0 (a : List DEntry) (b : List DEntry) (i9 : Int) : Option (Lr Int (Sum Unit Unit)) :=
  bif decide (i9 < (a.length : Int)) then (xg (0 ≤ i9 ∧ i9 < (a.length : Int)) <| xg (0 ≤ i9 ∧ i9 < (b.length : Int)) <| Option.bind (x_laws_eqEntry (el a i9.toNat) (el b i9.toNat)) fun r61 => bif !r61 then (some (Lr.out (Sum.inr (())))) else (xg (inI (i9 + 1)) <| some (Lr.go (i9 + 1)))) else (some (Lr.out (Sum.inl ())))
noncomputable def x_laws_eqEntryS_f0 (a : List DEntry) (b : List DEntry) (s72 : Int) : Option (Lr Int (Sum Unit Unit)) := x_laws_eqEntryS_b0 a b s72
noncomputable def x_laws_eqEntryS (a : List DEntry) (b : List DEntry) : Option Bool :=
  bif !decide ((a.length : Int) = (b.length : Int)) then (some false) else (Option.bind (iter (x_laws_eqEntryS_f0 a b) 0) fun (y73 : Sum Unit Unit) => Sum.elim (fun _y74 => some true) (fun _y75 => some false) y73)
theorem ct_laws_eqEntryS (w : World) (X S : Bs) (a : List DEntry) (s_a : Sv) (b : List DEntry) (s_b : Sv) (hS : ∀ b, S b → b < w.heap.size ∧ ¬ X b) (a_a_0 : (cSl 3 fDEntry a).rd S w s_a.v) (a_b_0 : (cSl 3 fDEntry b).rd S w s_b.v) (oL : Sep [] X w) {r : Bool} (hx : x_laws_eqEntryS a b = some r) :
    Ret Try.prog 44 [s_a.v, s_b.v] w (fun u w' => ∃ _ : Unit, u = (.bool r) ∧ Gives X S w [] [] w') := by
  unfold x_laws_eqEntryS at hx
  refine enter Try.func44 rfl Try.ntmps44 (by kernel_rfl) rfl ?_
  have hM := St.enter oL hS
  have hM := hM.addE (r := rV s_a.v (cSl 3 fDEntry a)) a_a_0
  have hM := hM.addE (r := rV s_b.v (cSl 3 fDEntry b)) a_b_0
  refine wc_seq ?_
  refine wc_region ?_
  refine wv rfl (r_assign rfl) ?_
  refine wl_nil ?_
  refine sq_n ?_
  refine wc_seq ?_
  refine wc_seq ?_
  refine wc_region ?_
  refine wv rfl (r_move rfl) ?_
  refine wv rfl (r_lenC Try.underlying36 rfl (hM.seeR (.tail _ (.head _)))) ?_
  refine wv rfl (r_move rfl) ?_
  refine wv rfl (r_lenC Try.underlying36 rfl (hM.seeR (.head _))) ?_
  refine wv rfl (r_neq rfl rfl) ?_
  refine wl_nil ?_
  refine sq_n ?_
  refine wc_cond rfl (fun hc83 => ?_) (fun hc83 => ?_)
  · replace hx := xif_t hc83 hx
    refine wc_seq ?_
    refine wc_region ?_
    refine wv rfl (r_assign rfl) ?_
    refine wl_nil ?_
    refine sq_n ?_
    refine wc_ret ?_
    refine sq_ret ?_
    obtain rfl := Option.some.inj hx
    refine fin_ret [(.bool false)] ⟨rfl, trivial⟩ ?_
    replace hM := hM.t0
    have hM := hM.fewer rsN
    exact ⟨(), rfl, hM.gives⟩
  · replace hx := xif_f hc83 hx
    refine wc_skip ?_
    refine sq_n ?_
    refine wc_seq ?_
    refine wc_seq ?_
    refine wc_region ?_
    refine wv rfl (r_assign rfl) ?_
    refine wl_nil ?_
    refine sq_n ?_
    refine wc_block ?_
    obtain ⟨y86, hx, hx87⟩ := bind_some' hx
    have hM := hM.fewer (rsC (.tail _ (.head _)) (rsC (.head _) rsN))
    replace hM : St ⟨w, X, S⟩ [] [rV s_a.v (cSl 3 fDEntry a), rV s_b.v (cSl 3 fDEntry b)] _ := hM
    obtain ⟨m91, hx⟩ := iter_run hx
    refine wc_loop (un fun (m89 : Nat) => fun (i88 : Int) => [(0, s_a.v), (1, s_b.v), (5, (.int .i64 i88))]) (un fun (m89 : Nat) => fun (i88 : Int) w' => St ⟨w, X, S⟩ [] [rV s_a.v (cSl 3 fDEntry a), rV s_b.v (cSl 3 fDEntry b)] w' ∧ iterN _ m89 i88 = some y86) (fun p => p.1) (m91, 0) ⟨rfl, rfl, rfl, trivial⟩ ⟨hM, hx⟩ ?_
    rintro ⟨m89, i88⟩ w92 ⟨hM, hx⟩
    obtain ⟨m93, z94, rfl, hx, hx95⟩ := iterN_step hx
    unfold x_laws_eqEntryS_f0 x_laws_eqEntryS_b0 at hx
    try dsimp only at hx
    refine wc_seq ?_
    refine wc_seq ?_
    refine wc_region ?_
    refine wv rfl (r_move rfl) ?_
    refine wv rfl (r_move rfl) ?_
    refine wv rfl (r_lenC Try.underlying36 rfl (hM.seeR (.head _))) ?_
    refine wv rfl (r_lss rfl rfl) ?_
    refine wl_nil ?_
    refine sq_n ?_
    refine wc_cond rfl (fun hc100 => ?_) (fun hc100 => ?_)
    · replace hx := xif_t hc100 hx
      refine wc_skip ?_
      refine sq_n ?_
      refine wc_seq ?_
      refine wc_block ?_
      refine wc_seq ?_
      refine wc_draw [(0, 0), (1, 0), (2, 0), (3, 0), (4, 0), (5, 0), (6, 0), (7, 0), (8, 0), (9, 0)] Try_mixed (by kernel_rfl) rfl (by kernel_rfl) rfl ?_
      refine ov rfl (fun w' h' => r_move rfl) ?_
      refine ov rfl (fun w' h' => r_move rfl) ?_
      obtain ⟨hg105, hx⟩ := xg_some hx
      have hi104 : i88.toNat < a.length := by omega
      refine ov rfl (fun w' h' => r_ixC Try.underlying36 sz73 rfl rfl ((hM.call h').seeR (.head _)) hg105) ?_
      obtain ⟨s107, hM, hc108⟩ := hM.leaf (i := i88.toNat) (j := 2) (.head _) (fun _ => rfl) hi104 rfl
      refine ov rfl (fun w' h' => r_ldC (o := i88.toNat * 3) Try.underlying73 sz73 rfl (us := [(.int .i64 ((el a i88.toNat).client)), (.int .i64 ((el a i88.toNat).seq)), s107.v]) rfl ((hM.call h').seeR (.tail _ (.head _))) hi104 ⟨(Cs.get (i := i88.toNat) (j := 0) ((hM.call h').seeR (.tail _ (.head _))) (fun _ => rfl) hi104 rfl), (Cs.get (i := i88.toNat) (j := 1) ((hM.call h').seeR (.tail _ (.head _))) (fun _ => rfl) hi104 rfl), (hc108 w' h'), trivial⟩) ?_
      refine ov rfl (fun w' h' => r_move rfl) ?_
      refine ov rfl (fun w' h' => r_move rfl) ?_
      obtain ⟨hg113, hx⟩ := xg_some hx
      have hi112 : i88.toNat < b.length := by omega
      refine ov rfl (fun w' h' => r_ixC Try.underlying36 sz73 rfl rfl ((hM.call h').seeR (.tail _ (.tail _ (.head _)))) hg113) ?_
      obtain ⟨s115, hM, hc116⟩ := hM.leaf (i := i88.toNat) (j := 2) (.tail _ (.tail _ (.head _))) (fun _ => rfl) hi112 rfl
      refine ov rfl (fun w' h' => r_ldC (o := i88.toNat * 3) Try.underlying73 sz73 rfl (us := [(.int .i64 ((el b i88.toNat).client)), (.int .i64 ((el b i88.toNat).seq)), s115.v]) rfl ((hM.call h').seeR (.tail _ (.tail _ (.tail _ (.head _))))) hi112 ⟨(Cs.get (i := i88.toNat) (j := 0) ((hM.call h').seeR (.tail _ (.tail _ (.tail _ (.head _))))) (fun _ => rfl) hi112 rfl), (Cs.get (i := i88.toNat) (j := 1) ((hM.call h').seeR (.tail _ (.tail _ (.tail _ (.head _))))) (fun _ => rfl) hi112 rfl), (hc116 w' h'), trivial⟩) ?_
      obtain ⟨r117, h118, hx⟩ := bind_some' hx
      refine oc rfl rfl (fun w' h' => (hM.call h').callV fun X S oL hS hR hO => ct_laws_eqEntry _ X S (el a i88.toNat) s107 (el b i88.toNat) s115 hS (hR _ (.tail _ (.head _))) (hR _ (.head _)) oL h118) ?_
      refine ov rfl (fun w' h' => r_not rfl) ?_
      refine o_nil fun w121 hw122 => ?_
      have hM := hM.call hw122
      refine sq_n ?_
      refine wc_cond rfl (fun hc123 => ?_) (fun hc123 => ?_)
      · replace hx := xif_t hc123 hx
        refine wc_seq ?_
        refine wc_region ?_
        refine wv rfl (r_assign rfl) ?_
        refine wl_nil ?_
        refine sq_n ?_
        refine wc_ret ?_
        refine bk_ret ?_
        refine sq_ret ?_
        refine lp1_ret ?_
        obtain rfl := Option.some.inj hx
        obtain rfl := Option.some.inj hx95
        replace hx := hx87
        try dsimp only [Sum.elim_inl, Sum.elim_inr] at hx
        refine bk_ret ?_
        refine sq_ret ?_
        obtain rfl := Option.some.inj hx
        refine fin_ret [(.bool false)] ⟨rfl, trivial⟩ ?_
        replace hM := hM.t0
        have hM := hM.fewer rsN
        exact ⟨(), rfl, hM.gives⟩
      · replace hx := xif_f hc123 hx
        refine wc_skip ?_
        refine bk_n ?_
        refine sq_n ?_
        refine wc_region ?_
        refine wv rfl (r_move rfl) ?_
        obtain ⟨hg127, hx⟩ := xg_some hx
        refine wv rfl (r_add rfl rfl hg127) ?_
        refine wv rfl (r_assign rfl) ?_
        refine wl_nil ?_
        obtain rfl := Option.some.inj hx
        have hM := hM.fewer (rsC (.tail _ (.tail _ (.head _))) (rsC (.tail _ (.tail _ (.tail _ (.head _)))) rsN))
        replace hM : St ⟨w, X, S⟩ [] [rV s_a.v (cSl 3 fDEntry a), rV s_b.v (cSl 3 fDEntry b)] _ := hM
        exact lp_end (m93, i88 + 1) (Nat.lt_succ_self _) ⟨rfl, rfl, rfl, trivial⟩ ⟨hM, hx95⟩
    · replace hx := xif_f hc100 hx
      refine wc_exit ?_
      refine sq_exit ?_
      refine lp1_exit ?_
      obtain rfl := Option.some.inj hx
      obtain rfl := Option.some.inj hx95
      replace hx := hx87
      try dsimp only [Sum.elim_inl, Sum.elim_inr] at hx
      refine bk_here ?_
      refine sq_n ?_
      refine wc_seq ?_
      refine wc_region ?_
      refine wv rfl (r_assign rfl) ?_
      refine wl_nil ?_
      refine sq_n ?_
      refine wc_ret ?_
      obtain rfl := Option.some.inj hx
      refine fin_ret [(.bool true)] ⟨rfl, trivial⟩ ?_
      replace hM := hM.t0
      have hM := hM.fewer rsN
      exact ⟨(), rfl, hM.gives⟩

noncomputable def x_laws_eqSeen (a : DSeen) (b : DSeen) : Option Bool :=
  bif !decide (a.client = b.client) then (some false) else (bif !decide (a.seq = b.seq) then (some false) else (bif !decide (a.rev = b.rev) then (some false) else (some true)))
theorem ct_laws_eqSeen (w : World) (X S : Bs) (a : DSeen) (b : DSeen) (hS : ∀ b, S b → b < w.heap.size ∧ ¬ X b)  (oL : Sep [] X w) {r : Bool} (hx : x_laws_eqSeen a b = some r) :
    Ret Try.prog 77 [(.agg #[(.int .i64 a.client), (.int .i64 a.seq), (.int .i64 a.rev)]), (.agg #[(.int .i64 b.client), (.int .i64 b.seq), (.int .i64 b.rev)])] w (fun u w' => ∃ _ : Unit, u = (.bool r) ∧ Gives X S w [] [] w') := by
  unfold x_laws_eqSeen at hx
  refine enter Try.func77 rfl Try.ntmps77 (by kernel_rfl) rfl ?_
  have hM := St.enter oL hS
  refine wc_seq ?_
  refine wc_region ?_
  refine w_ex rfl (x_box rfl hM ?_); intro b30 w29 hR31 hM
  replace hM : St ⟨w, X, S⟩ [oBox b30 #[(.int .i64 a.client), (.int .i64 a.seq), (.int .i64 a.rev)] 76] [] _ := hM
  refine w_ex rfl (x_box rfl hM ?_); intro b34 w33 hR35 hM
  replace hM : St ⟨w, X, S⟩ [oBox b34 #[(.int .i64 b.client), (.int .i64 b.seq), (.int .i64 b.rev)] 76, oBox b30 #[(.int .i64 a.client), (.int .i64 a.seq), (.int .i64 a.rev)] 76] [] _ := hM
  refine wv rfl (r_assign rfl) ?_
  refine wl_nil ?_
  refine sq_n ?_
  refine wc_seq ?_
  refine wc_seq ?_
  refine wc_region ?_
  refine wv rfl (r_fld Try.underlying76 rfl rfl sz3 rfl) ?_
  refine wv rfl (r_ldB Try.underlying3 rfl rfl hM (.tail _ (.head _)) rfl) ?_
  refine wv rfl (r_fld Try.underlying76 rfl rfl sz3 rfl) ?_
  refine wv rfl (r_ldB Try.underlying3 rfl rfl hM (.head _) rfl) ?_
  refine wv rfl (r_neq rfl rfl) ?_
  refine wl_nil ?_
  refine sq_n ?_
  refine wc_cond rfl (fun hc43 => ?_) (fun hc43 => ?_)
  · replace hx := xif_t hc43 hx
    refine wc_seq ?_
    refine wc_region ?_
    refine wv rfl (r_assign rfl) ?_
    refine wl_nil ?_
    refine sq_n ?_
    refine wc_ret ?_
    refine sq_ret ?_
    obtain rfl := Option.some.inj hx
    refine fin_ret [(.bool false)] ⟨rfl, trivial⟩ ?_
    replace hM := hM.t0
    have hM := hM.fewer rsN
    exact ⟨(), rfl, hM.gives⟩
  · replace hx := xif_f hc43 hx
    refine wc_skip ?_
    refine sq_n ?_
    refine wc_seq ?_
    refine wc_seq ?_
    refine wc_region ?_
    refine wv rfl (r_fld Try.underlying76 rfl rfl sz3 rfl) ?_
    refine wv rfl (r_ldB Try.underlying3 rfl rfl hM (.tail _ (.head _)) rfl) ?_
    refine wv rfl (r_fld Try.underlying76 rfl rfl sz3 rfl) ?_
    refine wv rfl (r_ldB Try.underlying3 rfl rfl hM (.head _) rfl) ?_
    refine wv rfl (r_neq rfl rfl) ?_
    refine wl_nil ?_
    refine sq_n ?_
    refine wc_cond rfl (fun hc50 => ?_) (fun hc50 => ?_)
    · replace hx := xif_t hc50 hx
      refine wc_seq ?_
      refine wc_region ?_
      refine wv rfl (r_assign rfl) ?_
      refine wl_nil ?_
      refine sq_n ?_
      refine wc_ret ?_
      refine sq_ret ?_
      obtain rfl := Option.some.inj hx
      refine fin_ret [(.bool false)] ⟨rfl, trivial⟩ ?_
      replace hM := hM.t0
      have hM := hM.fewer rsN
      exact ⟨(), rfl, hM.gives⟩
    · replace hx := xif_f hc50 hx
      refine wc_skip ?_
      refine sq_n ?_
      refine wc_seq ?_
      refine wc_seq ?_
      refine wc_region ?_
      refine wv rfl (r_fld Try.underlying76 rfl rfl sz3 rfl) ?_
      refine wv rfl (r_ldB Try.underlying3 rfl rfl hM (.tail _ (.head _)) rfl) ?_
      refine wv rfl (r_fld Try.underlying76 rfl rfl sz3 rfl) ?_
      refine wv rfl (r_ldB Try.underlying3 rfl rfl hM (.head _) rfl) ?_
      refine wv rfl (r_neq rfl rfl) ?_
      refine wl_nil ?_
      refine sq_n ?_
      refine wc_cond rfl (fun hc57 => ?_) (fun hc57 => ?_)
      · replace hx := xif_t hc57 hx
        refine wc_seq ?_
        refine wc_region ?_
        refine wv rfl (r_assign rfl) ?_
        refine wl_nil ?_
        refine sq_n ?_
        refine wc_ret ?_
        refine sq_ret ?_
        obtain rfl := Option.some.inj hx
        refine fin_ret [(.bool false)] ⟨rfl, trivial⟩ ?_
        replace hM := hM.t0
        have hM := hM.fewer rsN
        exact ⟨(), rfl, hM.gives⟩
      · replace hx := xif_f hc57 hx
        refine wc_skip ?_
        refine sq_n ?_
        refine wc_seq ?_
        refine wc_region ?_
        refine wv rfl (r_assign rfl) ?_
        refine wl_nil ?_
        refine sq_n ?_
        refine wc_ret ?_
        obtain rfl := Option.some.inj hx
        refine fin_ret [(.bool true)] ⟨rfl, trivial⟩ ?_
        replace hM := hM.t0
        have hM := hM.fewer rsN
        exact ⟨(), rfl, hM.gives⟩

noncomputable def x_laws_eqSeenS_b0 (a : List DSeen) (b : List DSeen) (i9 : Int) : Option (Lr Int (Sum Unit Unit)) :=
  bif decide (i9 < (a.length : Int)) then (xg (0 ≤ i9 ∧ i9 < (a.length : Int)) <| xg (0 ≤ i9 ∧ i9 < (b.length : Int)) <| Option.bind (x_laws_eqSeen (el a i9.toNat) (el b i9.toNat)) fun r53 => bif !r53 then (some (Lr.out (Sum.inr (())))) else (xg (inI (i9 + 1)) <| some (Lr.go (i9 + 1)))) else (some (Lr.out (Sum.inl ())))
noncomputable def x_laws_eqSeenS_f0 (a : List DSeen) (b : List DSeen) (s64 : Int) : Option (Lr Int (Sum Unit Unit)) := x_laws_eqSeenS_b0 a b s64
noncomputable def x_laws_eqSeenS (a : List DSeen) (b : List DSeen) : Option Bool :=
  bif !decide ((a.length : Int) = (b.length : Int)) then (some false) else (Option.bind (iter (x_laws_eqSeenS_f0 a b) 0) fun (y65 : Sum Unit Unit) => Sum.elim (fun _y66 => some true) (fun _y67 => some false) y65)
theorem ct_laws_eqSeenS (w : World) (X S : Bs) (a : List DSeen) (s_a : Sv) (b : List DSeen) (s_b : Sv) (hS : ∀ b, S b → b < w.heap.size ∧ ¬ X b) (a_a_0 : (cSl 3 fDSeen a).rd S w s_a.v) (a_b_0 : (cSl 3 fDSeen b).rd S w s_b.v) (oL : Sep [] X w) {r : Bool} (hx : x_laws_eqSeenS a b = some r) :
    Ret Try.prog 45 [s_a.v, s_b.v] w (fun u w' => ∃ _ : Unit, u = (.bool r) ∧ Gives X S w [] [] w') := by
  unfold x_laws_eqSeenS at hx
  refine enter Try.func45 rfl Try.ntmps45 (by kernel_rfl) rfl ?_
  have hM := St.enter oL hS
  have hM := hM.addE (r := rV s_a.v (cSl 3 fDSeen a)) a_a_0
  have hM := hM.addE (r := rV s_b.v (cSl 3 fDSeen b)) a_b_0
  refine wc_seq ?_
  refine wc_region ?_
  refine wv rfl (r_assign rfl) ?_
  refine wl_nil ?_
  refine sq_n ?_
  refine wc_seq ?_
  refine wc_seq ?_
  refine wc_region ?_
  refine wv rfl (r_move rfl) ?_
  refine wv rfl (r_lenC Try.underlying51 rfl (hM.seeR (.tail _ (.head _)))) ?_
  refine wv rfl (r_move rfl) ?_
  refine wv rfl (r_lenC Try.underlying51 rfl (hM.seeR (.head _))) ?_
  refine wv rfl (r_neq rfl rfl) ?_
  refine wl_nil ?_
  refine sq_n ?_
  refine wc_cond rfl (fun hc75 => ?_) (fun hc75 => ?_)
  · replace hx := xif_t hc75 hx
    refine wc_seq ?_
    refine wc_region ?_
    refine wv rfl (r_assign rfl) ?_
    refine wl_nil ?_
    refine sq_n ?_
    refine wc_ret ?_
    refine sq_ret ?_
    obtain rfl := Option.some.inj hx
    refine fin_ret [(.bool false)] ⟨rfl, trivial⟩ ?_
    replace hM := hM.t0
    have hM := hM.fewer rsN
    exact ⟨(), rfl, hM.gives⟩
  · replace hx := xif_f hc75 hx
    refine wc_skip ?_
    refine sq_n ?_
    refine wc_seq ?_
    refine wc_seq ?_
    refine wc_region ?_
    refine wv rfl (r_assign rfl) ?_
    refine wl_nil ?_
    refine sq_n ?_
    refine wc_block ?_
    obtain ⟨y78, hx, hx79⟩ := bind_some' hx
    have hM := hM.fewer (rsC (.tail _ (.head _)) (rsC (.head _) rsN))
    replace hM : St ⟨w, X, S⟩ [] [rV s_a.v (cSl 3 fDSeen a), rV s_b.v (cSl 3 fDSeen b)] _ := hM
    obtain ⟨m83, hx⟩ := iter_run hx
    refine wc_loop (un fun (m81 : Nat) => fun (i80 : Int) => [(0, s_a.v), (1, s_b.v), (5, (.int .i64 i80))]) (un fun (m81 : Nat) => fun (i80 : Int) w' => St ⟨w, X, S⟩ [] [rV s_a.v (cSl 3 fDSeen a), rV s_b.v (cSl 3 fDSeen b)] w' ∧ iterN _ m81 i80 = some y78) (fun p => p.1) (m83, 0) ⟨rfl, rfl, rfl, trivial⟩ ⟨hM, hx⟩ ?_
    rintro ⟨m81, i80⟩ w84 ⟨hM, hx⟩
    obtain ⟨m85, z86, rfl, hx, hx87⟩ := iterN_step hx
    unfold x_laws_eqSeenS_f0 x_laws_eqSeenS_b0 at hx
    try dsimp only at hx
    refine wc_seq ?_
    refine wc_seq ?_
    refine wc_region ?_
    refine wv rfl (r_move rfl) ?_
    refine wv rfl (r_move rfl) ?_
    refine wv rfl (r_lenC Try.underlying51 rfl (hM.seeR (.head _))) ?_
    refine wv rfl (r_lss rfl rfl) ?_
    refine wl_nil ?_
    refine sq_n ?_
    refine wc_cond rfl (fun hc92 => ?_) (fun hc92 => ?_)
    · replace hx := xif_t hc92 hx
      refine wc_skip ?_
      refine sq_n ?_
      refine wc_seq ?_
      refine wc_block ?_
      refine wc_seq ?_
      refine wc_draw [(0, 0), (1, 0), (2, 0), (3, 0), (4, 0), (5, 0), (6, 0), (7, 0), (8, 0), (9, 0)] Try_mixed (by kernel_rfl) rfl (by kernel_rfl) rfl ?_
      refine ov rfl (fun w' h' => r_move rfl) ?_
      refine ov rfl (fun w' h' => r_move rfl) ?_
      obtain ⟨hg97, hx⟩ := xg_some hx
      have hi96 : i80.toNat < a.length := by omega
      refine ov rfl (fun w' h' => r_ixC Try.underlying51 sz76 rfl rfl ((hM.call h').seeR (.head _)) hg97) ?_
      refine ov rfl (fun w' h' => r_ldC (o := i80.toNat * 3) Try.underlying76 sz76 rfl (us := [(.int .i64 ((el a i80.toNat).client)), (.int .i64 ((el a i80.toNat).seq)), (.int .i64 ((el a i80.toNat).rev))]) rfl ((hM.call h').seeR (.head _)) hi96 ⟨(Cs.get (i := i80.toNat) (j := 0) ((hM.call h').seeR (.head _)) (fun _ => rfl) hi96 rfl), (Cs.get (i := i80.toNat) (j := 1) ((hM.call h').seeR (.head _)) (fun _ => rfl) hi96 rfl), (Cs.get (i := i80.toNat) (j := 2) ((hM.call h').seeR (.head _)) (fun _ => rfl) hi96 rfl), trivial⟩) ?_
      refine ov rfl (fun w' h' => r_move rfl) ?_
      refine ov rfl (fun w' h' => r_move rfl) ?_
      obtain ⟨hg103, hx⟩ := xg_some hx
      have hi102 : i80.toNat < b.length := by omega
      refine ov rfl (fun w' h' => r_ixC Try.underlying51 sz76 rfl rfl ((hM.call h').seeR (.tail _ (.head _))) hg103) ?_
      refine ov rfl (fun w' h' => r_ldC (o := i80.toNat * 3) Try.underlying76 sz76 rfl (us := [(.int .i64 ((el b i80.toNat).client)), (.int .i64 ((el b i80.toNat).seq)), (.int .i64 ((el b i80.toNat).rev))]) rfl ((hM.call h').seeR (.tail _ (.head _))) hi102 ⟨(Cs.get (i := i80.toNat) (j := 0) ((hM.call h').seeR (.tail _ (.head _))) (fun _ => rfl) hi102 rfl), (Cs.get (i := i80.toNat) (j := 1) ((hM.call h').seeR (.tail _ (.head _))) (fun _ => rfl) hi102 rfl), (Cs.get (i := i80.toNat) (j := 2) ((hM.call h').seeR (.tail _ (.head _))) (fun _ => rfl) hi102 rfl), trivial⟩) ?_
      obtain ⟨r105, h106, hx⟩ := bind_some' hx
      refine oc rfl rfl (fun w' h' => (hM.call h').callV fun X S oL hS hR hO => ct_laws_eqSeen _ X S (el a i80.toNat) (el b i80.toNat) hS  oL h106) ?_
      refine ov rfl (fun w' h' => r_not rfl) ?_
      refine o_nil fun w109 hw110 => ?_
      have hM := hM.call hw110
      refine sq_n ?_
      refine wc_cond rfl (fun hc111 => ?_) (fun hc111 => ?_)
      · replace hx := xif_t hc111 hx
        refine wc_seq ?_
        refine wc_region ?_
        refine wv rfl (r_assign rfl) ?_
        refine wl_nil ?_
        refine sq_n ?_
        refine wc_ret ?_
        refine bk_ret ?_
        refine sq_ret ?_
        refine lp1_ret ?_
        obtain rfl := Option.some.inj hx
        obtain rfl := Option.some.inj hx87
        replace hx := hx79
        try dsimp only [Sum.elim_inl, Sum.elim_inr] at hx
        refine bk_ret ?_
        refine sq_ret ?_
        obtain rfl := Option.some.inj hx
        refine fin_ret [(.bool false)] ⟨rfl, trivial⟩ ?_
        replace hM := hM.t0
        have hM := hM.fewer rsN
        exact ⟨(), rfl, hM.gives⟩
      · replace hx := xif_f hc111 hx
        refine wc_skip ?_
        refine bk_n ?_
        refine sq_n ?_
        refine wc_region ?_
        refine wv rfl (r_move rfl) ?_
        obtain ⟨hg115, hx⟩ := xg_some hx
        refine wv rfl (r_add rfl rfl hg115) ?_
        refine wv rfl (r_assign rfl) ?_
        refine wl_nil ?_
        obtain rfl := Option.some.inj hx
        exact lp_end (m85, i80 + 1) (Nat.lt_succ_self _) ⟨rfl, rfl, rfl, trivial⟩ ⟨hM, hx87⟩
    · replace hx := xif_f hc92 hx
      refine wc_exit ?_
      refine sq_exit ?_
      refine lp1_exit ?_
      obtain rfl := Option.some.inj hx
      obtain rfl := Option.some.inj hx87
      replace hx := hx79
      try dsimp only [Sum.elim_inl, Sum.elim_inr] at hx
      refine bk_here ?_
      refine sq_n ?_
      refine wc_seq ?_
      refine wc_region ?_
      refine wv rfl (r_assign rfl) ?_
      refine wl_nil ?_
      refine sq_n ?_
      refine wc_ret ?_
      obtain rfl := Option.some.inj hx
      refine fin_ret [(.bool true)] ⟨rfl, trivial⟩ ?_
      replace hM := hM.t0
      have hM := hM.fewer rsN
      exact ⟨(), rfl, hM.gives⟩

noncomputable def x_laws_eqDoc (a : DDoc) (b : DDoc) : Option Bool :=
  bif !decide (a.name = b.name) then (some false) else (bif !decide (a.from_ = b.from_) then (some false) else (Option.bind (x_laws_eqIntS a.text b.text) fun r26 => bif !r26 then (some false) else (Option.bind (x_laws_eqEntryS a.list b.list) fun r36 => bif !r36 then (some false) else (Option.bind (x_laws_eqSeenS a.seen b.seen) fun r46 => bif !r46 then (some false) else (some true)))))
theorem ct_laws_eqDoc (w : World) (X S : Bs) (a : DDoc) (s_a_2 : Sv) (s_a_3 : Sv) (s_a_4 : Sv) (b : DDoc) (s_b_2 : Sv) (s_b_3 : Sv) (s_b_4 : Sv) (hS : ∀ b, S b → b < w.heap.size ∧ ¬ X b) (a_a_2 : (cSl 1 fI a.text).rd S w s_a_2.v) (a_a_3 : (cSl 3 fDEntry a.list).rd S w s_a_3.v) (a_a_4 : (cSl 3 fDSeen a.seen).rd S w s_a_4.v) (a_b_2 : (cSl 1 fI b.text).rd S w s_b_2.v) (a_b_3 : (cSl 3 fDEntry b.list).rd S w s_b_3.v) (a_b_4 : (cSl 3 fDSeen b.seen).rd S w s_b_4.v) (oL : Sep [] X w) {r : Bool} (hx : x_laws_eqDoc a b = some r) :
    Ret Try.prog 15 [(.agg #[(.string a.name), (.int .i64 a.from_), s_a_2.v, s_a_3.v, s_a_4.v]), (.agg #[(.string b.name), (.int .i64 b.from_), s_b_2.v, s_b_3.v, s_b_4.v])] w (fun u w' => ∃ _ : Unit, u = (.bool r) ∧ Gives X S w [] [] w') := by
  unfold x_laws_eqDoc at hx
  refine enter Try.func15 rfl Try.ntmps15 (by kernel_rfl) rfl ?_
  have hM := St.enter oL hS
  have hM := hM.addE (r := rV s_a_2.v (cSl 1 fI a.text)) a_a_2
  have hM := hM.addE (r := rV s_a_3.v (cSl 3 fDEntry a.list)) a_a_3
  have hM := hM.addE (r := rV s_a_4.v (cSl 3 fDSeen a.seen)) a_a_4
  have hM := hM.addE (r := rV s_b_2.v (cSl 1 fI b.text)) a_b_2
  have hM := hM.addE (r := rV s_b_3.v (cSl 3 fDEntry b.list)) a_b_3
  have hM := hM.addE (r := rV s_b_4.v (cSl 3 fDSeen b.seen)) a_b_4
  refine wc_seq ?_
  refine wc_region ?_
  refine w_ex rfl (x_box rfl hM ?_); intro b54 w53 hR55 hM
  replace hM : St ⟨w, X, S⟩ [oBox b54 #[(.string a.name), (.int .i64 a.from_), s_a_2.v, s_a_3.v, s_a_4.v] 53] [rV s_b_4.v (cSl 3 fDSeen b.seen), rV s_b_3.v (cSl 3 fDEntry b.list), rV s_b_2.v (cSl 1 fI b.text), rV s_a_4.v (cSl 3 fDSeen a.seen), rV s_a_3.v (cSl 3 fDEntry a.list), rV s_a_2.v (cSl 1 fI a.text)] _ := hM
  refine w_ex rfl (x_box rfl hM ?_); intro b58 w57 hR59 hM
  replace hM : St ⟨w, X, S⟩ [oBox b58 #[(.string b.name), (.int .i64 b.from_), s_b_2.v, s_b_3.v, s_b_4.v] 53, oBox b54 #[(.string a.name), (.int .i64 a.from_), s_a_2.v, s_a_3.v, s_a_4.v] 53] [rV s_b_4.v (cSl 3 fDSeen b.seen), rV s_b_3.v (cSl 3 fDEntry b.list), rV s_b_2.v (cSl 1 fI b.text), rV s_a_4.v (cSl 3 fDSeen a.seen), rV s_a_3.v (cSl 3 fDEntry a.list), rV s_a_2.v (cSl 1 fI a.text)] _ := hM
  refine wv rfl (r_assign rfl) ?_
  refine wl_nil ?_
  refine sq_n ?_
  refine wc_seq ?_
  refine wc_seq ?_
  refine wc_region ?_
  refine wv rfl (r_fld Try.underlying53 rfl rfl sz9 rfl) ?_
  refine wv rfl (r_ldB Try.underlying9 rfl rfl hM (.tail _ (.head _)) rfl) ?_
  refine wv rfl (r_fld Try.underlying53 rfl rfl sz9 rfl) ?_
  refine wv rfl (r_ldB Try.underlying9 rfl rfl hM (.head _) rfl) ?_
  refine wv rfl (r_neqs rfl rfl) ?_
  refine wl_nil ?_
  refine sq_n ?_
  refine wc_cond rfl (fun hc67 => ?_) (fun hc67 => ?_)
  · replace hx := xif_t hc67 hx
    refine wc_seq ?_
    refine wc_region ?_
    refine wv rfl (r_assign rfl) ?_
    refine wl_nil ?_
    refine sq_n ?_
    refine wc_ret ?_
    refine sq_ret ?_
    obtain rfl := Option.some.inj hx
    refine fin_ret [(.bool false)] ⟨rfl, trivial⟩ ?_
    replace hM := hM.t0
    have hM := hM.fewer rsN
    exact ⟨(), rfl, hM.gives⟩
  · replace hx := xif_f hc67 hx
    refine wc_skip ?_
    refine sq_n ?_
    refine wc_seq ?_
    refine wc_seq ?_
    refine wc_region ?_
    refine wv rfl (r_fld Try.underlying53 rfl rfl sz3 rfl) ?_
    refine wv rfl (r_ldB Try.underlying3 rfl rfl hM (.tail _ (.head _)) rfl) ?_
    refine wv rfl (r_fld Try.underlying53 rfl rfl sz3 rfl) ?_
    refine wv rfl (r_ldB Try.underlying3 rfl rfl hM (.head _) rfl) ?_
    refine wv rfl (r_neq rfl rfl) ?_
    refine wl_nil ?_
    refine sq_n ?_
    refine wc_cond rfl (fun hc74 => ?_) (fun hc74 => ?_)
    · replace hx := xif_t hc74 hx
      refine wc_seq ?_
      refine wc_region ?_
      refine wv rfl (r_assign rfl) ?_
      refine wl_nil ?_
      refine sq_n ?_
      refine wc_ret ?_
      refine sq_ret ?_
      obtain rfl := Option.some.inj hx
      refine fin_ret [(.bool false)] ⟨rfl, trivial⟩ ?_
      replace hM := hM.t0
      have hM := hM.fewer rsN
      exact ⟨(), rfl, hM.gives⟩
    · replace hx := xif_f hc74 hx
      refine wc_skip ?_
      refine sq_n ?_
      refine wc_seq ?_
      refine wc_seq ?_
      refine wc_region ?_
      refine wv rfl (r_fld Try.underlying53 rfl rfl sz23 rfl) ?_
      refine wv rfl (r_ldB Try.underlying23 rfl rfl hM (.tail _ (.head _)) rfl) ?_
      refine wv rfl (r_fld Try.underlying53 rfl rfl sz23 rfl) ?_
      refine wv rfl (r_ldB Try.underlying23 rfl rfl hM (.head _) rfl) ?_
      obtain ⟨r80, h81, hx⟩ := bind_some' hx
      refine w_call rfl rfl (hM.callV fun X S oL hS hR hO => ct_laws_eqIntS _ X S a.text s_a_2 b.text s_b_2 hS (hR _ (.tail _ (.tail _ (.tail _ (.tail _ (.tail _ (.head _))))))) (hR _ (.tail _ (.tail _ (.head _)))) oL h81) ?_
      rintro _ w82 ⟨rfl, hR83⟩
      have hM := hM.call hR83
      refine wv rfl (r_not rfl) ?_
      refine wl_nil ?_
      refine sq_n ?_
      refine wc_cond rfl (fun hc85 => ?_) (fun hc85 => ?_)
      · replace hx := xif_t hc85 hx
        refine wc_seq ?_
        refine wc_region ?_
        refine wv rfl (r_assign rfl) ?_
        refine wl_nil ?_
        refine sq_n ?_
        refine wc_ret ?_
        refine sq_ret ?_
        obtain rfl := Option.some.inj hx
        refine fin_ret [(.bool false)] ⟨rfl, trivial⟩ ?_
        replace hM := hM.t0
        have hM := hM.fewer rsN
        exact ⟨(), rfl, hM.gives⟩
      · replace hx := xif_f hc85 hx
        refine wc_skip ?_
        refine sq_n ?_
        refine wc_seq ?_
        refine wc_seq ?_
        refine wc_region ?_
        refine wv rfl (r_fld Try.underlying53 rfl rfl sz36 rfl) ?_
        refine wv rfl (r_ldB Try.underlying36 rfl rfl hM (.tail _ (.head _)) rfl) ?_
        refine wv rfl (r_fld Try.underlying53 rfl rfl sz36 rfl) ?_
        refine wv rfl (r_ldB Try.underlying36 rfl rfl hM (.head _) rfl) ?_
        obtain ⟨r91, h92, hx⟩ := bind_some' hx
        refine w_call rfl rfl (hM.callV fun X S oL hS hR hO => ct_laws_eqEntryS _ X S a.list s_a_3 b.list s_b_3 hS (hR _ (.tail _ (.tail _ (.tail _ (.tail _ (.head _)))))) (hR _ (.tail _ (.head _))) oL h92) ?_
        rintro _ w93 ⟨rfl, hR94⟩
        have hM := hM.call hR94
        refine wv rfl (r_not rfl) ?_
        refine wl_nil ?_
        refine sq_n ?_
        refine wc_cond rfl (fun hc96 => ?_) (fun hc96 => ?_)
        · replace hx := xif_t hc96 hx
          refine wc_seq ?_
          refine wc_region ?_
          refine wv rfl (r_assign rfl) ?_
          refine wl_nil ?_
          refine sq_n ?_
          refine wc_ret ?_
          refine sq_ret ?_
          obtain rfl := Option.some.inj hx
          refine fin_ret [(.bool false)] ⟨rfl, trivial⟩ ?_
          replace hM := hM.t0
          have hM := hM.fewer rsN
          exact ⟨(), rfl, hM.gives⟩
        · replace hx := xif_f hc96 hx
          refine wc_skip ?_
          refine sq_n ?_
          refine wc_seq ?_
          refine wc_seq ?_
          refine wc_region ?_
          refine wv rfl (r_fld Try.underlying53 rfl rfl sz51 rfl) ?_
          refine wv rfl (r_ldB Try.underlying51 rfl rfl hM (.tail _ (.head _)) rfl) ?_
          refine wv rfl (r_fld Try.underlying53 rfl rfl sz51 rfl) ?_
          refine wv rfl (r_ldB Try.underlying51 rfl rfl hM (.head _) rfl) ?_
          obtain ⟨r102, h103, hx⟩ := bind_some' hx
          refine w_call rfl rfl (hM.callV fun X S oL hS hR hO => ct_laws_eqSeenS _ X S a.seen s_a_4 b.seen s_b_4 hS (hR _ (.tail _ (.tail _ (.tail _ (.head _))))) (hR _ (.head _)) oL h103) ?_
          rintro _ w104 ⟨rfl, hR105⟩
          have hM := hM.call hR105
          refine wv rfl (r_not rfl) ?_
          refine wl_nil ?_
          refine sq_n ?_
          refine wc_cond rfl (fun hc107 => ?_) (fun hc107 => ?_)
          · replace hx := xif_t hc107 hx
            refine wc_seq ?_
            refine wc_region ?_
            refine wv rfl (r_assign rfl) ?_
            refine wl_nil ?_
            refine sq_n ?_
            refine wc_ret ?_
            refine sq_ret ?_
            obtain rfl := Option.some.inj hx
            refine fin_ret [(.bool false)] ⟨rfl, trivial⟩ ?_
            replace hM := hM.t0
            have hM := hM.fewer rsN
            exact ⟨(), rfl, hM.gives⟩
          · replace hx := xif_f hc107 hx
            refine wc_skip ?_
            refine sq_n ?_
            refine wc_seq ?_
            refine wc_region ?_
            refine wv rfl (r_assign rfl) ?_
            refine wl_nil ?_
            refine sq_n ?_
            refine wc_ret ?_
            obtain rfl := Option.some.inj hx
            refine fin_ret [(.bool true)] ⟨rfl, trivial⟩ ?_
            replace hM := hM.t0
            have hM := hM.fewer rsN
            exact ⟨(), rfl, hM.gives⟩

noncomputable def x_laws_markIntS_b0 (k26 : Int) (i27 : Int) (l28 : List Int) : Option (Lr (Int × Int × List Int) (Int × List Int)) :=
  bif decide (i27 < (l28.length : Int)) then (xg (0 ≤ i27 ∧ i27 < (l28.length : Int)) <| xg (inI (k26 + 1)) <| xg (inI (i27 + 1)) <| some (Lr.go (k26 + 1, i27 + 1, l28.set i27.toNat k26))) else (some (Lr.out (k26, l28)))
noncomputable def x_laws_markIntS_f0 (s70 : Int × Int × List Int) : Option (Lr (Int × Int × List Int) (Int × List Int)) := x_laws_markIntS_b0 s70.1 s70.2.1 s70.2.2
noncomputable def x_laws_markIntS (a : List Int) (k : Int) : Option (Int × List Int) :=
  Option.bind (iter (x_laws_markIntS_f0) (k, 0, a)) fun (y71 : Int × List Int) => some (y71.1, y71.2)
theorem ct_laws_markIntS (w : World) (X S : Bs) (a : List Int) (s_a : Sv) (k : Int) (hS : ∀ b, S b → b < w.heap.size ∧ ¬ X b)  (oL : Sep [oC (cSl 1 fI a) s_a.v] X w) {r : Int × List Int} (hx : x_laws_markIntS a k = some r) :
    Ret Try.prog 46 [s_a.v, (.int .i64 k)] w (fun u w' => ∃ _ : Unit, u = (.int .i64 r.1) ∧ Gives X S w [oC (cSl 1 fI r.2) s_a.v] [] w') := by
  unfold x_laws_markIntS at hx
  refine enter Try.func46 rfl Try.ntmps46 (by kernel_rfl) rfl ?_
  have hM := St.enter oL hS
  refine wc_seq ?_
  refine wc_region ?_
  refine wv rfl (r_assign rfl) ?_
  refine wl_nil ?_
  refine sq_n ?_
  refine wc_seq ?_
  refine wc_seq ?_
  refine wc_region ?_
  refine wv rfl (r_assign rfl) ?_
  refine wl_nil ?_
  refine sq_n ?_
  refine wc_block ?_
  obtain ⟨y77, hx, hx78⟩ := bind_some' hx
  obtain ⟨m84, hx⟩ := iter_run hx
  refine wc_loop (un fun (m82 : Nat) => un fun (k79 : Int) => un fun (i80 : Int) => fun (l81 : List Int) => [(0, s_a.v), (1, (.int .i64 k79)), (5, (.int .i64 i80))]) (un fun (m82 : Nat) => un fun (k79 : Int) => un fun (i80 : Int) => fun (l81 : List Int) w' => St ⟨w, X, S⟩ [oC (cSl 1 fI l81) s_a.v] [] w' ∧ iterN _ m82 (k79, i80, l81) = some y77) (fun p => p.1) (m84, k, 0, a) ⟨rfl, rfl, rfl, trivial⟩ ⟨hM, hx⟩ ?_
  rintro ⟨m82, k79, i80, l81⟩ w85 ⟨hM, hx⟩
  obtain ⟨m86, z87, rfl, hx, hx88⟩ := iterN_step hx
  unfold x_laws_markIntS_f0 x_laws_markIntS_b0 at hx
  try dsimp only at hx
  refine wc_seq ?_
  refine wc_seq ?_
  refine wc_region ?_
  refine wv rfl (r_move rfl) ?_
  refine wv rfl (r_move rfl) ?_
  refine wv rfl (r_lenC Try.underlying23 rfl (hM.seeO (.head _))) ?_
  refine wv rfl (r_lss rfl rfl) ?_
  refine wl_nil ?_
  refine sq_n ?_
  refine wc_cond rfl (fun hc93 => ?_) (fun hc93 => ?_)
  · replace hx := xif_t hc93 hx
    refine wc_skip ?_
    refine sq_n ?_
    refine wc_seq ?_
    refine wc_block ?_
    refine wc_seq ?_
    refine wc_region ?_
    refine wv rfl (r_move rfl) ?_
    refine wv rfl (r_move rfl) ?_
    refine wv rfl (r_move rfl) ?_
    obtain ⟨hg99, hx⟩ := xg_some hx
    have hi98 : i80.toNat < l81.length := by omega
    refine wv rfl (r_ixC Try.underlying23 sz3 rfl rfl (hM.seeO (.head _)) hg99) ?_
    refine w_exu (x_stE (f := fI) (k := 1) (L := l81) (i := i80.toNat) (j := 0) k79 [cI k79] sz3 (fun _ => rfl) rfl rfl hi98 rfl rfl rfl rfl rfl (fun _ => zP (pV _ rfl) zN) hM ?_); intro w100 hM
    refine wl_nil ?_
    refine sq_n ?_
    refine wc_region ?_
    refine wv rfl (r_move rfl) ?_
    obtain ⟨hg104, hx⟩ := xg_some hx
    refine wv rfl (r_add rfl rfl hg104) ?_
    refine wv rfl (r_assign rfl) ?_
    refine wl_nil ?_
    refine bk_n ?_
    refine sq_n ?_
    refine wc_region ?_
    refine wv rfl (r_move rfl) ?_
    obtain ⟨hg108, hx⟩ := xg_some hx
    refine wv rfl (r_add rfl rfl hg108) ?_
    refine wv rfl (r_assign rfl) ?_
    refine wl_nil ?_
    obtain rfl := Option.some.inj hx
    exact lp_end (m86, k79 + 1, i80 + 1, l81.set i80.toNat k79) (Nat.lt_succ_self _) ⟨rfl, rfl, rfl, trivial⟩ ⟨hM, hx88⟩
  · replace hx := xif_f hc93 hx
    refine wc_exit ?_
    refine sq_exit ?_
    refine lp1_exit ?_
    obtain rfl := Option.some.inj hx
    obtain rfl := Option.some.inj hx88
    replace hx := hx78
    try dsimp only [Sum.elim_inl, Sum.elim_inr] at hx
    refine bk_here ?_
    refine sq_n ?_
    refine wc_seq ?_
    refine wc_region ?_
    refine wv rfl (r_move rfl) ?_
    refine wv rfl (r_assign rfl) ?_
    refine wl_nil ?_
    refine sq_n ?_
    refine wc_ret ?_
    obtain rfl := Option.some.inj hx
    refine fin_ret [(.int .i64 k79)] ⟨rfl, trivial⟩ ?_
    replace hM := hM.t1
    have hM := hM.fewer rsN
    exact ⟨(), rfl, hM.gives⟩

noncomputable def x_laws_markPartS_b0 (k56 : Int) (i57 : Int) (l58 : List DPart) : Option (Lr (Int × Int × List DPart) (Int × List DPart)) :=
  bif decide (i57 < (l58.length : Int)) then (xg (0 ≤ i57 ∧ i57 < (l58.length : Int)) <| xg (inI (k56 + 1)) <| xg (0 ≤ i57 ∧ i57 < ((l58.set i57.toNat (⟨k56, (el l58 i57.toNat).n, (el l58 i57.toNat).signs⟩ : DPart)).length : Int)) <| xg (inI ((k56 + 1) + 1)) <| xg (0 ≤ i57 ∧ i57 < (((l58.set i57.toNat (⟨k56, (el l58 i57.toNat).n, (el l58 i57.toNat).signs⟩ : DPart)).set i57.toNat (⟨(el (l58.set i57.toNat (⟨k56, (el l58 i57.toNat).n, (el l58 i57.toNat).signs⟩ : DPart)) i57.toNat).kind, k56 + 1, (el (l58.set i57.toNat (⟨k56, (el l58 i57.toNat).n, (el l58 i57.toNat).signs⟩ : DPart)) i57.toNat).signs⟩ : DPart)).length : Int)) <| Option.bind (x_laws_markIntS ((el ((l58.set i57.toNat (⟨k56, (el l58 i57.toNat).n, (el l58 i57.toNat).signs⟩ : DPart)).set i57.toNat (⟨(el (l58.set i57.toNat (⟨k56, (el l58 i57.toNat).n, (el l58 i57.toNat).signs⟩ : DPart)) i57.toNat).kind, k56 + 1, (el (l58.set i57.toNat (⟨k56, (el l58 i57.toNat).n, (el l58 i57.toNat).signs⟩ : DPart)) i57.toNat).signs⟩ : DPart)) i57.toNat).signs) ((k56 + 1) + 1)) fun r152 => xg (inI (i57 + 1)) <| some (Lr.go (r152.1, i57 + 1, ((l58.set i57.toNat (⟨k56, (el l58 i57.toNat).n, (el l58 i57.toNat).signs⟩ : DPart)).set i57.toNat (⟨(el (l58.set i57.toNat (⟨k56, (el l58 i57.toNat).n, (el l58 i57.toNat).signs⟩ : DPart)) i57.toNat).kind, k56 + 1, (el (l58.set i57.toNat (⟨k56, (el l58 i57.toNat).n, (el l58 i57.toNat).signs⟩ : DPart)) i57.toNat).signs⟩ : DPart)).set i57.toNat (⟨(el ((l58.set i57.toNat (⟨k56, (el l58 i57.toNat).n, (el l58 i57.toNat).signs⟩ : DPart)).set i57.toNat (⟨(el (l58.set i57.toNat (⟨k56, (el l58 i57.toNat).n, (el l58 i57.toNat).signs⟩ : DPart)) i57.toNat).kind, k56 + 1, (el (l58.set i57.toNat (⟨k56, (el l58 i57.toNat).n, (el l58 i57.toNat).signs⟩ : DPart)) i57.toNat).signs⟩ : DPart)) i57.toNat).kind, (el ((l58.set i57.toNat (⟨k56, (el l58 i57.toNat).n, (el l58 i57.toNat).signs⟩ : DPart)).set i57.toNat (⟨(el (l58.set i57.toNat (⟨k56, (el l58 i57.toNat).n, (el l58 i57.toNat).signs⟩ : DPart)) i57.toNat).kind, k56 + 1, (el (l58.set i57.toNat (⟨k56, (el l58 i57.toNat).n, (el l58 i57.toNat).signs⟩ : DPart)) i57.toNat).signs⟩ : DPart)) i57.toNat).n, r152.2⟩ : DPart)))) else (some (Lr.out (k56, l58)))
noncomputable def x_laws_markPartS_f0 (s160 : Int × Int × List DPart) : Option (Lr (Int × Int × List DPart) (Int × List DPart)) := x_laws_markPartS_b0 s160.1 s160.2.1 s160.2.2
noncomputable def x_laws_markPartS (a : List DPart) (k : Int) : Option (Int × List DPart) :=
  Option.bind (iter (x_laws_markPartS_f0) (k, 0, a)) fun (y161 : Int × List DPart) => some (y161.1, y161.2)
theorem ct_laws_markPartS (w : World) (X S : Bs) (a : List DPart) (s_a : Sv) (k : Int) (hS : ∀ b, S b → b < w.heap.size ∧ ¬ X b)  (oL : Sep [oC (cSl 3 fDPart a) s_a.v] X w) {r : Int × List DPart} (hx : x_laws_markPartS a k = some r) :
    Ret Try.prog 78 [s_a.v, (.int .i64 k)] w (fun u w' => ∃ _ : Unit, u = (.int .i64 r.1) ∧ Gives X S w [oC (cSl 3 fDPart r.2) s_a.v] [] w') := by
  unfold x_laws_markPartS at hx
  refine enter Try.func78 rfl Try.ntmps78 (by kernel_rfl) rfl ?_
  have hM := St.enter oL hS
  refine wc_seq ?_
  refine wc_region ?_
  refine wv rfl (r_assign rfl) ?_
  refine wl_nil ?_
  refine sq_n ?_
  refine wc_seq ?_
  refine wc_seq ?_
  refine wc_region ?_
  refine wv rfl (r_assign rfl) ?_
  refine wl_nil ?_
  refine sq_n ?_
  refine wc_block ?_
  obtain ⟨y167, hx, hx168⟩ := bind_some' hx
  obtain ⟨m174, hx⟩ := iter_run hx
  refine wc_loop (un fun (m172 : Nat) => un fun (k169 : Int) => un fun (i170 : Int) => fun (l171 : List DPart) => [(0, s_a.v), (1, (.int .i64 k169)), (5, (.int .i64 i170))]) (un fun (m172 : Nat) => un fun (k169 : Int) => un fun (i170 : Int) => fun (l171 : List DPart) w' => St ⟨w, X, S⟩ [oC (cSl 3 fDPart l171) s_a.v] [] w' ∧ iterN _ m172 (k169, i170, l171) = some y167) (fun p => p.1) (m174, k, 0, a) ⟨rfl, rfl, rfl, trivial⟩ ⟨hM, hx⟩ ?_
  rintro ⟨m172, k169, i170, l171⟩ w175 ⟨hM, hx⟩
  obtain ⟨m176, z177, rfl, hx, hx178⟩ := iterN_step hx
  unfold x_laws_markPartS_f0 x_laws_markPartS_b0 at hx
  try dsimp only at hx
  refine wc_seq ?_
  refine wc_seq ?_
  refine wc_region ?_
  refine wv rfl (r_move rfl) ?_
  refine wv rfl (r_move rfl) ?_
  refine wv rfl (r_lenC Try.underlying33 rfl (hM.seeO (.head _))) ?_
  refine wv rfl (r_lss rfl rfl) ?_
  refine wl_nil ?_
  refine sq_n ?_
  refine wc_cond rfl (fun hc183 => ?_) (fun hc183 => ?_)
  · replace hx := xif_t hc183 hx
    refine wc_skip ?_
    refine sq_n ?_
    refine wc_seq ?_
    refine wc_block ?_
    refine wc_seq ?_
    refine wc_region ?_
    refine wv rfl (r_move rfl) ?_
    refine wv rfl (r_move rfl) ?_
    refine wv rfl (r_move rfl) ?_
    obtain ⟨hg189, hx⟩ := xg_some hx
    have hi188 : i170.toNat < l171.length := by omega
    refine wv rfl (r_ixC Try.underlying33 sz105 rfl rfl (hM.seeO (.head _)) hg189) ?_
    refine wv rfl (r_fldC (i := i170.toNat) Try.underlying105 rfl rfl sz3 rfl (hM.seeO (.head _)) hi188) ?_
    refine w_exu (x_stE (f := fDPart) (k := 3) (L := l171) (i := i170.toNat) (j := 0) (⟨k169, (el l171 i170.toNat).n, (el l171 i170.toNat).signs⟩ : DPart) [cI k169] sz3 (fun _ => rfl) rfl rfl hi188 rfl rfl rfl rfl rfl (fun _ => zP (pV _ rfl) zN) hM ?_); intro w191 hM
    refine wl_nil ?_
    refine sq_n ?_
    refine wc_seq ?_
    refine wc_region ?_
    refine wv rfl (r_move rfl) ?_
    obtain ⟨hg195, hx⟩ := xg_some hx
    refine wv rfl (r_add rfl rfl hg195) ?_
    refine wv rfl (r_assign rfl) ?_
    refine wl_nil ?_
    refine sq_n ?_
    refine wc_seq ?_
    refine wc_region ?_
    refine wv rfl (r_move rfl) ?_
    refine wv rfl (r_move rfl) ?_
    refine wv rfl (r_move rfl) ?_
    obtain ⟨hg202, hx⟩ := xg_some hx
    have hi201 : i170.toNat < (l171.set i170.toNat (⟨k169, (el l171 i170.toNat).n, (el l171 i170.toNat).signs⟩ : DPart)).length := by omega
    refine wv rfl (r_ixC Try.underlying33 sz105 rfl rfl (hM.seeO (.head _)) hg202) ?_
    refine wv rfl (r_fldC (i := i170.toNat) Try.underlying105 rfl rfl sz3 rfl (hM.seeO (.head _)) hi201) ?_
    refine w_exu (x_stE (f := fDPart) (k := 3) (L := (l171.set i170.toNat (⟨k169, (el l171 i170.toNat).n, (el l171 i170.toNat).signs⟩ : DPart))) (i := i170.toNat) (j := 1) (⟨(el (l171.set i170.toNat (⟨k169, (el l171 i170.toNat).n, (el l171 i170.toNat).signs⟩ : DPart)) i170.toNat).kind, k169 + 1, (el (l171.set i170.toNat (⟨k169, (el l171 i170.toNat).n, (el l171 i170.toNat).signs⟩ : DPart)) i170.toNat).signs⟩ : DPart) [cI (k169 + 1)] sz3 (fun _ => rfl) rfl rfl hi201 rfl rfl rfl rfl rfl (fun _ => zP (pV _ rfl) zN) hM ?_); intro w204 hM
    refine wl_nil ?_
    refine sq_n ?_
    refine wc_seq ?_
    refine wc_region ?_
    refine wv rfl (r_move rfl) ?_
    obtain ⟨hg208, hx⟩ := xg_some hx
    refine wv rfl (r_add rfl rfl hg208) ?_
    refine wv rfl (r_assign rfl) ?_
    refine wl_nil ?_
    refine sq_n ?_
    refine wc_region ?_
    refine wv rfl (r_move rfl) ?_
    refine wv rfl (r_move rfl) ?_
    obtain ⟨hg214, hx⟩ := xg_some hx
    have hi213 : i170.toNat < ((l171.set i170.toNat (⟨k169, (el l171 i170.toNat).n, (el l171 i170.toNat).signs⟩ : DPart)).set i170.toNat (⟨(el (l171.set i170.toNat (⟨k169, (el l171 i170.toNat).n, (el l171 i170.toNat).signs⟩ : DPart)) i170.toNat).kind, k169 + 1, (el (l171.set i170.toNat (⟨k169, (el l171 i170.toNat).n, (el l171 i170.toNat).signs⟩ : DPart)) i170.toNat).signs⟩ : DPart)).length := by omega
    refine wv rfl (r_ixC Try.underlying33 sz105 rfl rfl (hM.seeO (.head _)) hg214) ?_
    refine wv rfl (r_fldC (i := i170.toNat) Try.underlying105 rfl rfl sz23 rfl (hM.seeO (.head _)) hi213) ?_
    obtain ⟨s217, hM, hc218⟩ := hM.leafO (i := i170.toNat) (j := 2) (fun _ => rfl) hi213 rfl
    refine wv rfl (r_ld Try.underlying23 rfl rfl (hc218 _ (Rel.refl _))) ?_
    refine wv rfl (r_move rfl) ?_
    have hM := hM.open (i := i170.toNat) (j := 2) (.tail _ (.head _)) (fun _ => rfl) hi213 rfl
    obtain ⟨r222, h223, hx⟩ := bind_some' hx
    refine w_call rfl rfl (hM.callO (l := [oC (cSl 1 fI ((el ((l171.set i170.toNat (⟨k169, (el l171 i170.toNat).n, (el l171 i170.toNat).signs⟩ : DPart)).set i170.toNat (⟨(el (l171.set i170.toNat (⟨k169, (el l171 i170.toNat).n, (el l171 i170.toNat).signs⟩ : DPart)) i170.toNat).kind, k169 + 1, (el (l171.set i170.toNat (⟨k169, (el l171 i170.toNat).n, (el l171 i170.toNat).signs⟩ : DPart)) i170.toNat).signs⟩ : DPart)) i170.toNat).signs)) s217.v]) fun X S oL hS hR hO => ct_laws_markIntS _ X S ((el ((l171.set i170.toNat (⟨k169, (el l171 i170.toNat).n, (el l171 i170.toNat).signs⟩ : DPart)).set i170.toNat (⟨(el (l171.set i170.toNat (⟨k169, (el l171 i170.toNat).n, (el l171 i170.toNat).signs⟩ : DPart)) i170.toNat).kind, k169 + 1, (el (l171.set i170.toNat (⟨k169, (el l171 i170.toNat).n, (el l171 i170.toNat).signs⟩ : DPart)) i170.toNat).signs⟩ : DPart)) i170.toNat).signs) s217 ((k169 + 1) + 1) hS  oL h223) ?_
    rintro _ w224 ⟨_, rfl, hM⟩
    replace hM : St ⟨w, X, S⟩ [oC (cSl 1 fI r222.2) s217.v, oHo 3 fDPart ((l171.set i170.toNat (⟨k169, (el l171 i170.toNat).n, (el l171 i170.toNat).signs⟩ : DPart)).set i170.toNat (⟨(el (l171.set i170.toNat (⟨k169, (el l171 i170.toNat).n, (el l171 i170.toNat).signs⟩ : DPart)) i170.toNat).kind, k169 + 1, (el (l171.set i170.toNat (⟨k169, (el l171 i170.toNat).n, (el l171 i170.toNat).signs⟩ : DPart)) i170.toNat).signs⟩ : DPart)) s_a.v (i170.toNat * 3 + 2) s217.v] [] _ := hM
    have hM := hM.close (i := i170.toNat) (j := 2) (⟨(el ((l171.set i170.toNat (⟨k169, (el l171 i170.toNat).n, (el l171 i170.toNat).signs⟩ : DPart)).set i170.toNat (⟨(el (l171.set i170.toNat (⟨k169, (el l171 i170.toNat).n, (el l171 i170.toNat).signs⟩ : DPart)) i170.toNat).kind, k169 + 1, (el (l171.set i170.toNat (⟨k169, (el l171 i170.toNat).n, (el l171 i170.toNat).signs⟩ : DPart)) i170.toNat).signs⟩ : DPart)) i170.toNat).kind, (el ((l171.set i170.toNat (⟨k169, (el l171 i170.toNat).n, (el l171 i170.toNat).signs⟩ : DPart)).set i170.toNat (⟨(el (l171.set i170.toNat (⟨k169, (el l171 i170.toNat).n, (el l171 i170.toNat).signs⟩ : DPart)) i170.toNat).kind, k169 + 1, (el (l171.set i170.toNat (⟨k169, (el l171 i170.toNat).n, (el l171 i170.toNat).signs⟩ : DPart)) i170.toNat).signs⟩ : DPart)) i170.toNat).n, r222.2⟩ : DPart) (fun _ => rfl) hi213 rfl rfl
    refine wv rfl (r_assign rfl) ?_
    refine wl_nil ?_
    refine bk_n ?_
    refine sq_n ?_
    refine wc_region ?_
    refine wv rfl (r_move rfl) ?_
    obtain ⟨hg228, hx⟩ := xg_some hx
    refine wv rfl (r_add rfl rfl hg228) ?_
    refine wv rfl (r_assign rfl) ?_
    refine wl_nil ?_
    obtain rfl := Option.some.inj hx
    exact lp_end (m176, r222.1, i170 + 1, ((l171.set i170.toNat (⟨k169, (el l171 i170.toNat).n, (el l171 i170.toNat).signs⟩ : DPart)).set i170.toNat (⟨(el (l171.set i170.toNat (⟨k169, (el l171 i170.toNat).n, (el l171 i170.toNat).signs⟩ : DPart)) i170.toNat).kind, k169 + 1, (el (l171.set i170.toNat (⟨k169, (el l171 i170.toNat).n, (el l171 i170.toNat).signs⟩ : DPart)) i170.toNat).signs⟩ : DPart)).set i170.toNat (⟨(el ((l171.set i170.toNat (⟨k169, (el l171 i170.toNat).n, (el l171 i170.toNat).signs⟩ : DPart)).set i170.toNat (⟨(el (l171.set i170.toNat (⟨k169, (el l171 i170.toNat).n, (el l171 i170.toNat).signs⟩ : DPart)) i170.toNat).kind, k169 + 1, (el (l171.set i170.toNat (⟨k169, (el l171 i170.toNat).n, (el l171 i170.toNat).signs⟩ : DPart)) i170.toNat).signs⟩ : DPart)) i170.toNat).kind, (el ((l171.set i170.toNat (⟨k169, (el l171 i170.toNat).n, (el l171 i170.toNat).signs⟩ : DPart)).set i170.toNat (⟨(el (l171.set i170.toNat (⟨k169, (el l171 i170.toNat).n, (el l171 i170.toNat).signs⟩ : DPart)) i170.toNat).kind, k169 + 1, (el (l171.set i170.toNat (⟨k169, (el l171 i170.toNat).n, (el l171 i170.toNat).signs⟩ : DPart)) i170.toNat).signs⟩ : DPart)) i170.toNat).n, r222.2⟩ : DPart)) (Nat.lt_succ_self _) ⟨rfl, rfl, rfl, trivial⟩ ⟨hM, hx178⟩
  · replace hx := xif_f hc183 hx
    refine wc_exit ?_
    refine sq_exit ?_
    refine lp1_exit ?_
    obtain rfl := Option.some.inj hx
    obtain rfl := Option.some.inj hx178
    replace hx := hx168
    try dsimp only [Sum.elim_inl, Sum.elim_inr] at hx
    refine bk_here ?_
    refine sq_n ?_
    refine wc_seq ?_
    refine wc_region ?_
    refine wv rfl (r_move rfl) ?_
    refine wv rfl (r_assign rfl) ?_
    refine wl_nil ?_
    refine sq_n ?_
    refine wc_ret ?_
    obtain rfl := Option.some.inj hx
    refine fin_ret [(.int .i64 k169)] ⟨rfl, trivial⟩ ?_
    replace hM := hM.t1
    have hM := hM.fewer rsN
    exact ⟨(), rfl, hM.gives⟩

noncomputable def x_laws_markEntryS_b0 (k56 : Int) (i57 : Int) (l58 : List DEntry) : Option (Lr (Int × Int × List DEntry) (Int × List DEntry)) :=
  bif decide (i57 < (l58.length : Int)) then (xg (0 ≤ i57 ∧ i57 < (l58.length : Int)) <| xg (inI (k56 + 1)) <| xg (0 ≤ i57 ∧ i57 < ((l58.set i57.toNat (⟨k56, (el l58 i57.toNat).seq, (el l58 i57.toNat).o⟩ : DEntry)).length : Int)) <| xg (inI ((k56 + 1) + 1)) <| xg (0 ≤ i57 ∧ i57 < (((l58.set i57.toNat (⟨k56, (el l58 i57.toNat).seq, (el l58 i57.toNat).o⟩ : DEntry)).set i57.toNat (⟨(el (l58.set i57.toNat (⟨k56, (el l58 i57.toNat).seq, (el l58 i57.toNat).o⟩ : DEntry)) i57.toNat).client, k56 + 1, (el (l58.set i57.toNat (⟨k56, (el l58 i57.toNat).seq, (el l58 i57.toNat).o⟩ : DEntry)) i57.toNat).o⟩ : DEntry)).length : Int)) <| Option.bind (x_laws_markPartS ((el ((l58.set i57.toNat (⟨k56, (el l58 i57.toNat).seq, (el l58 i57.toNat).o⟩ : DEntry)).set i57.toNat (⟨(el (l58.set i57.toNat (⟨k56, (el l58 i57.toNat).seq, (el l58 i57.toNat).o⟩ : DEntry)) i57.toNat).client, k56 + 1, (el (l58.set i57.toNat (⟨k56, (el l58 i57.toNat).seq, (el l58 i57.toNat).o⟩ : DEntry)) i57.toNat).o⟩ : DEntry)) i57.toNat).o) ((k56 + 1) + 1)) fun r152 => xg (inI (i57 + 1)) <| some (Lr.go (r152.1, i57 + 1, ((l58.set i57.toNat (⟨k56, (el l58 i57.toNat).seq, (el l58 i57.toNat).o⟩ : DEntry)).set i57.toNat (⟨(el (l58.set i57.toNat (⟨k56, (el l58 i57.toNat).seq, (el l58 i57.toNat).o⟩ : DEntry)) i57.toNat).client, k56 + 1, (el (l58.set i57.toNat (⟨k56, (el l58 i57.toNat).seq, (el l58 i57.toNat).o⟩ : DEntry)) i57.toNat).o⟩ : DEntry)).set i57.toNat (⟨(el ((l58.set i57.toNat (⟨k56, (el l58 i57.toNat).seq, (el l58 i57.toNat).o⟩ : DEntry)).set i57.toNat (⟨(el (l58.set i57.toNat (⟨k56, (el l58 i57.toNat).seq, (el l58 i57.toNat).o⟩ : DEntry)) i57.toNat).client, k56 + 1, (el (l58.set i57.toNat (⟨k56, (el l58 i57.toNat).seq, (el l58 i57.toNat).o⟩ : DEntry)) i57.toNat).o⟩ : DEntry)) i57.toNat).client, (el ((l58.set i57.toNat (⟨k56, (el l58 i57.toNat).seq, (el l58 i57.toNat).o⟩ : DEntry)).set i57.toNat (⟨(el (l58.set i57.toNat (⟨k56, (el l58 i57.toNat).seq, (el l58 i57.toNat).o⟩ : DEntry)) i57.toNat).client, k56 + 1, (el (l58.set i57.toNat (⟨k56, (el l58 i57.toNat).seq, (el l58 i57.toNat).o⟩ : DEntry)) i57.toNat).o⟩ : DEntry)) i57.toNat).seq, r152.2⟩ : DEntry)))) else (some (Lr.out (k56, l58)))
noncomputable def x_laws_markEntryS_f0 (s160 : Int × Int × List DEntry) : Option (Lr (Int × Int × List DEntry) (Int × List DEntry)) := x_laws_markEntryS_b0 s160.1 s160.2.1 s160.2.2
noncomputable def x_laws_markEntryS (a : List DEntry) (k : Int) : Option (Int × List DEntry) :=
  Option.bind (iter (x_laws_markEntryS_f0) (k, 0, a)) fun (y161 : Int × List DEntry) => some (y161.1, y161.2)
theorem ct_laws_markEntryS (w : World) (X S : Bs) (a : List DEntry) (s_a : Sv) (k : Int) (hS : ∀ b, S b → b < w.heap.size ∧ ¬ X b)  (oL : Sep [oC (cSl 3 fDEntry a) s_a.v] X w) {r : Int × List DEntry} (hx : x_laws_markEntryS a k = some r) :
    Ret Try.prog 47 [s_a.v, (.int .i64 k)] w (fun u w' => ∃ _ : Unit, u = (.int .i64 r.1) ∧ Gives X S w [oC (cSl 3 fDEntry r.2) s_a.v] [] w') := by
  unfold x_laws_markEntryS at hx
  refine enter Try.func47 rfl Try.ntmps47 (by kernel_rfl) rfl ?_
  have hM := St.enter oL hS
  refine wc_seq ?_
  refine wc_region ?_
  refine wv rfl (r_assign rfl) ?_
  refine wl_nil ?_
  refine sq_n ?_
  refine wc_seq ?_
  refine wc_seq ?_
  refine wc_region ?_
  refine wv rfl (r_assign rfl) ?_
  refine wl_nil ?_
  refine sq_n ?_
  refine wc_block ?_
  obtain ⟨y167, hx, hx168⟩ := bind_some' hx
  obtain ⟨m174, hx⟩ := iter_run hx
  refine wc_loop (un fun (m172 : Nat) => un fun (k169 : Int) => un fun (i170 : Int) => fun (l171 : List DEntry) => [(0, s_a.v), (1, (.int .i64 k169)), (5, (.int .i64 i170))]) (un fun (m172 : Nat) => un fun (k169 : Int) => un fun (i170 : Int) => fun (l171 : List DEntry) w' => St ⟨w, X, S⟩ [oC (cSl 3 fDEntry l171) s_a.v] [] w' ∧ iterN _ m172 (k169, i170, l171) = some y167) (fun p => p.1) (m174, k, 0, a) ⟨rfl, rfl, rfl, trivial⟩ ⟨hM, hx⟩ ?_
  rintro ⟨m172, k169, i170, l171⟩ w175 ⟨hM, hx⟩
  obtain ⟨m176, z177, rfl, hx, hx178⟩ := iterN_step hx
  unfold x_laws_markEntryS_f0 x_laws_markEntryS_b0 at hx
  try dsimp only at hx
  refine wc_seq ?_
  refine wc_seq ?_
  refine wc_region ?_
  refine wv rfl (r_move rfl) ?_
  refine wv rfl (r_move rfl) ?_
  refine wv rfl (r_lenC Try.underlying36 rfl (hM.seeO (.head _))) ?_
  refine wv rfl (r_lss rfl rfl) ?_
  refine wl_nil ?_
  refine sq_n ?_
  refine wc_cond rfl (fun hc183 => ?_) (fun hc183 => ?_)
  · replace hx := xif_t hc183 hx
    refine wc_skip ?_
    refine sq_n ?_
    refine wc_seq ?_
    refine wc_block ?_
    refine wc_seq ?_
    refine wc_region ?_
    refine wv rfl (r_move rfl) ?_
    refine wv rfl (r_move rfl) ?_
    refine wv rfl (r_move rfl) ?_
    obtain ⟨hg189, hx⟩ := xg_some hx
    have hi188 : i170.toNat < l171.length := by omega
    refine wv rfl (r_ixC Try.underlying36 sz73 rfl rfl (hM.seeO (.head _)) hg189) ?_
    refine wv rfl (r_fldC (i := i170.toNat) Try.underlying73 rfl rfl sz3 rfl (hM.seeO (.head _)) hi188) ?_
    refine w_exu (x_stE (f := fDEntry) (k := 3) (L := l171) (i := i170.toNat) (j := 0) (⟨k169, (el l171 i170.toNat).seq, (el l171 i170.toNat).o⟩ : DEntry) [cI k169] sz3 (fun _ => rfl) rfl rfl hi188 rfl rfl rfl rfl rfl (fun _ => zP (pV _ rfl) zN) hM ?_); intro w191 hM
    refine wl_nil ?_
    refine sq_n ?_
    refine wc_seq ?_
    refine wc_region ?_
    refine wv rfl (r_move rfl) ?_
    obtain ⟨hg195, hx⟩ := xg_some hx
    refine wv rfl (r_add rfl rfl hg195) ?_
    refine wv rfl (r_assign rfl) ?_
    refine wl_nil ?_
    refine sq_n ?_
    refine wc_seq ?_
    refine wc_region ?_
    refine wv rfl (r_move rfl) ?_
    refine wv rfl (r_move rfl) ?_
    refine wv rfl (r_move rfl) ?_
    obtain ⟨hg202, hx⟩ := xg_some hx
    have hi201 : i170.toNat < (l171.set i170.toNat (⟨k169, (el l171 i170.toNat).seq, (el l171 i170.toNat).o⟩ : DEntry)).length := by omega
    refine wv rfl (r_ixC Try.underlying36 sz73 rfl rfl (hM.seeO (.head _)) hg202) ?_
    refine wv rfl (r_fldC (i := i170.toNat) Try.underlying73 rfl rfl sz3 rfl (hM.seeO (.head _)) hi201) ?_
    refine w_exu (x_stE (f := fDEntry) (k := 3) (L := (l171.set i170.toNat (⟨k169, (el l171 i170.toNat).seq, (el l171 i170.toNat).o⟩ : DEntry))) (i := i170.toNat) (j := 1) (⟨(el (l171.set i170.toNat (⟨k169, (el l171 i170.toNat).seq, (el l171 i170.toNat).o⟩ : DEntry)) i170.toNat).client, k169 + 1, (el (l171.set i170.toNat (⟨k169, (el l171 i170.toNat).seq, (el l171 i170.toNat).o⟩ : DEntry)) i170.toNat).o⟩ : DEntry) [cI (k169 + 1)] sz3 (fun _ => rfl) rfl rfl hi201 rfl rfl rfl rfl rfl (fun _ => zP (pV _ rfl) zN) hM ?_); intro w204 hM
    refine wl_nil ?_
    refine sq_n ?_
    refine wc_seq ?_
    refine wc_region ?_
    refine wv rfl (r_move rfl) ?_
    obtain ⟨hg208, hx⟩ := xg_some hx
    refine wv rfl (r_add rfl rfl hg208) ?_
    refine wv rfl (r_assign rfl) ?_
    refine wl_nil ?_
    refine sq_n ?_
    refine wc_region ?_
    refine wv rfl (r_move rfl) ?_
    refine wv rfl (r_move rfl) ?_
    obtain ⟨hg214, hx⟩ := xg_some hx
    have hi213 : i170.toNat < ((l171.set i170.toNat (⟨k169, (el l171 i170.toNat).seq, (el l171 i170.toNat).o⟩ : DEntry)).set i170.toNat (⟨(el (l171.set i170.toNat (⟨k169, (el l171 i170.toNat).seq, (el l171 i170.toNat).o⟩ : DEntry)) i170.toNat).client, k169 + 1, (el (l171.set i170.toNat (⟨k169, (el l171 i170.toNat).seq, (el l171 i170.toNat).o⟩ : DEntry)) i170.toNat).o⟩ : DEntry)).length := by omega
    refine wv rfl (r_ixC Try.underlying36 sz73 rfl rfl (hM.seeO (.head _)) hg214) ?_
    refine wv rfl (r_fldC (i := i170.toNat) Try.underlying73 rfl rfl sz33 rfl (hM.seeO (.head _)) hi213) ?_
    obtain ⟨s217, hM, hc218⟩ := hM.leafO (i := i170.toNat) (j := 2) (fun _ => rfl) hi213 rfl
    refine wv rfl (r_ld Try.underlying33 rfl rfl (hc218 _ (Rel.refl _))) ?_
    refine wv rfl (r_move rfl) ?_
    have hM := hM.open (i := i170.toNat) (j := 2) (.tail _ (.head _)) (fun _ => rfl) hi213 rfl
    obtain ⟨r222, h223, hx⟩ := bind_some' hx
    refine w_call rfl rfl (hM.callO (l := [oC (cSl 3 fDPart ((el ((l171.set i170.toNat (⟨k169, (el l171 i170.toNat).seq, (el l171 i170.toNat).o⟩ : DEntry)).set i170.toNat (⟨(el (l171.set i170.toNat (⟨k169, (el l171 i170.toNat).seq, (el l171 i170.toNat).o⟩ : DEntry)) i170.toNat).client, k169 + 1, (el (l171.set i170.toNat (⟨k169, (el l171 i170.toNat).seq, (el l171 i170.toNat).o⟩ : DEntry)) i170.toNat).o⟩ : DEntry)) i170.toNat).o)) s217.v]) fun X S oL hS hR hO => ct_laws_markPartS _ X S ((el ((l171.set i170.toNat (⟨k169, (el l171 i170.toNat).seq, (el l171 i170.toNat).o⟩ : DEntry)).set i170.toNat (⟨(el (l171.set i170.toNat (⟨k169, (el l171 i170.toNat).seq, (el l171 i170.toNat).o⟩ : DEntry)) i170.toNat).client, k169 + 1, (el (l171.set i170.toNat (⟨k169, (el l171 i170.toNat).seq, (el l171 i170.toNat).o⟩ : DEntry)) i170.toNat).o⟩ : DEntry)) i170.toNat).o) s217 ((k169 + 1) + 1) hS  oL h223) ?_
    rintro _ w224 ⟨_, rfl, hM⟩
    replace hM : St ⟨w, X, S⟩ [oC (cSl 3 fDPart r222.2) s217.v, oHo 3 fDEntry ((l171.set i170.toNat (⟨k169, (el l171 i170.toNat).seq, (el l171 i170.toNat).o⟩ : DEntry)).set i170.toNat (⟨(el (l171.set i170.toNat (⟨k169, (el l171 i170.toNat).seq, (el l171 i170.toNat).o⟩ : DEntry)) i170.toNat).client, k169 + 1, (el (l171.set i170.toNat (⟨k169, (el l171 i170.toNat).seq, (el l171 i170.toNat).o⟩ : DEntry)) i170.toNat).o⟩ : DEntry)) s_a.v (i170.toNat * 3 + 2) s217.v] [] _ := hM
    have hM := hM.close (i := i170.toNat) (j := 2) (⟨(el ((l171.set i170.toNat (⟨k169, (el l171 i170.toNat).seq, (el l171 i170.toNat).o⟩ : DEntry)).set i170.toNat (⟨(el (l171.set i170.toNat (⟨k169, (el l171 i170.toNat).seq, (el l171 i170.toNat).o⟩ : DEntry)) i170.toNat).client, k169 + 1, (el (l171.set i170.toNat (⟨k169, (el l171 i170.toNat).seq, (el l171 i170.toNat).o⟩ : DEntry)) i170.toNat).o⟩ : DEntry)) i170.toNat).client, (el ((l171.set i170.toNat (⟨k169, (el l171 i170.toNat).seq, (el l171 i170.toNat).o⟩ : DEntry)).set i170.toNat (⟨(el (l171.set i170.toNat (⟨k169, (el l171 i170.toNat).seq, (el l171 i170.toNat).o⟩ : DEntry)) i170.toNat).client, k169 + 1, (el (l171.set i170.toNat (⟨k169, (el l171 i170.toNat).seq, (el l171 i170.toNat).o⟩ : DEntry)) i170.toNat).o⟩ : DEntry)) i170.toNat).seq, r222.2⟩ : DEntry) (fun _ => rfl) hi213 rfl rfl
    refine wv rfl (r_assign rfl) ?_
    refine wl_nil ?_
    refine bk_n ?_
    refine sq_n ?_
    refine wc_region ?_
    refine wv rfl (r_move rfl) ?_
    obtain ⟨hg228, hx⟩ := xg_some hx
    refine wv rfl (r_add rfl rfl hg228) ?_
    refine wv rfl (r_assign rfl) ?_
    refine wl_nil ?_
    obtain rfl := Option.some.inj hx
    exact lp_end (m176, r222.1, i170 + 1, ((l171.set i170.toNat (⟨k169, (el l171 i170.toNat).seq, (el l171 i170.toNat).o⟩ : DEntry)).set i170.toNat (⟨(el (l171.set i170.toNat (⟨k169, (el l171 i170.toNat).seq, (el l171 i170.toNat).o⟩ : DEntry)) i170.toNat).client, k169 + 1, (el (l171.set i170.toNat (⟨k169, (el l171 i170.toNat).seq, (el l171 i170.toNat).o⟩ : DEntry)) i170.toNat).o⟩ : DEntry)).set i170.toNat (⟨(el ((l171.set i170.toNat (⟨k169, (el l171 i170.toNat).seq, (el l171 i170.toNat).o⟩ : DEntry)).set i170.toNat (⟨(el (l171.set i170.toNat (⟨k169, (el l171 i170.toNat).seq, (el l171 i170.toNat).o⟩ : DEntry)) i170.toNat).client, k169 + 1, (el (l171.set i170.toNat (⟨k169, (el l171 i170.toNat).seq, (el l171 i170.toNat).o⟩ : DEntry)) i170.toNat).o⟩ : DEntry)) i170.toNat).client, (el ((l171.set i170.toNat (⟨k169, (el l171 i170.toNat).seq, (el l171 i170.toNat).o⟩ : DEntry)).set i170.toNat (⟨(el (l171.set i170.toNat (⟨k169, (el l171 i170.toNat).seq, (el l171 i170.toNat).o⟩ : DEntry)) i170.toNat).client, k169 + 1, (el (l171.set i170.toNat (⟨k169, (el l171 i170.toNat).seq, (el l171 i170.toNat).o⟩ : DEntry)) i170.toNat).o⟩ : DEntry)) i170.toNat).seq, r222.2⟩ : DEntry)) (Nat.lt_succ_self _) ⟨rfl, rfl, rfl, trivial⟩ ⟨hM, hx178⟩
  · replace hx := xif_f hc183 hx
    refine wc_exit ?_
    refine sq_exit ?_
    refine lp1_exit ?_
    obtain rfl := Option.some.inj hx
    obtain rfl := Option.some.inj hx178
    replace hx := hx168
    try dsimp only [Sum.elim_inl, Sum.elim_inr] at hx
    refine bk_here ?_
    refine sq_n ?_
    refine wc_seq ?_
    refine wc_region ?_
    refine wv rfl (r_move rfl) ?_
    refine wv rfl (r_assign rfl) ?_
    refine wl_nil ?_
    refine sq_n ?_
    refine wc_ret ?_
    obtain rfl := Option.some.inj hx
    refine fin_ret [(.int .i64 k169)] ⟨rfl, trivial⟩ ?_
    replace hM := hM.t1
    have hM := hM.fewer rsN
    exact ⟨(), rfl, hM.gives⟩

noncomputable def x_laws_markSeenS_b0 (k53 : Int) (i54 : Int) (l55 : List DSeen) : Option (Lr (Int × Int × List DSeen) (Int × List DSeen)) :=
  bif decide (i54 < (l55.length : Int)) then (xg (0 ≤ i54 ∧ i54 < (l55.length : Int)) <| xg (inI (k53 + 1)) <| xg (0 ≤ i54 ∧ i54 < ((l55.set i54.toNat (⟨k53, (el l55 i54.toNat).seq, (el l55 i54.toNat).rev⟩ : DSeen)).length : Int)) <| xg (inI ((k53 + 1) + 1)) <| xg (0 ≤ i54 ∧ i54 < (((l55.set i54.toNat (⟨k53, (el l55 i54.toNat).seq, (el l55 i54.toNat).rev⟩ : DSeen)).set i54.toNat (⟨(el (l55.set i54.toNat (⟨k53, (el l55 i54.toNat).seq, (el l55 i54.toNat).rev⟩ : DSeen)) i54.toNat).client, k53 + 1, (el (l55.set i54.toNat (⟨k53, (el l55 i54.toNat).seq, (el l55 i54.toNat).rev⟩ : DSeen)) i54.toNat).rev⟩ : DSeen)).length : Int)) <| xg (inI (((k53 + 1) + 1) + 1)) <| xg (inI (i54 + 1)) <| some (Lr.go (((k53 + 1) + 1) + 1, i54 + 1, ((l55.set i54.toNat (⟨k53, (el l55 i54.toNat).seq, (el l55 i54.toNat).rev⟩ : DSeen)).set i54.toNat (⟨(el (l55.set i54.toNat (⟨k53, (el l55 i54.toNat).seq, (el l55 i54.toNat).rev⟩ : DSeen)) i54.toNat).client, k53 + 1, (el (l55.set i54.toNat (⟨k53, (el l55 i54.toNat).seq, (el l55 i54.toNat).rev⟩ : DSeen)) i54.toNat).rev⟩ : DSeen)).set i54.toNat (⟨(el ((l55.set i54.toNat (⟨k53, (el l55 i54.toNat).seq, (el l55 i54.toNat).rev⟩ : DSeen)).set i54.toNat (⟨(el (l55.set i54.toNat (⟨k53, (el l55 i54.toNat).seq, (el l55 i54.toNat).rev⟩ : DSeen)) i54.toNat).client, k53 + 1, (el (l55.set i54.toNat (⟨k53, (el l55 i54.toNat).seq, (el l55 i54.toNat).rev⟩ : DSeen)) i54.toNat).rev⟩ : DSeen)) i54.toNat).client, (el ((l55.set i54.toNat (⟨k53, (el l55 i54.toNat).seq, (el l55 i54.toNat).rev⟩ : DSeen)).set i54.toNat (⟨(el (l55.set i54.toNat (⟨k53, (el l55 i54.toNat).seq, (el l55 i54.toNat).rev⟩ : DSeen)) i54.toNat).client, k53 + 1, (el (l55.set i54.toNat (⟨k53, (el l55 i54.toNat).seq, (el l55 i54.toNat).rev⟩ : DSeen)) i54.toNat).rev⟩ : DSeen)) i54.toNat).seq, (k53 + 1) + 1⟩ : DSeen)))) else (some (Lr.out (k53, l55)))
noncomputable def x_laws_markSeenS_f0 (s151 : Int × Int × List DSeen) : Option (Lr (Int × Int × List DSeen) (Int × List DSeen)) := x_laws_markSeenS_b0 s151.1 s151.2.1 s151.2.2
noncomputable def x_laws_markSeenS (a : List DSeen) (k : Int) : Option (Int × List DSeen) :=
  Option.bind (iter (x_laws_markSeenS_f0) (k, 0, a)) fun (y152 : Int × List DSeen) => some (y152.1, y152.2)
theorem ct_laws_markSeenS (w : World) (X S : Bs) (a : List DSeen) (s_a : Sv) (k : Int) (hS : ∀ b, S b → b < w.heap.size ∧ ¬ X b)  (oL : Sep [oC (cSl 3 fDSeen a) s_a.v] X w) {r : Int × List DSeen} (hx : x_laws_markSeenS a k = some r) :
    Ret Try.prog 48 [s_a.v, (.int .i64 k)] w (fun u w' => ∃ _ : Unit, u = (.int .i64 r.1) ∧ Gives X S w [oC (cSl 3 fDSeen r.2) s_a.v] [] w') := by
  unfold x_laws_markSeenS at hx
  refine enter Try.func48 rfl Try.ntmps48 (by kernel_rfl) rfl ?_
  have hM := St.enter oL hS
  refine wc_seq ?_
  refine wc_region ?_
  refine wv rfl (r_assign rfl) ?_
  refine wl_nil ?_
  refine sq_n ?_
  refine wc_seq ?_
  refine wc_seq ?_
  refine wc_region ?_
  refine wv rfl (r_assign rfl) ?_
  refine wl_nil ?_
  refine sq_n ?_
  refine wc_block ?_
  obtain ⟨y158, hx, hx159⟩ := bind_some' hx
  obtain ⟨m165, hx⟩ := iter_run hx
  refine wc_loop (un fun (m163 : Nat) => un fun (k160 : Int) => un fun (i161 : Int) => fun (l162 : List DSeen) => [(0, s_a.v), (1, (.int .i64 k160)), (5, (.int .i64 i161))]) (un fun (m163 : Nat) => un fun (k160 : Int) => un fun (i161 : Int) => fun (l162 : List DSeen) w' => St ⟨w, X, S⟩ [oC (cSl 3 fDSeen l162) s_a.v] [] w' ∧ iterN _ m163 (k160, i161, l162) = some y158) (fun p => p.1) (m165, k, 0, a) ⟨rfl, rfl, rfl, trivial⟩ ⟨hM, hx⟩ ?_
  rintro ⟨m163, k160, i161, l162⟩ w166 ⟨hM, hx⟩
  obtain ⟨m167, z168, rfl, hx, hx169⟩ := iterN_step hx
  unfold x_laws_markSeenS_f0 x_laws_markSeenS_b0 at hx
  try dsimp only at hx
  refine wc_seq ?_
  refine wc_seq ?_
  refine wc_region ?_
  refine wv rfl (r_move rfl) ?_
  refine wv rfl (r_move rfl) ?_
  refine wv rfl (r_lenC Try.underlying51 rfl (hM.seeO (.head _))) ?_
  refine wv rfl (r_lss rfl rfl) ?_
  refine wl_nil ?_
  refine sq_n ?_
  refine wc_cond rfl (fun hc174 => ?_) (fun hc174 => ?_)
  · replace hx := xif_t hc174 hx
    refine wc_skip ?_
    refine sq_n ?_
    refine wc_seq ?_
    refine wc_block ?_
    refine wc_seq ?_
    refine wc_region ?_
    refine wv rfl (r_move rfl) ?_
    refine wv rfl (r_move rfl) ?_
    refine wv rfl (r_move rfl) ?_
    obtain ⟨hg180, hx⟩ := xg_some hx
    have hi179 : i161.toNat < l162.length := by omega
    refine wv rfl (r_ixC Try.underlying51 sz76 rfl rfl (hM.seeO (.head _)) hg180) ?_
    refine wv rfl (r_fldC (i := i161.toNat) Try.underlying76 rfl rfl sz3 rfl (hM.seeO (.head _)) hi179) ?_
    refine w_exu (x_stE (f := fDSeen) (k := 3) (L := l162) (i := i161.toNat) (j := 0) (⟨k160, (el l162 i161.toNat).seq, (el l162 i161.toNat).rev⟩ : DSeen) [cI k160] sz3 (fun _ => rfl) rfl rfl hi179 rfl rfl rfl rfl rfl (fun _ => zP (pV _ rfl) zN) hM ?_); intro w182 hM
    refine wl_nil ?_
    refine sq_n ?_
    refine wc_seq ?_
    refine wc_region ?_
    refine wv rfl (r_move rfl) ?_
    obtain ⟨hg186, hx⟩ := xg_some hx
    refine wv rfl (r_add rfl rfl hg186) ?_
    refine wv rfl (r_assign rfl) ?_
    refine wl_nil ?_
    refine sq_n ?_
    refine wc_seq ?_
    refine wc_region ?_
    refine wv rfl (r_move rfl) ?_
    refine wv rfl (r_move rfl) ?_
    refine wv rfl (r_move rfl) ?_
    obtain ⟨hg193, hx⟩ := xg_some hx
    have hi192 : i161.toNat < (l162.set i161.toNat (⟨k160, (el l162 i161.toNat).seq, (el l162 i161.toNat).rev⟩ : DSeen)).length := by omega
    refine wv rfl (r_ixC Try.underlying51 sz76 rfl rfl (hM.seeO (.head _)) hg193) ?_
    refine wv rfl (r_fldC (i := i161.toNat) Try.underlying76 rfl rfl sz3 rfl (hM.seeO (.head _)) hi192) ?_
    refine w_exu (x_stE (f := fDSeen) (k := 3) (L := (l162.set i161.toNat (⟨k160, (el l162 i161.toNat).seq, (el l162 i161.toNat).rev⟩ : DSeen))) (i := i161.toNat) (j := 1) (⟨(el (l162.set i161.toNat (⟨k160, (el l162 i161.toNat).seq, (el l162 i161.toNat).rev⟩ : DSeen)) i161.toNat).client, k160 + 1, (el (l162.set i161.toNat (⟨k160, (el l162 i161.toNat).seq, (el l162 i161.toNat).rev⟩ : DSeen)) i161.toNat).rev⟩ : DSeen) [cI (k160 + 1)] sz3 (fun _ => rfl) rfl rfl hi192 rfl rfl rfl rfl rfl (fun _ => zP (pV _ rfl) zN) hM ?_); intro w195 hM
    refine wl_nil ?_
    refine sq_n ?_
    refine wc_seq ?_
    refine wc_region ?_
    refine wv rfl (r_move rfl) ?_
    obtain ⟨hg199, hx⟩ := xg_some hx
    refine wv rfl (r_add rfl rfl hg199) ?_
    refine wv rfl (r_assign rfl) ?_
    refine wl_nil ?_
    refine sq_n ?_
    refine wc_seq ?_
    refine wc_region ?_
    refine wv rfl (r_move rfl) ?_
    refine wv rfl (r_move rfl) ?_
    refine wv rfl (r_move rfl) ?_
    obtain ⟨hg206, hx⟩ := xg_some hx
    have hi205 : i161.toNat < ((l162.set i161.toNat (⟨k160, (el l162 i161.toNat).seq, (el l162 i161.toNat).rev⟩ : DSeen)).set i161.toNat (⟨(el (l162.set i161.toNat (⟨k160, (el l162 i161.toNat).seq, (el l162 i161.toNat).rev⟩ : DSeen)) i161.toNat).client, k160 + 1, (el (l162.set i161.toNat (⟨k160, (el l162 i161.toNat).seq, (el l162 i161.toNat).rev⟩ : DSeen)) i161.toNat).rev⟩ : DSeen)).length := by omega
    refine wv rfl (r_ixC Try.underlying51 sz76 rfl rfl (hM.seeO (.head _)) hg206) ?_
    refine wv rfl (r_fldC (i := i161.toNat) Try.underlying76 rfl rfl sz3 rfl (hM.seeO (.head _)) hi205) ?_
    refine w_exu (x_stE (f := fDSeen) (k := 3) (L := ((l162.set i161.toNat (⟨k160, (el l162 i161.toNat).seq, (el l162 i161.toNat).rev⟩ : DSeen)).set i161.toNat (⟨(el (l162.set i161.toNat (⟨k160, (el l162 i161.toNat).seq, (el l162 i161.toNat).rev⟩ : DSeen)) i161.toNat).client, k160 + 1, (el (l162.set i161.toNat (⟨k160, (el l162 i161.toNat).seq, (el l162 i161.toNat).rev⟩ : DSeen)) i161.toNat).rev⟩ : DSeen))) (i := i161.toNat) (j := 2) (⟨(el ((l162.set i161.toNat (⟨k160, (el l162 i161.toNat).seq, (el l162 i161.toNat).rev⟩ : DSeen)).set i161.toNat (⟨(el (l162.set i161.toNat (⟨k160, (el l162 i161.toNat).seq, (el l162 i161.toNat).rev⟩ : DSeen)) i161.toNat).client, k160 + 1, (el (l162.set i161.toNat (⟨k160, (el l162 i161.toNat).seq, (el l162 i161.toNat).rev⟩ : DSeen)) i161.toNat).rev⟩ : DSeen)) i161.toNat).client, (el ((l162.set i161.toNat (⟨k160, (el l162 i161.toNat).seq, (el l162 i161.toNat).rev⟩ : DSeen)).set i161.toNat (⟨(el (l162.set i161.toNat (⟨k160, (el l162 i161.toNat).seq, (el l162 i161.toNat).rev⟩ : DSeen)) i161.toNat).client, k160 + 1, (el (l162.set i161.toNat (⟨k160, (el l162 i161.toNat).seq, (el l162 i161.toNat).rev⟩ : DSeen)) i161.toNat).rev⟩ : DSeen)) i161.toNat).seq, (k160 + 1) + 1⟩ : DSeen) [cI ((k160 + 1) + 1)] sz3 (fun _ => rfl) rfl rfl hi205 rfl rfl rfl rfl rfl (fun _ => zP (pV _ rfl) zN) hM ?_); intro w208 hM
    refine wl_nil ?_
    refine sq_n ?_
    refine wc_region ?_
    refine wv rfl (r_move rfl) ?_
    obtain ⟨hg212, hx⟩ := xg_some hx
    refine wv rfl (r_add rfl rfl hg212) ?_
    refine wv rfl (r_assign rfl) ?_
    refine wl_nil ?_
    refine bk_n ?_
    refine sq_n ?_
    refine wc_region ?_
    refine wv rfl (r_move rfl) ?_
    obtain ⟨hg216, hx⟩ := xg_some hx
    refine wv rfl (r_add rfl rfl hg216) ?_
    refine wv rfl (r_assign rfl) ?_
    refine wl_nil ?_
    obtain rfl := Option.some.inj hx
    exact lp_end (m167, ((k160 + 1) + 1) + 1, i161 + 1, ((l162.set i161.toNat (⟨k160, (el l162 i161.toNat).seq, (el l162 i161.toNat).rev⟩ : DSeen)).set i161.toNat (⟨(el (l162.set i161.toNat (⟨k160, (el l162 i161.toNat).seq, (el l162 i161.toNat).rev⟩ : DSeen)) i161.toNat).client, k160 + 1, (el (l162.set i161.toNat (⟨k160, (el l162 i161.toNat).seq, (el l162 i161.toNat).rev⟩ : DSeen)) i161.toNat).rev⟩ : DSeen)).set i161.toNat (⟨(el ((l162.set i161.toNat (⟨k160, (el l162 i161.toNat).seq, (el l162 i161.toNat).rev⟩ : DSeen)).set i161.toNat (⟨(el (l162.set i161.toNat (⟨k160, (el l162 i161.toNat).seq, (el l162 i161.toNat).rev⟩ : DSeen)) i161.toNat).client, k160 + 1, (el (l162.set i161.toNat (⟨k160, (el l162 i161.toNat).seq, (el l162 i161.toNat).rev⟩ : DSeen)) i161.toNat).rev⟩ : DSeen)) i161.toNat).client, (el ((l162.set i161.toNat (⟨k160, (el l162 i161.toNat).seq, (el l162 i161.toNat).rev⟩ : DSeen)).set i161.toNat (⟨(el (l162.set i161.toNat (⟨k160, (el l162 i161.toNat).seq, (el l162 i161.toNat).rev⟩ : DSeen)) i161.toNat).client, k160 + 1, (el (l162.set i161.toNat (⟨k160, (el l162 i161.toNat).seq, (el l162 i161.toNat).rev⟩ : DSeen)) i161.toNat).rev⟩ : DSeen)) i161.toNat).seq, (k160 + 1) + 1⟩ : DSeen)) (Nat.lt_succ_self _) ⟨rfl, rfl, rfl, trivial⟩ ⟨hM, hx169⟩
  · replace hx := xif_f hc174 hx
    refine wc_exit ?_
    refine sq_exit ?_
    refine lp1_exit ?_
    obtain rfl := Option.some.inj hx
    obtain rfl := Option.some.inj hx169
    replace hx := hx159
    try dsimp only [Sum.elim_inl, Sum.elim_inr] at hx
    refine bk_here ?_
    refine sq_n ?_
    refine wc_seq ?_
    refine wc_region ?_
    refine wv rfl (r_move rfl) ?_
    refine wv rfl (r_assign rfl) ?_
    refine wl_nil ?_
    refine sq_n ?_
    refine wc_ret ?_
    obtain rfl := Option.some.inj hx
    refine fin_ret [(.int .i64 k160)] ⟨rfl, trivial⟩ ?_
    replace hM := hM.t1
    have hM := hM.fewer rsN
    exact ⟨(), rfl, hM.gives⟩

noncomputable def x_laws_markDoc (a : DDoc) (k : Int) : Option (Int × DDoc) :=
  Option.bind (x_laws_markIntS a.text k) fun r12 => Option.bind (x_laws_markEntryS a.list r12.1) fun r19 => Option.bind (x_laws_markSeenS a.seen r19.1) fun r26 => some (r26.1, (⟨a.name, a.from_, r12.2, r19.2, r26.2⟩ : DDoc))
theorem ct_laws_markDoc (w : World) (X S : Bs) (a : DDoc) (s_a_2 : Sv) (s_a_3 : Sv) (s_a_4 : Sv) (k : Int) (hS : ∀ b, S b → b < w.heap.size ∧ ¬ X b)  (oL : Sep [oC (cSl 1 fI a.text) s_a_2.v, oC (cSl 3 fDEntry a.list) s_a_3.v, oC (cSl 3 fDSeen a.seen) s_a_4.v] X w) {r : Int × DDoc} (hx : x_laws_markDoc a k = some r) :
    Ret Try.prog 16 [(.agg #[(.string a.name), (.int .i64 a.from_), s_a_2.v, s_a_3.v, s_a_4.v]), (.int .i64 k)] w (fun u w' => ∃ _ : Unit, u = (.int .i64 r.1) ∧ Gives X S w [oC (cSl 1 fI r.2.text) s_a_2.v, oC (cSl 3 fDEntry r.2.list) s_a_3.v, oC (cSl 3 fDSeen r.2.seen) s_a_4.v] [] w') := by
  unfold x_laws_markDoc at hx
  refine enter Try.func16 rfl Try.ntmps16 (by kernel_rfl) rfl ?_
  have hM := St.enter oL hS
  refine wc_seq ?_
  refine wc_region ?_
  refine w_ex rfl (x_box rfl hM ?_); intro b33 w32 hR34 hM
  replace hM : St ⟨w, X, S⟩ [oBox b33 #[(.string a.name), (.int .i64 a.from_), s_a_2.v, s_a_3.v, s_a_4.v] 53, oC (cSl 1 fI a.text) s_a_2.v, oC (cSl 3 fDEntry a.list) s_a_3.v, oC (cSl 3 fDSeen a.seen) s_a_4.v] [] _ := hM
  refine wv rfl (r_assign rfl) ?_
  refine wl_nil ?_
  refine sq_n ?_
  refine wc_seq ?_
  refine wc_region ?_
  refine wv rfl (r_fld Try.underlying53 rfl rfl sz23 rfl) ?_
  refine wv rfl (r_ldB Try.underlying23 rfl rfl hM (.head _) rfl) ?_
  refine wv rfl (r_move rfl) ?_
  replace hM := hM.p1
  obtain ⟨r40, h41, hx⟩ := bind_some' hx
  refine w_call rfl rfl (hM.callO (l := [oC (cSl 1 fI a.text) s_a_2.v]) fun X S oL hS hR hO => ct_laws_markIntS _ X S a.text s_a_2 k hS  oL h41) ?_
  rintro _ w42 ⟨_, rfl, hM⟩
  replace hM : St ⟨w, X, S⟩ [oC (cSl 1 fI r40.2) s_a_2.v, oBox b33 #[(.string a.name), (.int .i64 a.from_), s_a_2.v, s_a_3.v, s_a_4.v] 53, oC (cSl 3 fDEntry a.list) s_a_3.v, oC (cSl 3 fDSeen a.seen) s_a_4.v] [] _ := hM
  refine wv rfl (r_assign rfl) ?_
  refine wl_nil ?_
  refine sq_n ?_
  refine wc_seq ?_
  refine wc_region ?_
  refine wv rfl (r_fld Try.underlying53 rfl rfl sz36 rfl) ?_
  refine wv rfl (r_ldB Try.underlying36 rfl rfl hM (.tail _ (.head _)) rfl) ?_
  refine wv rfl (r_move rfl) ?_
  replace hM := hM.p2
  obtain ⟨r47, h48, hx⟩ := bind_some' hx
  refine w_call rfl rfl (hM.callO (l := [oC (cSl 3 fDEntry a.list) s_a_3.v]) fun X S oL hS hR hO => ct_laws_markEntryS _ X S a.list s_a_3 r40.1 hS  oL h48) ?_
  rintro _ w49 ⟨_, rfl, hM⟩
  replace hM : St ⟨w, X, S⟩ [oC (cSl 3 fDEntry r47.2) s_a_3.v, oC (cSl 1 fI r40.2) s_a_2.v, oBox b33 #[(.string a.name), (.int .i64 a.from_), s_a_2.v, s_a_3.v, s_a_4.v] 53, oC (cSl 3 fDSeen a.seen) s_a_4.v] [] _ := hM
  refine wv rfl (r_assign rfl) ?_
  refine wl_nil ?_
  refine sq_n ?_
  refine wc_seq ?_
  refine wc_region ?_
  refine wv rfl (r_fld Try.underlying53 rfl rfl sz51 rfl) ?_
  refine wv rfl (r_ldB Try.underlying51 rfl rfl hM (.tail _ (.tail _ (.head _))) rfl) ?_
  refine wv rfl (r_move rfl) ?_
  replace hM := hM.p3
  obtain ⟨r54, h55, hx⟩ := bind_some' hx
  refine w_call rfl rfl (hM.callO (l := [oC (cSl 3 fDSeen a.seen) s_a_4.v]) fun X S oL hS hR hO => ct_laws_markSeenS _ X S a.seen s_a_4 r47.1 hS  oL h55) ?_
  rintro _ w56 ⟨_, rfl, hM⟩
  replace hM : St ⟨w, X, S⟩ [oC (cSl 3 fDSeen r54.2) s_a_4.v, oC (cSl 3 fDEntry r47.2) s_a_3.v, oC (cSl 1 fI r40.2) s_a_2.v, oBox b33 #[(.string a.name), (.int .i64 a.from_), s_a_2.v, s_a_3.v, s_a_4.v] 53] [] _ := hM
  refine wv rfl (r_assign rfl) ?_
  refine wl_nil ?_
  refine sq_n ?_
  refine wc_seq ?_
  refine wc_region ?_
  refine wv rfl (r_move rfl) ?_
  refine wv rfl (r_assign rfl) ?_
  refine wl_nil ?_
  refine sq_n ?_
  refine wc_ret ?_
  obtain rfl := Option.some.inj hx
  refine fin_ret [(.int .i64 r54.1)] ⟨rfl, trivial⟩ ?_
  replace hM := hM.p1.p2
  replace hM := hM.t3
  have hM := hM.fewer rsN
  exact ⟨(), rfl, hM.gives⟩

noncomputable def x_laws_markByteS_b0 (k27 : Int) (i28 : Int) (l29 : List UInt8) : Option (Lr (Int × Int × List UInt8) (Int × List UInt8)) :=
  bif decide (i28 < (l29.length : Int)) then (xg (0 ≤ i28 ∧ i28 < (l29.length : Int)) <| xg (inI (k27 + 1)) <| xg (inI (i28 + 1)) <| some (Lr.go (k27 + 1, i28 + 1, l29.set i28.toNat (y8 k27)))) else (some (Lr.out (k27, l29)))
noncomputable def x_laws_markByteS_f0 (s73 : Int × Int × List UInt8) : Option (Lr (Int × Int × List UInt8) (Int × List UInt8)) := x_laws_markByteS_b0 s73.1 s73.2.1 s73.2.2
noncomputable def x_laws_markByteS (a : List UInt8) (k : Int) : Option (Int × List UInt8) :=
  Option.bind (iter (x_laws_markByteS_f0) (k, 0, a)) fun (y74 : Int × List UInt8) => some (y74.1, y74.2)
theorem ct_laws_markByteS (w : World) (X S : Bs) (a : List UInt8) (s_a : Sv) (k : Int) (hS : ∀ b, S b → b < w.heap.size ∧ ¬ X b)  (oL : Sep [oC (cSl 1 fY a) s_a.v] X w) {r : Int × List UInt8} (hx : x_laws_markByteS a k = some r) :
    Ret Try.prog 17 [s_a.v, (.int .i64 k)] w (fun u w' => ∃ _ : Unit, u = (.int .i64 r.1) ∧ Gives X S w [oC (cSl 1 fY r.2) s_a.v] [] w') := by
  unfold x_laws_markByteS at hx
  refine enter Try.func17 rfl Try.ntmps17 (by kernel_rfl) rfl ?_
  have hM := St.enter oL hS
  refine wc_seq ?_
  refine wc_region ?_
  refine wv rfl (r_assign rfl) ?_
  refine wl_nil ?_
  refine sq_n ?_
  refine wc_seq ?_
  refine wc_seq ?_
  refine wc_region ?_
  refine wv rfl (r_assign rfl) ?_
  refine wl_nil ?_
  refine sq_n ?_
  refine wc_block ?_
  obtain ⟨y80, hx, hx81⟩ := bind_some' hx
  obtain ⟨m87, hx⟩ := iter_run hx
  refine wc_loop (un fun (m85 : Nat) => un fun (k82 : Int) => un fun (i83 : Int) => fun (l84 : List UInt8) => [(0, s_a.v), (1, (.int .i64 k82)), (5, (.int .i64 i83))]) (un fun (m85 : Nat) => un fun (k82 : Int) => un fun (i83 : Int) => fun (l84 : List UInt8) w' => St ⟨w, X, S⟩ [oC (cSl 1 fY l84) s_a.v] [] w' ∧ iterN _ m85 (k82, i83, l84) = some y80) (fun p => p.1) (m87, k, 0, a) ⟨rfl, rfl, rfl, trivial⟩ ⟨hM, hx⟩ ?_
  rintro ⟨m85, k82, i83, l84⟩ w88 ⟨hM, hx⟩
  obtain ⟨m89, z90, rfl, hx, hx91⟩ := iterN_step hx
  unfold x_laws_markByteS_f0 x_laws_markByteS_b0 at hx
  try dsimp only at hx
  refine wc_seq ?_
  refine wc_seq ?_
  refine wc_region ?_
  refine wv rfl (r_move rfl) ?_
  refine wv rfl (r_move rfl) ?_
  refine wv rfl (r_lenC Try.underlying48 rfl (hM.seeO (.head _))) ?_
  refine wv rfl (r_lss rfl rfl) ?_
  refine wl_nil ?_
  refine sq_n ?_
  refine wc_cond rfl (fun hc96 => ?_) (fun hc96 => ?_)
  · replace hx := xif_t hc96 hx
    refine wc_skip ?_
    refine sq_n ?_
    refine wc_seq ?_
    refine wc_block ?_
    refine wc_seq ?_
    refine wc_region ?_
    refine wv rfl (r_move rfl) ?_
    refine wv rfl (r_move rfl) ?_
    refine wv rfl (r_move rfl) ?_
    refine wv rfl (r_cvt8 Try.underlying3 Try.underlying5 rfl) ?_
    obtain ⟨hg103, hx⟩ := xg_some hx
    have hi102 : i83.toNat < l84.length := by omega
    refine wv rfl (r_ixC Try.underlying48 sz5 rfl rfl (hM.seeO (.head _)) hg103) ?_
    refine w_exu (x_stE (f := fY) (k := 1) (L := l84) (i := i83.toNat) (j := 0) (y8 k82) [cY (y8 k82)] sz5 (fun _ => rfl) rfl rfl hi102 rfl rfl rfl rfl rfl (fun _ => zP (pV _ rfl) zN) hM ?_); intro w104 hM
    refine wl_nil ?_
    refine sq_n ?_
    refine wc_region ?_
    refine wv rfl (r_move rfl) ?_
    obtain ⟨hg108, hx⟩ := xg_some hx
    refine wv rfl (r_add rfl rfl hg108) ?_
    refine wv rfl (r_assign rfl) ?_
    refine wl_nil ?_
    refine bk_n ?_
    refine sq_n ?_
    refine wc_region ?_
    refine wv rfl (r_move rfl) ?_
    obtain ⟨hg112, hx⟩ := xg_some hx
    refine wv rfl (r_add rfl rfl hg112) ?_
    refine wv rfl (r_assign rfl) ?_
    refine wl_nil ?_
    obtain rfl := Option.some.inj hx
    exact lp_end (m89, k82 + 1, i83 + 1, l84.set i83.toNat (y8 k82)) (Nat.lt_succ_self _) ⟨rfl, rfl, rfl, trivial⟩ ⟨hM, hx91⟩
  · replace hx := xif_f hc96 hx
    refine wc_exit ?_
    refine sq_exit ?_
    refine lp1_exit ?_
    obtain rfl := Option.some.inj hx
    obtain rfl := Option.some.inj hx91
    replace hx := hx81
    try dsimp only [Sum.elim_inl, Sum.elim_inr] at hx
    refine bk_here ?_
    refine sq_n ?_
    refine wc_seq ?_
    refine wc_region ?_
    refine wv rfl (r_move rfl) ?_
    refine wv rfl (r_assign rfl) ?_
    refine wl_nil ?_
    refine sq_n ?_
    refine wc_ret ?_
    obtain rfl := Option.some.inj hx
    refine fin_ret [(.int .i64 k82)] ⟨rfl, trivial⟩ ?_
    replace hM := hM.t1
    have hM := hM.fewer rsN
    exact ⟨(), rfl, hM.gives⟩

noncomputable def x_laws_heldByteS_b0 (a : List UInt8) (k3 : Int) (i4 : Int) : Option (Lr (Int × Int) (Sum Int Int)) :=
  bif decide (i4 < (a.length : Int)) then (xg (0 ≤ i4 ∧ i4 < (a.length : Int)) <| bif !decide (((el a i4.toNat).toNat : Int) = ((y8 k3).toNat : Int)) then (some (Lr.out (Sum.inr (-1)))) else (xg (inI (k3 + 1)) <| xg (inI (i4 + 1)) <| some (Lr.go (k3 + 1, i4 + 1)))) else (some (Lr.out (Sum.inl k3)))
noncomputable def x_laws_heldByteS_f0 (a : List UInt8) (s49 : Int × Int) : Option (Lr (Int × Int) (Sum Int Int)) := x_laws_heldByteS_b0 a s49.1 s49.2
noncomputable def x_laws_heldByteS (a : List UInt8) (k : Int) : Option Int :=
  Option.bind (iter (x_laws_heldByteS_f0 a) (k, 0)) fun (y50 : Sum Int Int) => Sum.elim (fun y51 => some y51) (fun y52 => some y52) y50
theorem ct_laws_heldByteS (w : World) (X S : Bs) (a : List UInt8) (s_a : Sv) (k : Int) (hS : ∀ b, S b → b < w.heap.size ∧ ¬ X b) (a_a_0 : (cSl 1 fY a).rd S w s_a.v) (oL : Sep [] X w) {r : Int} (hx : x_laws_heldByteS a k = some r) :
    Ret Try.prog 18 [s_a.v, (.int .i64 k)] w (fun u w' => ∃ _ : Unit, u = (.int .i64 r) ∧ Gives X S w [] [] w') := by
  unfold x_laws_heldByteS at hx
  refine enter Try.func18 rfl Try.ntmps18 (by kernel_rfl) rfl ?_
  have hM := St.enter oL hS
  have hM := hM.addE (r := rV s_a.v (cSl 1 fY a)) a_a_0
  refine wc_seq ?_
  refine wc_region ?_
  refine wv rfl (r_assign rfl) ?_
  refine wl_nil ?_
  refine sq_n ?_
  refine wc_seq ?_
  refine wc_seq ?_
  refine wc_region ?_
  refine wv rfl (r_assign rfl) ?_
  refine wl_nil ?_
  refine sq_n ?_
  refine wc_block ?_
  obtain ⟨y57, hx, hx58⟩ := bind_some' hx
  obtain ⟨m63, hx⟩ := iter_run hx
  refine wc_loop (un fun (m61 : Nat) => un fun (k59 : Int) => fun (i60 : Int) => [(0, s_a.v), (1, (.int .i64 k59)), (5, (.int .i64 i60))]) (un fun (m61 : Nat) => un fun (k59 : Int) => fun (i60 : Int) w' => St ⟨w, X, S⟩ [] [rV s_a.v (cSl 1 fY a)] w' ∧ iterN _ m61 (k59, i60) = some y57) (fun p => p.1) (m63, k, 0) ⟨rfl, rfl, rfl, trivial⟩ ⟨hM, hx⟩ ?_
  rintro ⟨m61, k59, i60⟩ w64 ⟨hM, hx⟩
  obtain ⟨m65, z66, rfl, hx, hx67⟩ := iterN_step hx
  unfold x_laws_heldByteS_f0 x_laws_heldByteS_b0 at hx
  try dsimp only at hx
  refine wc_seq ?_
  refine wc_seq ?_
  refine wc_region ?_
  refine wv rfl (r_move rfl) ?_
  refine wv rfl (r_move rfl) ?_
  refine wv rfl (r_lenC Try.underlying48 rfl (hM.seeR (.head _))) ?_
  refine wv rfl (r_lss rfl rfl) ?_
  refine wl_nil ?_
  refine sq_n ?_
  refine wc_cond rfl (fun hc72 => ?_) (fun hc72 => ?_)
  · replace hx := xif_t hc72 hx
    refine wc_skip ?_
    refine sq_n ?_
    refine wc_seq ?_
    refine wc_block ?_
    refine wc_seq ?_
    refine wc_seq ?_
    refine wc_region ?_
    refine wv rfl (r_move rfl) ?_
    refine wv rfl (r_move rfl) ?_
    obtain ⟨hg77, hx⟩ := xg_some hx
    have hi76 : i60.toNat < a.length := by omega
    refine wv rfl (r_ixC Try.underlying48 sz5 rfl rfl (hM.seeR (.head _)) hg77) ?_
    refine wv rfl (r_ld Try.underlying5 rfl rfl (Cs.get (i := i60.toNat) (j := 0) (hM.seeR (.head _)) (fun _ => rfl) hi76 rfl)) ?_
    refine wv rfl (r_move rfl) ?_
    refine wv rfl (r_cvt8 Try.underlying3 Try.underlying5 rfl) ?_
    refine wv rfl (r_neq rfl rfl) ?_
    refine wl_nil ?_
    refine sq_n ?_
    refine wc_cond rfl (fun hc82 => ?_) (fun hc82 => ?_)
    · replace hx := xif_t hc82 hx
      refine wc_seq ?_
      refine wc_region ?_
      refine wv rfl (r_assign rfl) ?_
      refine wl_nil ?_
      refine sq_n ?_
      refine wc_ret ?_
      refine sq_ret ?_
      refine bk_ret ?_
      refine sq_ret ?_
      refine lp1_ret ?_
      obtain rfl := Option.some.inj hx
      obtain rfl := Option.some.inj hx67
      replace hx := hx58
      try dsimp only [Sum.elim_inl, Sum.elim_inr] at hx
      refine bk_ret ?_
      refine sq_ret ?_
      obtain rfl := Option.some.inj hx
      refine fin_ret [(.int .i64 (-1))] ⟨rfl, trivial⟩ ?_
      replace hM := hM.t0
      have hM := hM.fewer rsN
      exact ⟨(), rfl, hM.gives⟩
    · replace hx := xif_f hc82 hx
      refine wc_skip ?_
      refine sq_n ?_
      refine wc_region ?_
      refine wv rfl (r_move rfl) ?_
      obtain ⟨hg86, hx⟩ := xg_some hx
      refine wv rfl (r_add rfl rfl hg86) ?_
      refine wv rfl (r_assign rfl) ?_
      refine wl_nil ?_
      refine bk_n ?_
      refine sq_n ?_
      refine wc_region ?_
      refine wv rfl (r_move rfl) ?_
      obtain ⟨hg90, hx⟩ := xg_some hx
      refine wv rfl (r_add rfl rfl hg90) ?_
      refine wv rfl (r_assign rfl) ?_
      refine wl_nil ?_
      obtain rfl := Option.some.inj hx
      exact lp_end (m65, k59 + 1, i60 + 1) (Nat.lt_succ_self _) ⟨rfl, rfl, rfl, trivial⟩ ⟨hM, hx67⟩
  · replace hx := xif_f hc72 hx
    refine wc_exit ?_
    refine sq_exit ?_
    refine lp1_exit ?_
    obtain rfl := Option.some.inj hx
    obtain rfl := Option.some.inj hx67
    replace hx := hx58
    try dsimp only [Sum.elim_inl, Sum.elim_inr] at hx
    refine bk_here ?_
    refine sq_n ?_
    refine wc_seq ?_
    refine wc_region ?_
    refine wv rfl (r_move rfl) ?_
    refine wv rfl (r_assign rfl) ?_
    refine wl_nil ?_
    refine sq_n ?_
    refine wc_ret ?_
    obtain rfl := Option.some.inj hx
    refine fin_ret [(.int .i64 k59)] ⟨rfl, trivial⟩ ?_
    replace hM := hM.t0
    have hM := hM.fewer rsN
    exact ⟨(), rfl, hM.gives⟩

noncomputable def x_laws_FnExactDocBytes (aD : DDoc) : Option Bool :=
  Option.bind (x_laws_szDoc aD 1048576) fun r9 => bif decide (r9 < 0) then (some true) else (Option.bind (x_laws_toDoc aD) fun r18 => Option.bind (x_spec_DocBytes r18) fun r27 => Option.bind (x_laws_toDoc aD) fun r38 => Option.bind (x_impl_DocBytes r38) fun r54 => Option.bind (x_laws_eqByteS r54.1 r27.1) fun r66 => Option.bind (bif !r66 then (some true) else (some (!(r54.2 == r27.2)))) fun c72 => bif c72 then (some false) else (Option.bind (x_laws_toDoc aD) fun r83 => Option.bind (x_laws_eqDoc r38 r83) fun r95 => bif !r95 then (some false) else (Option.bind (x_laws_markDoc r38 1) fun r105 => Option.bind (bif decide (r105.1 < 0) then (some true) else (Option.bind (x_laws_eqByteS r54.1 r27.1) fun r123 => some (!r123))) fun c112 => Option.bind (bif c112 then (some true) else (some (!(r54.2 == r27.2)))) fun c129 => bif c129 then (some false) else (Option.bind (x_laws_markByteS r54.1 1) fun r141 => Option.bind (x_laws_heldByteS r141.2 1) fun r148 => bif decide (r148 < 0) then (some false) else (bif !decide (r148 = r141.1) then (some false) else (Option.bind (x_laws_toDoc aD) fun r161 => Option.bind (x_impl_DocBytes r161) fun r170 => Option.bind (x_laws_eqByteS r170.1 r27.1) fun r182 => Option.bind (bif !r182 then (some true) else (some (!(r170.2 == r27.2)))) fun c188 => bif c188 then (some false) else (Option.bind (x_laws_heldByteS r141.2 1) fun r200 => bif decide (r200 < 0) then (some false) else (bif !decide (r200 = r141.1) then (some false) else (some true)))))))))
theorem ct_laws_FnExactDocBytes (w : World) (X S : Bs) (aD : DDoc) (s_aD_2 : Sv) (s_aD_3 : Sv) (s_aD_4 : Sv) (hS : ∀ b, S b → b < w.heap.size ∧ ¬ X b) (a_aD_2 : (cSl 1 fI aD.text).rd S w s_aD_2.v) (a_aD_3 : (cSl 3 fDEntry aD.list).rd S w s_aD_3.v) (a_aD_4 : (cSl 3 fDSeen aD.seen).rd S w s_aD_4.v) (oL : Sep [] X w) {r : Bool} (hx : x_laws_FnExactDocBytes aD = some r) :
    Ret Try.prog 4 [(.agg #[(.string aD.name), (.int .i64 aD.from_), s_aD_2.v, s_aD_3.v, s_aD_4.v])] w (fun u w' => ∃ _ : Unit, u = (.bool r) ∧ Gives X S w [] [] w') := by
  unfold x_laws_FnExactDocBytes at hx
  refine enter Try.func4 rfl Try.ntmps4 (by kernel_rfl) rfl ?_
  have hM := St.enter oL hS
  have hM := hM.addE (r := rV s_aD_2.v (cSl 1 fI aD.text)) a_aD_2
  have hM := hM.addE (r := rV s_aD_3.v (cSl 3 fDEntry aD.list)) a_aD_3
  have hM := hM.addE (r := rV s_aD_4.v (cSl 3 fDSeen aD.seen)) a_aD_4
  refine wc_seq ?_
  refine wc_region ?_
  refine w_ex rfl (x_box rfl hM ?_); intro b214 w213 hR215 hM
  replace hM : St ⟨w, X, S⟩ [oBox b214 #[(.string aD.name), (.int .i64 aD.from_), s_aD_2.v, s_aD_3.v, s_aD_4.v] 46] [rV s_aD_4.v (cSl 3 fDSeen aD.seen), rV s_aD_3.v (cSl 3 fDEntry aD.list), rV s_aD_2.v (cSl 1 fI aD.text)] _ := hM
  refine wv rfl (r_assign rfl) ?_
  refine wl_nil ?_
  refine sq_n ?_
  refine wc_seq ?_
  refine wc_region ?_
  refine wv rfl (r_assign rfl) ?_
  refine wl_nil ?_
  refine sq_n ?_
  refine wc_seq ?_
  refine wc_region ?_
  refine wv rfl (r_ldBS Try.underlying46 sz46 rfl (us := [(.string aD.name), (.int .i64 aD.from_), s_aD_2.v, s_aD_3.v, s_aD_4.v]) rfl hM (.head _) rfl) ?_
  refine wv rfl (r_move rfl) ?_
  obtain ⟨r221, h222, hx⟩ := bind_some' hx
  refine w_call rfl rfl (hM.callV fun X S oL hS hR hO => ct_laws_szDoc _ X S aD s_aD_2 s_aD_3 s_aD_4 (1048576 : Int) hS (hR _ (.tail _ (.tail _ (.head _)))) (hR _ (.tail _ (.head _))) (hR _ (.head _)) oL h222) ?_
  rintro _ w223 ⟨rfl, hR224⟩
  have hM := hM.call hR224
  refine wv rfl (r_assign rfl) ?_
  refine wl_nil ?_
  refine sq_n ?_
  refine wc_seq ?_
  refine wc_seq ?_
  refine wc_region ?_
  refine wv rfl (r_move rfl) ?_
  refine wv rfl (r_lss rfl rfl) ?_
  refine wl_nil ?_
  refine sq_n ?_
  refine wc_cond rfl (fun hc228 => ?_) (fun hc228 => ?_)
  · replace hx := xif_t hc228 hx
    refine wc_seq ?_
    refine wc_region ?_
    refine wv rfl (r_assign rfl) ?_
    refine wl_nil ?_
    refine sq_n ?_
    refine wc_ret ?_
    refine sq_ret ?_
    obtain rfl := Option.some.inj hx
    refine fin_ret [(.bool true)] ⟨rfl, trivial⟩ ?_
    replace hM := hM.t0
    have hM := hM.fewer rsN
    exact ⟨(), rfl, hM.gives⟩
  · replace hx := xif_f hc228 hx
    refine wc_skip ?_
    refine sq_n ?_
    refine wc_seq ?_
    refine wc_region ?_
    refine wv rfl (r_ldBS Try.underlying46 sz46 rfl (us := [(.string aD.name), (.int .i64 aD.from_), s_aD_2.v, s_aD_3.v, s_aD_4.v]) rfl hM (.head _) rfl) ?_
    obtain ⟨r231, h232, hx⟩ := bind_some' hx
    refine w_call rfl rfl (hM.callO (l := []) fun X S oL hS hR hO => ct_laws_toDoc _ X S aD s_aD_2 s_aD_3 s_aD_4 hS (hR _ (.tail _ (.tail _ (.head _)))) (hR _ (.tail _ (.head _))) (hR _ (.head _)) oL h232) ?_
    rintro _ w233 ⟨⟨s234, s235, s236⟩, rfl, hM⟩
    replace hM : St ⟨w, X, S⟩ [oC (cSl 1 fI r231.text) s234.v, oC (cSl 3 fDEntry r231.list) s235.v, oC (cSl 3 fDSeen r231.seen) s236.v, oBox b214 #[(.string aD.name), (.int .i64 aD.from_), s_aD_2.v, s_aD_3.v, s_aD_4.v] 46] [rV s_aD_4.v (cSl 3 fDSeen aD.seen), rV s_aD_3.v (cSl 3 fDEntry aD.list), rV s_aD_2.v (cSl 1 fI aD.text)] _ := hM
    obtain ⟨r240, h241, hx⟩ := bind_some' hx
    refine w_call rfl rfl (hM.callO (l := []) fun X S oL hS hR hO => ct_spec_DocBytes _ X S r231 s234 s235 s236 hS (seeA hO (.head _)) (seeA hO (.tail _ (.head _))) (seeA hO (.tail _ (.tail _ (.head _)))) oL h241) ?_
    rintro _ w242 ⟨s243, rfl, hM⟩
    replace hM : St ⟨w, X, S⟩ [oC (cSl 1 fY r240.1) s243.v, oC (cSl 1 fI r231.text) s234.v, oC (cSl 3 fDEntry r231.list) s235.v, oC (cSl 3 fDSeen r231.seen) s236.v, oBox b214 #[(.string aD.name), (.int .i64 aD.from_), s_aD_2.v, s_aD_3.v, s_aD_4.v] 46] [rV s_aD_4.v (cSl 3 fDSeen aD.seen), rV s_aD_3.v (cSl 3 fDEntry aD.list), rV s_aD_2.v (cSl 1 fI aD.text)] _ := hM
    refine wv rfl (r_move rfl) ?_
    refine wv rfl (r_extract rfl rfl) ?_
    refine wv rfl (r_extract rfl rfl) ?_
    refine wv rfl (r_assign rfl) ?_
    refine wv rfl (r_assign rfl) ?_
    refine wl_nil ?_
    refine sq_n ?_
    refine wc_seq ?_
    refine wc_region ?_
    refine wv rfl (r_ldBS Try.underlying46 sz46 rfl (us := [(.string aD.name), (.int .i64 aD.from_), s_aD_2.v, s_aD_3.v, s_aD_4.v]) rfl hM (.tail _ (.tail _ (.tail _ (.tail _ (.head _))))) rfl) ?_
    obtain ⟨r251, h252, hx⟩ := bind_some' hx
    refine w_call rfl rfl (hM.callO (l := []) fun X S oL hS hR hO => ct_laws_toDoc _ X S aD s_aD_2 s_aD_3 s_aD_4 hS (hR _ (.tail _ (.tail _ (.head _)))) (hR _ (.tail _ (.head _))) (hR _ (.head _)) oL h252) ?_
    rintro _ w253 ⟨⟨s254, s255, s256⟩, rfl, hM⟩
    replace hM : St ⟨w, X, S⟩ [oC (cSl 1 fI r251.text) s254.v, oC (cSl 3 fDEntry r251.list) s255.v, oC (cSl 3 fDSeen r251.seen) s256.v, oC (cSl 1 fY r240.1) s243.v, oC (cSl 1 fI r231.text) s234.v, oC (cSl 3 fDEntry r231.list) s235.v, oC (cSl 3 fDSeen r231.seen) s236.v, oBox b214 #[(.string aD.name), (.int .i64 aD.from_), s_aD_2.v, s_aD_3.v, s_aD_4.v] 46] [rV s_aD_4.v (cSl 3 fDSeen aD.seen), rV s_aD_3.v (cSl 3 fDEntry aD.list), rV s_aD_2.v (cSl 1 fI aD.text)] _ := hM
    refine w_ex rfl (x_alloc sz53 hM ?_); intro b261 w260 hR262 hM
    replace hM : St ⟨w, X, S⟩ [oBox b261 #[(.string ByteArray.empty), (.int .i64 0), (.slice none 0 0), (.slice none 0 0), (.slice none 0 0)] 53, oC (cSl 1 fI r251.text) s254.v, oC (cSl 3 fDEntry r251.list) s255.v, oC (cSl 3 fDSeen r251.seen) s256.v, oC (cSl 1 fY r240.1) s243.v, oC (cSl 1 fI r231.text) s234.v, oC (cSl 3 fDEntry r231.list) s235.v, oC (cSl 3 fDSeen r231.seen) s236.v, oBox b214 #[(.string aD.name), (.int .i64 aD.from_), s_aD_2.v, s_aD_3.v, s_aD_4.v] 46] [rV s_aD_4.v (cSl 3 fDSeen aD.seen), rV s_aD_3.v (cSl 3 fDEntry aD.list), rV s_aD_2.v (cSl 1 fI aD.text)] _ := hM
    refine w_exu (x_stB #[(.string r251.name), (.int .i64 r251.from_), s254.v, s255.v, s256.v] sz53 rfl rfl rfl rfl rfl rfl hM ?_); intro w264 hM
    refine wl_nil ?_
    refine sq_n ?_
    refine wc_seq ?_
    refine wc_region ?_
    refine wv rfl (r_ldBS Try.underlying53 sz53 rfl (us := [(.string r251.name), (.int .i64 r251.from_), s254.v, s255.v, s256.v]) rfl hM (.head _) rfl) ?_
    obtain ⟨r267, h268, hx⟩ := bind_some' hx
    refine w_call rfl rfl (hM.callO (l := []) fun X S oL hS hR hO => ct_impl_DocBytes _ X S r251 s254 s255 s256 hS (seeA hO (.tail _ (.head _))) (seeA hO (.tail _ (.tail _ (.head _)))) (seeA hO (.tail _ (.tail _ (.tail _ (.head _))))) oL h268) ?_
    rintro _ w269 ⟨s270, rfl, hM⟩
    replace hM : St ⟨w, X, S⟩ [oC (cSl 1 fY r267.1) s270.v, oBox b261 #[(.string r251.name), (.int .i64 r251.from_), s254.v, s255.v, s256.v] 53, oC (cSl 1 fI r251.text) s254.v, oC (cSl 3 fDEntry r251.list) s255.v, oC (cSl 3 fDSeen r251.seen) s256.v, oC (cSl 1 fY r240.1) s243.v, oC (cSl 1 fI r231.text) s234.v, oC (cSl 3 fDEntry r231.list) s235.v, oC (cSl 3 fDSeen r231.seen) s236.v, oBox b214 #[(.string aD.name), (.int .i64 aD.from_), s_aD_2.v, s_aD_3.v, s_aD_4.v] 46] [rV s_aD_4.v (cSl 3 fDSeen aD.seen), rV s_aD_3.v (cSl 3 fDEntry aD.list), rV s_aD_2.v (cSl 1 fI aD.text)] _ := hM
    refine wv rfl (r_move rfl) ?_
    refine wv rfl (r_extract rfl rfl) ?_
    refine wv rfl (r_extract rfl rfl) ?_
    refine wv rfl (r_assign rfl) ?_
    refine wv rfl (r_assign rfl) ?_
    refine wl_nil ?_
    refine sq_n ?_
    refine wc_seq ?_
    refine wc_seq ?_
    refine wc_region ?_
    refine wv rfl (r_move rfl) ?_
    refine wv rfl (r_move rfl) ?_
    obtain ⟨r279, h280, hx⟩ := bind_some' hx
    refine w_call rfl rfl (hM.callV fun X S oL hS hR hO => ct_laws_eqByteS _ X S r267.1 s270 r240.1 s243 hS (seeA hO (.head _)) (seeA hO (.tail _ (.tail _ (.tail _ (.tail _ (.tail _ (.head _))))))) oL h280) ?_
    rintro _ w281 ⟨rfl, hR282⟩
    have hM := hM.call hR282
    refine wv rfl (r_not rfl) ?_
    refine wv rfl (r_move rfl) ?_
    obtain ⟨c285, hx, hx290⟩ := bind_some' hx
    refine wl_mid 4 (fun _ : Unit => [(40, (.bool c285)), (1, (.pointer (some ⟨b214, 0, none⟩))), (4, s243.v), (5, (.bool r240.2)), (6, (.pointer (some ⟨b261, 0, none⟩))), (7, s270.v), (8, (.bool r267.2))]) (fun _ w' => St ⟨w, X, S⟩ [oC (cSl 1 fY r267.1) s270.v, oBox b261 #[(.string r251.name), (.int .i64 r251.from_), s254.v, s255.v, s256.v] 53, oC (cSl 1 fI r251.text) s254.v, oC (cSl 3 fDEntry r251.list) s255.v, oC (cSl 3 fDSeen r251.seen) s256.v, oC (cSl 1 fY r240.1) s243.v, oC (cSl 1 fI r231.text) s234.v, oC (cSl 3 fDEntry r231.list) s235.v, oC (cSl 3 fDSeen r231.seen) s236.v, oBox b214 #[(.string aD.name), (.int .i64 aD.from_), s_aD_2.v, s_aD_3.v, s_aD_4.v] 46] [rV s_aD_4.v (cSl 3 fDSeen aD.seen), rV s_aD_3.v (cSl 3 fDEntry aD.list), rV s_aD_2.v (cSl 1 fI aD.text)] w') ?_ ?_
    · rcases Bool.eq_false_or_eq_true (!r279) with hg286 | hg286
      · replace hx := xif_t hg286 hx
        refine gs rfl (isB_no hg286) rfl ?_
        refine gs rfl (isB_no hg286) rfl ?_
        refine gs rfl (isB_no hg286) rfl ?_
        refine wv rfl (p_t rfl hg286 rfl) ?_
        obtain rfl := Option.some.inj hx
        exact mid_nil () ⟨rfl, rfl, rfl, rfl, rfl, rfl, rfl, trivial⟩ hM
      · replace hx := xif_f hg286 hx
        refine gv rfl hg286 rfl (r_move rfl) ?_
        refine gv rfl hg286 rfl (r_move rfl) ?_
        refine gv rfl hg286 rfl (r_neqb Try.underlying4 rfl rfl) ?_
        refine wv rfl (p_f rfl hg286 rfl) ?_
        obtain rfl := Option.some.inj hx
        exact mid_nil () ⟨rfl, rfl, rfl, rfl, rfl, rfl, rfl, trivial⟩ hM
    rintro _ w294 hM
    replace hx := hx290
    refine wl_nil ?_
    refine sq_n ?_
    refine wc_cond rfl (fun hc295 => ?_) (fun hc295 => ?_)
    · replace hx := xif_t hc295 hx
      refine wc_seq ?_
      refine wc_region ?_
      refine wv rfl (r_assign rfl) ?_
      refine wl_nil ?_
      refine sq_n ?_
      refine wc_ret ?_
      refine sq_ret ?_
      obtain rfl := Option.some.inj hx
      refine fin_ret [(.bool false)] ⟨rfl, trivial⟩ ?_
      replace hM := hM.t0
      have hM := hM.fewer rsN
      exact ⟨(), rfl, hM.gives⟩
    · replace hx := xif_f hc295 hx
      refine wc_skip ?_
      refine sq_n ?_
      refine wc_seq ?_
      refine wc_seq ?_
      refine wc_draw [(0, 0), (1, 0), (2, 1), (3, 0), (4, 0)] Try_mixed (by kernel_rfl) rfl (by kernel_rfl) rfl ?_
      refine ov rfl (fun w' h' => r_ldBS Try.underlying53 sz53 rfl (us := [(.string r251.name), (.int .i64 r251.from_), s254.v, s255.v, s256.v]) rfl (hM.call h') (.tail _ (.head _)) rfl) ?_
      refine ov rfl (fun w' h' => r_ldBS Try.underlying46 sz46 rfl (us := [(.string aD.name), (.int .i64 aD.from_), s_aD_2.v, s_aD_3.v, s_aD_4.v]) rfl (hM.call h') (.tail _ (.tail _ (.tail _ (.tail _ (.tail _ (.tail _ (.tail _ (.tail _ (.tail _ (.head _)))))))))) rfl) ?_
      obtain ⟨r299, h300, hx⟩ := bind_some' hx
      refine o_forced rfl rfl (fun w' h' => (hM.call h').callF fun X S oL hS hR hO => ct_laws_toDoc _ X S aD s_aD_2 s_aD_3 s_aD_4 hS (hR _ (.tail _ (.tail _ (.head _)))) (hR _ (.tail _ (.head _))) (hR _ (.head _)) oL h300) ?_
      rintro w305 h306 _ w301 ⟨hR307, ⟨s302, s303, s304⟩, rfl, hM⟩
      refine ⟨hR307, ?_⟩
      replace hM : St ⟨w, X, S⟩ [oC (cSl 1 fI r299.text) s302.v, oC (cSl 3 fDEntry r299.list) s303.v, oC (cSl 3 fDSeen r299.seen) s304.v, oC (cSl 1 fY r267.1) s270.v, oBox b261 #[(.string r251.name), (.int .i64 r251.from_), s254.v, s255.v, s256.v] 53, oC (cSl 1 fI r251.text) s254.v, oC (cSl 3 fDEntry r251.list) s255.v, oC (cSl 3 fDSeen r251.seen) s256.v, oC (cSl 1 fY r240.1) s243.v, oC (cSl 1 fI r231.text) s234.v, oC (cSl 3 fDEntry r231.list) s235.v, oC (cSl 3 fDSeen r231.seen) s236.v, oBox b214 #[(.string aD.name), (.int .i64 aD.from_), s_aD_2.v, s_aD_3.v, s_aD_4.v] 46] [rV s_aD_4.v (cSl 3 fDSeen aD.seen), rV s_aD_3.v (cSl 3 fDEntry aD.list), rV s_aD_2.v (cSl 1 fI aD.text)] _ := hM
      obtain ⟨r311, h312, hx⟩ := bind_some' hx
      refine oc rfl rfl (fun w' h' => (hM.call h').callV fun X S oL hS hR hO => ct_laws_eqDoc _ X S r251 s254 s255 s256 r299 s302 s303 s304 hS (seeA hO (.tail _ (.tail _ (.tail _ (.tail _ (.tail _ (.head _))))))) (seeA hO (.tail _ (.tail _ (.tail _ (.tail _ (.tail _ (.tail _ (.head _)))))))) (seeA hO (.tail _ (.tail _ (.tail _ (.tail _ (.tail _ (.tail _ (.tail _ (.head _))))))))) (seeA hO (.head _)) (seeA hO (.tail _ (.head _))) (seeA hO (.tail _ (.tail _ (.head _)))) oL h312) ?_
      refine ov rfl (fun w' h' => r_not rfl) ?_
      refine o_nil fun w315 hw316 => ?_
      have hM := hM.call hw316
      refine sq_n ?_
      refine wc_cond rfl (fun hc317 => ?_) (fun hc317 => ?_)
      · replace hx := xif_t hc317 hx
        refine wc_seq ?_
        refine wc_region ?_
        refine wv rfl (r_assign rfl) ?_
        refine wl_nil ?_
        refine sq_n ?_
        refine wc_ret ?_
        refine sq_ret ?_
        obtain rfl := Option.some.inj hx
        refine fin_ret [(.bool false)] ⟨rfl, trivial⟩ ?_
        replace hM := hM.t0
        have hM := hM.fewer rsN
        exact ⟨(), rfl, hM.gives⟩
      · replace hx := xif_f hc317 hx
        refine wc_skip ?_
        refine sq_n ?_
        refine wc_seq ?_
        refine wc_region ?_
        refine wv rfl (r_assign rfl) ?_
        refine wl_nil ?_
        refine sq_n ?_
        refine wc_seq ?_
        refine wc_region ?_
        refine wv rfl (r_ldBS Try.underlying53 sz53 rfl (us := [(.string r251.name), (.int .i64 r251.from_), s254.v, s255.v, s256.v]) rfl hM (.tail _ (.tail _ (.tail _ (.tail _ (.head _))))) rfl) ?_
        refine wv rfl (r_move rfl) ?_
        replace hM := hM.p7.p7.p7
        obtain ⟨r322, h323, hx⟩ := bind_some' hx
        refine w_call rfl rfl (hM.callO (l := [oC (cSl 1 fI r251.text) s254.v, oC (cSl 3 fDEntry r251.list) s255.v, oC (cSl 3 fDSeen r251.seen) s256.v]) fun X S oL hS hR hO => ct_laws_markDoc _ X S r251 s254 s255 s256 (1 : Int) hS  oL h323) ?_
        rintro _ w324 ⟨_, rfl, hM⟩
        replace hM : St ⟨w, X, S⟩ [oC (cSl 1 fI r322.2.text) s254.v, oC (cSl 3 fDEntry r322.2.list) s255.v, oC (cSl 3 fDSeen r322.2.seen) s256.v, oC (cSl 1 fI r299.text) s302.v, oC (cSl 3 fDEntry r299.list) s303.v, oC (cSl 3 fDSeen r299.seen) s304.v, oC (cSl 1 fY r267.1) s270.v, oBox b261 #[(.string r251.name), (.int .i64 r251.from_), s254.v, s255.v, s256.v] 53, oC (cSl 1 fY r240.1) s243.v, oC (cSl 1 fI r231.text) s234.v, oC (cSl 3 fDEntry r231.list) s235.v, oC (cSl 3 fDSeen r231.seen) s236.v, oBox b214 #[(.string aD.name), (.int .i64 aD.from_), s_aD_2.v, s_aD_3.v, s_aD_4.v] 46] [rV s_aD_4.v (cSl 3 fDSeen aD.seen), rV s_aD_3.v (cSl 3 fDEntry aD.list), rV s_aD_2.v (cSl 1 fI aD.text)] _ := hM
        refine wv rfl (r_assign rfl) ?_
        refine wl_nil ?_
        refine sq_n ?_
        refine wc_seq ?_
        refine wc_seq ?_
        refine wc_region ?_
        refine wv rfl (r_move rfl) ?_
        refine wv rfl (r_lss rfl rfl) ?_
        refine wv rfl (r_move rfl) ?_
        obtain ⟨c329, hx, hx338⟩ := bind_some' hx
        refine wl_mid 5 (fun _ : Unit => [(56, (.bool c329)), (1, (.pointer (some ⟨b214, 0, none⟩))), (4, s243.v), (5, (.bool r240.2)), (7, s270.v), (8, (.bool r267.2))]) (fun _ w' => St ⟨w, X, S⟩ [oC (cSl 1 fI r322.2.text) s254.v, oC (cSl 3 fDEntry r322.2.list) s255.v, oC (cSl 3 fDSeen r322.2.seen) s256.v, oC (cSl 1 fI r299.text) s302.v, oC (cSl 3 fDEntry r299.list) s303.v, oC (cSl 3 fDSeen r299.seen) s304.v, oC (cSl 1 fY r267.1) s270.v, oBox b261 #[(.string r251.name), (.int .i64 r251.from_), s254.v, s255.v, s256.v] 53, oC (cSl 1 fY r240.1) s243.v, oC (cSl 1 fI r231.text) s234.v, oC (cSl 3 fDEntry r231.list) s235.v, oC (cSl 3 fDSeen r231.seen) s236.v, oBox b214 #[(.string aD.name), (.int .i64 aD.from_), s_aD_2.v, s_aD_3.v, s_aD_4.v] 46] [rV s_aD_4.v (cSl 3 fDSeen aD.seen), rV s_aD_3.v (cSl 3 fDEntry aD.list), rV s_aD_2.v (cSl 1 fI aD.text)] w') ?_ ?_
        · rcases Bool.eq_false_or_eq_true (decide (r322.1 < 0)) with hg330 | hg330
          · replace hx := xif_t hg330 hx
            refine gs rfl (isB_no hg330) rfl ?_
            refine gs rfl (isB_no hg330) rfl ?_
            refine gs rfl (isB_no hg330) rfl ?_
            refine gs rfl (isB_no hg330) rfl ?_
            refine wv rfl (p_t rfl hg330 rfl) ?_
            obtain rfl := Option.some.inj hx
            exact mid_nil () ⟨rfl, rfl, rfl, rfl, rfl, rfl, trivial⟩ hM
          · replace hx := xif_f hg330 hx
            refine gv rfl hg330 rfl (r_move rfl) ?_
            refine gv rfl hg330 rfl (r_move rfl) ?_
            obtain ⟨r341, h342, hx⟩ := bind_some' hx
            refine gc rfl hg330 rfl rfl (hM.callV fun X S oL hS hR hO => ct_laws_eqByteS _ X S r267.1 s270 r240.1 s243 hS (seeA hO (.tail _ (.tail _ (.tail _ (.tail _ (.tail _ (.tail _ (.head _)))))))) (seeA hO (.tail _ (.tail _ (.tail _ (.tail _ (.tail _ (.tail _ (.tail _ (.tail _ (.head _)))))))))) oL h342) ?_
            rintro _ w343 ⟨rfl, hR344⟩
            have hM := hM.call hR344
            refine gv rfl hg330 rfl (r_not rfl) ?_
            refine wv rfl (p_f rfl hg330 rfl) ?_
            obtain rfl := Option.some.inj hx
            exact mid_nil () ⟨rfl, rfl, rfl, rfl, rfl, rfl, trivial⟩ hM
        rintro _ w346 hM
        replace hx := hx338
        refine wv rfl (r_move rfl) ?_
        obtain ⟨c348, hx, hx353⟩ := bind_some' hx
        refine wl_mid 4 (fun _ : Unit => [(61, (.bool c348)), (1, (.pointer (some ⟨b214, 0, none⟩))), (4, s243.v), (5, (.bool r240.2)), (7, s270.v)]) (fun _ w' => St ⟨w, X, S⟩ [oC (cSl 1 fI r322.2.text) s254.v, oC (cSl 3 fDEntry r322.2.list) s255.v, oC (cSl 3 fDSeen r322.2.seen) s256.v, oC (cSl 1 fI r299.text) s302.v, oC (cSl 3 fDEntry r299.list) s303.v, oC (cSl 3 fDSeen r299.seen) s304.v, oC (cSl 1 fY r267.1) s270.v, oBox b261 #[(.string r251.name), (.int .i64 r251.from_), s254.v, s255.v, s256.v] 53, oC (cSl 1 fY r240.1) s243.v, oC (cSl 1 fI r231.text) s234.v, oC (cSl 3 fDEntry r231.list) s235.v, oC (cSl 3 fDSeen r231.seen) s236.v, oBox b214 #[(.string aD.name), (.int .i64 aD.from_), s_aD_2.v, s_aD_3.v, s_aD_4.v] 46] [rV s_aD_4.v (cSl 3 fDSeen aD.seen), rV s_aD_3.v (cSl 3 fDEntry aD.list), rV s_aD_2.v (cSl 1 fI aD.text)] w') ?_ ?_
        · rcases Bool.eq_false_or_eq_true c329 with hg349 | hg349
          · replace hx := xif_t hg349 hx
            refine gs rfl (isB_no hg349) rfl ?_
            refine gs rfl (isB_no hg349) rfl ?_
            refine gs rfl (isB_no hg349) rfl ?_
            refine wv rfl (p_t rfl hg349 rfl) ?_
            obtain rfl := Option.some.inj hx
            exact mid_nil () ⟨rfl, rfl, rfl, rfl, rfl, trivial⟩ hM
          · replace hx := xif_f hg349 hx
            refine gv rfl hg349 rfl (r_move rfl) ?_
            refine gv rfl hg349 rfl (r_move rfl) ?_
            refine gv rfl hg349 rfl (r_neqb Try.underlying4 rfl rfl) ?_
            refine wv rfl (p_f rfl hg349 rfl) ?_
            obtain rfl := Option.some.inj hx
            exact mid_nil () ⟨rfl, rfl, rfl, rfl, rfl, trivial⟩ hM
        rintro _ w357 hM
        replace hx := hx353
        refine wl_nil ?_
        refine sq_n ?_
        refine wc_cond rfl (fun hc358 => ?_) (fun hc358 => ?_)
        · replace hx := xif_t hc358 hx
          refine wc_seq ?_
          refine wc_region ?_
          refine wv rfl (r_assign rfl) ?_
          refine wl_nil ?_
          refine sq_n ?_
          refine wc_ret ?_
          refine sq_ret ?_
          obtain rfl := Option.some.inj hx
          refine fin_ret [(.bool false)] ⟨rfl, trivial⟩ ?_
          replace hM := hM.t0
          have hM := hM.fewer rsN
          exact ⟨(), rfl, hM.gives⟩
        · replace hx := xif_f hc358 hx
          refine wc_skip ?_
          refine sq_n ?_
          refine wc_seq ?_
          refine wc_region ?_
          refine wv rfl (r_assign rfl) ?_
          refine wl_nil ?_
          refine sq_n ?_
          refine wc_seq ?_
          refine wc_region ?_
          refine wv rfl (r_move rfl) ?_
          refine wv rfl (r_move rfl) ?_
          replace hM := hM.p6
          obtain ⟨r363, h364, hx⟩ := bind_some' hx
          refine w_call rfl rfl (hM.callO (l := [oC (cSl 1 fY r267.1) s270.v]) fun X S oL hS hR hO => ct_laws_markByteS _ X S r267.1 s270 (1 : Int) hS  oL h364) ?_
          rintro _ w365 ⟨_, rfl, hM⟩
          replace hM : St ⟨w, X, S⟩ [oC (cSl 1 fY r363.2) s270.v, oC (cSl 1 fI r322.2.text) s254.v, oC (cSl 3 fDEntry r322.2.list) s255.v, oC (cSl 3 fDSeen r322.2.seen) s256.v, oC (cSl 1 fI r299.text) s302.v, oC (cSl 3 fDEntry r299.list) s303.v, oC (cSl 3 fDSeen r299.seen) s304.v, oBox b261 #[(.string r251.name), (.int .i64 r251.from_), s254.v, s255.v, s256.v] 53, oC (cSl 1 fY r240.1) s243.v, oC (cSl 1 fI r231.text) s234.v, oC (cSl 3 fDEntry r231.list) s235.v, oC (cSl 3 fDSeen r231.seen) s236.v, oBox b214 #[(.string aD.name), (.int .i64 aD.from_), s_aD_2.v, s_aD_3.v, s_aD_4.v] 46] [rV s_aD_4.v (cSl 3 fDSeen aD.seen), rV s_aD_3.v (cSl 3 fDEntry aD.list), rV s_aD_2.v (cSl 1 fI aD.text)] _ := hM
          refine wv rfl (r_assign rfl) ?_
          refine wl_nil ?_
          refine sq_n ?_
          refine wc_seq ?_
          refine wc_region ?_
          refine wv rfl (r_assign rfl) ?_
          refine wl_nil ?_
          refine sq_n ?_
          refine wc_seq ?_
          refine wc_region ?_
          refine wv rfl (r_move rfl) ?_
          refine wv rfl (r_move rfl) ?_
          obtain ⟨r370, h371, hx⟩ := bind_some' hx
          refine w_call rfl rfl (hM.callV fun X S oL hS hR hO => ct_laws_heldByteS _ X S r363.2 s270 (1 : Int) hS (seeA hO (.head _)) oL h371) ?_
          rintro _ w372 ⟨rfl, hR373⟩
          have hM := hM.call hR373
          refine wv rfl (r_assign rfl) ?_
          refine wl_nil ?_
          refine sq_n ?_
          refine wc_seq ?_
          refine wc_seq ?_
          refine wc_region ?_
          refine wv rfl (r_move rfl) ?_
          refine wv rfl (r_lss rfl rfl) ?_
          refine wl_nil ?_
          refine sq_n ?_
          refine wc_cond rfl (fun hc377 => ?_) (fun hc377 => ?_)
          · replace hx := xif_t hc377 hx
            refine wc_seq ?_
            refine wc_region ?_
            refine wv rfl (r_assign rfl) ?_
            refine wl_nil ?_
            refine sq_n ?_
            refine wc_ret ?_
            refine sq_ret ?_
            obtain rfl := Option.some.inj hx
            refine fin_ret [(.bool false)] ⟨rfl, trivial⟩ ?_
            replace hM := hM.t0
            have hM := hM.fewer rsN
            exact ⟨(), rfl, hM.gives⟩
          · replace hx := xif_f hc377 hx
            refine wc_skip ?_
            refine sq_n ?_
            refine wc_seq ?_
            refine wc_seq ?_
            refine wc_region ?_
            refine wv rfl (r_move rfl) ?_
            refine wv rfl (r_move rfl) ?_
            refine wv rfl (r_neq rfl rfl) ?_
            refine wl_nil ?_
            refine sq_n ?_
            refine wc_cond rfl (fun hc382 => ?_) (fun hc382 => ?_)
            · replace hx := xif_t hc382 hx
              refine wc_seq ?_
              refine wc_region ?_
              refine wv rfl (r_assign rfl) ?_
              refine wl_nil ?_
              refine sq_n ?_
              refine wc_ret ?_
              refine sq_ret ?_
              obtain rfl := Option.some.inj hx
              refine fin_ret [(.bool false)] ⟨rfl, trivial⟩ ?_
              replace hM := hM.t0
              have hM := hM.fewer rsN
              exact ⟨(), rfl, hM.gives⟩
            · replace hx := xif_f hc382 hx
              refine wc_skip ?_
              refine sq_n ?_
              refine wc_seq ?_
              refine wc_region ?_
              refine wv rfl (r_ldBS Try.underlying46 sz46 rfl (us := [(.string aD.name), (.int .i64 aD.from_), s_aD_2.v, s_aD_3.v, s_aD_4.v]) rfl hM (.tail _ (.tail _ (.tail _ (.tail _ (.tail _ (.tail _ (.tail _ (.tail _ (.tail _ (.tail _ (.tail _ (.tail _ (.head _))))))))))))) rfl) ?_
              obtain ⟨r385, h386, hx⟩ := bind_some' hx
              refine w_call rfl rfl (hM.callO (l := []) fun X S oL hS hR hO => ct_laws_toDoc _ X S aD s_aD_2 s_aD_3 s_aD_4 hS (hR _ (.tail _ (.tail _ (.head _)))) (hR _ (.tail _ (.head _))) (hR _ (.head _)) oL h386) ?_
              rintro _ w387 ⟨⟨s388, s389, s390⟩, rfl, hM⟩
              replace hM : St ⟨w, X, S⟩ [oC (cSl 1 fI r385.text) s388.v, oC (cSl 3 fDEntry r385.list) s389.v, oC (cSl 3 fDSeen r385.seen) s390.v, oC (cSl 1 fY r363.2) s270.v, oC (cSl 1 fI r322.2.text) s254.v, oC (cSl 3 fDEntry r322.2.list) s255.v, oC (cSl 3 fDSeen r322.2.seen) s256.v, oC (cSl 1 fI r299.text) s302.v, oC (cSl 3 fDEntry r299.list) s303.v, oC (cSl 3 fDSeen r299.seen) s304.v, oBox b261 #[(.string r251.name), (.int .i64 r251.from_), s254.v, s255.v, s256.v] 53, oC (cSl 1 fY r240.1) s243.v, oC (cSl 1 fI r231.text) s234.v, oC (cSl 3 fDEntry r231.list) s235.v, oC (cSl 3 fDSeen r231.seen) s236.v, oBox b214 #[(.string aD.name), (.int .i64 aD.from_), s_aD_2.v, s_aD_3.v, s_aD_4.v] 46] [rV s_aD_4.v (cSl 3 fDSeen aD.seen), rV s_aD_3.v (cSl 3 fDEntry aD.list), rV s_aD_2.v (cSl 1 fI aD.text)] _ := hM
              obtain ⟨r394, h395, hx⟩ := bind_some' hx
              refine w_call rfl rfl (hM.callO (l := []) fun X S oL hS hR hO => ct_impl_DocBytes _ X S r385 s388 s389 s390 hS (seeA hO (.head _)) (seeA hO (.tail _ (.head _))) (seeA hO (.tail _ (.tail _ (.head _)))) oL h395) ?_
              rintro _ w396 ⟨s397, rfl, hM⟩
              replace hM : St ⟨w, X, S⟩ [oC (cSl 1 fY r394.1) s397.v, oC (cSl 1 fI r385.text) s388.v, oC (cSl 3 fDEntry r385.list) s389.v, oC (cSl 3 fDSeen r385.seen) s390.v, oC (cSl 1 fY r363.2) s270.v, oC (cSl 1 fI r322.2.text) s254.v, oC (cSl 3 fDEntry r322.2.list) s255.v, oC (cSl 3 fDSeen r322.2.seen) s256.v, oC (cSl 1 fI r299.text) s302.v, oC (cSl 3 fDEntry r299.list) s303.v, oC (cSl 3 fDSeen r299.seen) s304.v, oBox b261 #[(.string r251.name), (.int .i64 r251.from_), s254.v, s255.v, s256.v] 53, oC (cSl 1 fY r240.1) s243.v, oC (cSl 1 fI r231.text) s234.v, oC (cSl 3 fDEntry r231.list) s235.v, oC (cSl 3 fDSeen r231.seen) s236.v, oBox b214 #[(.string aD.name), (.int .i64 aD.from_), s_aD_2.v, s_aD_3.v, s_aD_4.v] 46] [rV s_aD_4.v (cSl 3 fDSeen aD.seen), rV s_aD_3.v (cSl 3 fDEntry aD.list), rV s_aD_2.v (cSl 1 fI aD.text)] _ := hM
              refine wv rfl (r_move rfl) ?_
              refine wv rfl (r_extract rfl rfl) ?_
              refine wv rfl (r_extract rfl rfl) ?_
              refine wv rfl (r_assign rfl) ?_
              refine wv rfl (r_assign rfl) ?_
              refine wl_nil ?_
              refine sq_n ?_
              refine wc_seq ?_
              refine wc_seq ?_
              refine wc_region ?_
              refine wv rfl (r_move rfl) ?_
              refine wv rfl (r_move rfl) ?_
              obtain ⟨r406, h407, hx⟩ := bind_some' hx
              refine w_call rfl rfl (hM.callV fun X S oL hS hR hO => ct_laws_eqByteS _ X S r394.1 s397 r240.1 s243 hS (seeA hO (.head _)) (seeA hO (.tail _ (.tail _ (.tail _ (.tail _ (.tail _ (.tail _ (.tail _ (.tail _ (.tail _ (.tail _ (.tail _ (.tail _ (.head _)))))))))))))) oL h407) ?_
              rintro _ w408 ⟨rfl, hR409⟩
              have hM := hM.call hR409
              refine wv rfl (r_not rfl) ?_
              refine wv rfl (r_move rfl) ?_
              obtain ⟨c412, hx, hx417⟩ := bind_some' hx
              refine wl_mid 4 (fun _ : Unit => [(87, (.bool c412)), (7, s270.v), (10, (.int .i64 r363.1))]) (fun _ w' => St ⟨w, X, S⟩ [oC (cSl 1 fY r394.1) s397.v, oC (cSl 1 fI r385.text) s388.v, oC (cSl 3 fDEntry r385.list) s389.v, oC (cSl 3 fDSeen r385.seen) s390.v, oC (cSl 1 fY r363.2) s270.v, oC (cSl 1 fI r322.2.text) s254.v, oC (cSl 3 fDEntry r322.2.list) s255.v, oC (cSl 3 fDSeen r322.2.seen) s256.v, oC (cSl 1 fI r299.text) s302.v, oC (cSl 3 fDEntry r299.list) s303.v, oC (cSl 3 fDSeen r299.seen) s304.v, oBox b261 #[(.string r251.name), (.int .i64 r251.from_), s254.v, s255.v, s256.v] 53, oC (cSl 1 fY r240.1) s243.v, oC (cSl 1 fI r231.text) s234.v, oC (cSl 3 fDEntry r231.list) s235.v, oC (cSl 3 fDSeen r231.seen) s236.v, oBox b214 #[(.string aD.name), (.int .i64 aD.from_), s_aD_2.v, s_aD_3.v, s_aD_4.v] 46] [rV s_aD_4.v (cSl 3 fDSeen aD.seen), rV s_aD_3.v (cSl 3 fDEntry aD.list), rV s_aD_2.v (cSl 1 fI aD.text)] w') ?_ ?_
              · rcases Bool.eq_false_or_eq_true (!r406) with hg413 | hg413
                · replace hx := xif_t hg413 hx
                  refine gs rfl (isB_no hg413) rfl ?_
                  refine gs rfl (isB_no hg413) rfl ?_
                  refine gs rfl (isB_no hg413) rfl ?_
                  refine wv rfl (p_t rfl hg413 rfl) ?_
                  obtain rfl := Option.some.inj hx
                  exact mid_nil () ⟨rfl, rfl, rfl, trivial⟩ hM
                · replace hx := xif_f hg413 hx
                  refine gv rfl hg413 rfl (r_move rfl) ?_
                  refine gv rfl hg413 rfl (r_move rfl) ?_
                  refine gv rfl hg413 rfl (r_neqb Try.underlying4 rfl rfl) ?_
                  refine wv rfl (p_f rfl hg413 rfl) ?_
                  obtain rfl := Option.some.inj hx
                  exact mid_nil () ⟨rfl, rfl, rfl, trivial⟩ hM
              rintro _ w421 hM
              replace hx := hx417
              refine wl_nil ?_
              refine sq_n ?_
              refine wc_cond rfl (fun hc422 => ?_) (fun hc422 => ?_)
              · replace hx := xif_t hc422 hx
                refine wc_seq ?_
                refine wc_region ?_
                refine wv rfl (r_assign rfl) ?_
                refine wl_nil ?_
                refine sq_n ?_
                refine wc_ret ?_
                refine sq_ret ?_
                obtain rfl := Option.some.inj hx
                refine fin_ret [(.bool false)] ⟨rfl, trivial⟩ ?_
                replace hM := hM.t0
                have hM := hM.fewer rsN
                exact ⟨(), rfl, hM.gives⟩
              · replace hx := xif_f hc422 hx
                refine wc_skip ?_
                refine sq_n ?_
                refine wc_seq ?_
                refine wc_region ?_
                refine wv rfl (r_assign rfl) ?_
                refine wl_nil ?_
                refine sq_n ?_
                refine wc_seq ?_
                refine wc_region ?_
                refine wv rfl (r_move rfl) ?_
                refine wv rfl (r_move rfl) ?_
                obtain ⟨r427, h428, hx⟩ := bind_some' hx
                refine w_call rfl rfl (hM.callV fun X S oL hS hR hO => ct_laws_heldByteS _ X S r363.2 s270 (1 : Int) hS (seeA hO (.tail _ (.tail _ (.tail _ (.tail _ (.head _)))))) oL h428) ?_
                rintro _ w429 ⟨rfl, hR430⟩
                have hM := hM.call hR430
                refine wv rfl (r_assign rfl) ?_
                refine wl_nil ?_
                refine sq_n ?_
                refine wc_seq ?_
                refine wc_seq ?_
                refine wc_region ?_
                refine wv rfl (r_move rfl) ?_
                refine wv rfl (r_lss rfl rfl) ?_
                refine wl_nil ?_
                refine sq_n ?_
                refine wc_cond rfl (fun hc434 => ?_) (fun hc434 => ?_)
                · replace hx := xif_t hc434 hx
                  refine wc_seq ?_
                  refine wc_region ?_
                  refine wv rfl (r_assign rfl) ?_
                  refine wl_nil ?_
                  refine sq_n ?_
                  refine wc_ret ?_
                  refine sq_ret ?_
                  obtain rfl := Option.some.inj hx
                  refine fin_ret [(.bool false)] ⟨rfl, trivial⟩ ?_
                  replace hM := hM.t0
                  have hM := hM.fewer rsN
                  exact ⟨(), rfl, hM.gives⟩
                · replace hx := xif_f hc434 hx
                  refine wc_skip ?_
                  refine sq_n ?_
                  refine wc_seq ?_
                  refine wc_seq ?_
                  refine wc_region ?_
                  refine wv rfl (r_move rfl) ?_
                  refine wv rfl (r_move rfl) ?_
                  refine wv rfl (r_neq rfl rfl) ?_
                  refine wl_nil ?_
                  refine sq_n ?_
                  refine wc_cond rfl (fun hc439 => ?_) (fun hc439 => ?_)
                  · replace hx := xif_t hc439 hx
                    refine wc_seq ?_
                    refine wc_region ?_
                    refine wv rfl (r_assign rfl) ?_
                    refine wl_nil ?_
                    refine sq_n ?_
                    refine wc_ret ?_
                    refine sq_ret ?_
                    obtain rfl := Option.some.inj hx
                    refine fin_ret [(.bool false)] ⟨rfl, trivial⟩ ?_
                    replace hM := hM.t0
                    have hM := hM.fewer rsN
                    exact ⟨(), rfl, hM.gives⟩
                  · replace hx := xif_f hc439 hx
                    refine wc_skip ?_
                    refine sq_n ?_
                    refine wc_seq ?_
                    refine wc_region ?_
                    refine wv rfl (r_assign rfl) ?_
                    refine wl_nil ?_
                    refine sq_n ?_
                    refine wc_ret ?_
                    obtain rfl := Option.some.inj hx
                    refine fin_ret [(.bool true)] ⟨rfl, trivial⟩ ?_
                    replace hM := hM.t0
                    have hM := hM.fewer rsN
                    exact ⟨(), rfl, hM.gives⟩

end Go.Proofs.Ytbapjbanejimiaa
