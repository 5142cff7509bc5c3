/- Walks of functions of this program (printed by a program of ours, by the rules of the layer). No condition. -/
import Derived.Test.YtnpfbhejekpmaaaGP
import Derived.Test.YtnpfbhejekpmaaaNr
namespace Go.Proofs.Ytnpfbhejekpmaaa
open Go.RowKit

noncomputable def x_laws_szIntS (a : List Int) (left : Int) : Option Int :=
  xg (inI (left - (a.length : Int))) <| bif decide ((left - (a.length : Int)) < 0) then (some (-1)) else (some (left - (a.length : Int)))
theorem ct_laws_szIntS (w : World) (X S : Bs) (a : List Int) (s_a : Sv) (left : Int) (hS : ∀ b, S b → b < w.heap.size ∧ ¬ X b) (a_a_0 : (cSl 1 fI a).rd S w s_a.v) (oL : Sep [] X w) {r : Int} (hx : x_laws_szIntS a left = some r) :
    Ret Try.prog 109 [s_a.v, (.int .i64 left)] w (fun u w' => ∃ _ : Unit, u = (.int .i64 r) ∧ Gives X S w [] [] w') := by
  unfold x_laws_szIntS at hx
  refine enter Try.func109 rfl Try.ntmps109 (by kernel_rfl) rfl ?_
  have hM := St.enter oL hS
  have hM := hM.addE (r := rV s_a.v (cSl 1 fI a)) a_a_0
  refine wc_seq ?_
  refine wc_region ?_
  refine wv rfl (r_assign rfl) ?_
  refine wl_nil ?_
  refine sq_n ?_
  refine wc_seq ?_
  refine wc_region ?_
  refine wv rfl (r_move rfl) ?_
  refine wv rfl (r_move rfl) ?_
  refine wv rfl (r_lenC Try.underlying24 rfl (hM.seeR (.head _))) ?_
  obtain ⟨hg18, hx⟩ := xg_some hx
  refine wv rfl (r_sub rfl rfl hg18) ?_
  refine wv rfl (r_assign rfl) ?_
  refine wl_nil ?_
  refine sq_n ?_
  refine wc_seq ?_
  refine wc_seq ?_
  refine wc_region ?_
  refine wv rfl (r_move rfl) ?_
  refine wv rfl (r_lss rfl rfl) ?_
  refine wl_nil ?_
  refine sq_n ?_
  refine wc_cond rfl (fun hc22 => ?_) (fun hc22 => ?_)
  · replace hx := xif_t hc22 hx
    refine wc_seq ?_
    refine wc_region ?_
    refine wv rfl (r_assign rfl) ?_
    refine wl_nil ?_
    refine sq_n ?_
    refine wc_ret ?_
    refine sq_ret ?_
    obtain rfl := Option.some.inj hx
    refine fin_ret [(.int .i64 (-1))] ⟨rfl, trivial⟩ ?_
    replace hM := hM.t0
    have hM := hM.fewer rsN
    exact ⟨(), rfl, hM.gives⟩
  · replace hx := xif_f hc22 hx
    refine wc_skip ?_
    refine sq_n ?_
    refine wc_seq ?_
    refine wc_region ?_
    refine wv rfl (r_move rfl) ?_
    refine wv rfl (r_assign rfl) ?_
    refine wl_nil ?_
    refine sq_n ?_
    refine wc_ret ?_
    obtain rfl := Option.some.inj hx
    refine fin_ret [(.int .i64 (left - (a.length : Int)))] ⟨rfl, trivial⟩ ?_
    replace hM := hM.t0
    have hM := hM.fewer rsN
    exact ⟨(), rfl, hM.gives⟩

noncomputable def x_laws_szPart (a : DPart) (left : Int) : Option Int :=
  Option.bind (x_laws_szIntS a.signs left) fun r9 => bif decide (r9 < 0) then (some (-1)) else (some r9)
theorem ct_laws_szPart (w : World) (X S : Bs) (a : DPart) (s_a_2 : Sv) (left : Int) (hS : ∀ b, S b → b < w.heap.size ∧ ¬ X b) (a_a_2 : (cSl 1 fI a.signs).rd S w s_a_2.v) (oL : Sep [] X w) {r : Int} (hx : x_laws_szPart a left = some r) :
    Ret Try.prog 58 [(.agg #[(.int .i64 a.kind), (.int .i64 a.n), s_a_2.v]), (.int .i64 left)] w (fun u w' => ∃ _ : Unit, u = (.int .i64 r) ∧ Gives X S w [] [] w') := by
  unfold x_laws_szPart at hx
  refine enter Try.func58 rfl Try.ntmps58 (by kernel_rfl) rfl ?_
  have hM := St.enter oL hS
  have hM := hM.addE (r := rV s_a_2.v (cSl 1 fI a.signs)) a_a_2
  refine wc_seq ?_
  refine wc_region ?_
  refine w_ex rfl (x_box rfl hM ?_); intro b20 w19 hR21 hM
  replace hM : St ⟨w, X, S⟩ [oBox b20 #[(.int .i64 a.kind), (.int .i64 a.n), s_a_2.v] 75] [rV s_a_2.v (cSl 1 fI a.signs)] _ := hM
  refine wv rfl (r_assign rfl) ?_
  refine wl_nil ?_
  refine sq_n ?_
  refine wc_seq ?_
  refine wc_region ?_
  refine wv rfl (r_fld Try.underlying75 rfl rfl sz24 rfl) ?_
  refine wv rfl (r_ldB Try.underlying24 rfl rfl hM (.head _) rfl) ?_
  refine wv rfl (r_move rfl) ?_
  obtain ⟨r27, h28, hx⟩ := bind_some' hx
  refine w_call rfl rfl (hM.callV fun X S oL hS hR hO => ct_laws_szIntS _ X S a.signs s_a_2 left hS (hR _ (.head _)) oL h28) ?_
  rintro _ w29 ⟨rfl, hR30⟩
  have hM := hM.call hR30
  refine wv rfl (r_assign rfl) ?_
  refine wl_nil ?_
  refine sq_n ?_
  refine wc_seq ?_
  refine wc_seq ?_
  refine wc_region ?_
  refine wv rfl (r_move rfl) ?_
  refine wv rfl (r_lss rfl rfl) ?_
  refine wl_nil ?_
  refine sq_n ?_
  refine wc_cond rfl (fun hc34 => ?_) (fun hc34 => ?_)
  · replace hx := xif_t hc34 hx
    refine wc_seq ?_
    refine wc_region ?_
    refine wv rfl (r_assign rfl) ?_
    refine wl_nil ?_
    refine sq_n ?_
    refine wc_ret ?_
    refine sq_ret ?_
    obtain rfl := Option.some.inj hx
    refine fin_ret [(.int .i64 (-1))] ⟨rfl, trivial⟩ ?_
    replace hM := hM.t0
    have hM := hM.fewer rsN
    exact ⟨(), rfl, hM.gives⟩
  · replace hx := xif_f hc34 hx
    refine wc_skip ?_
    refine sq_n ?_
    refine wc_seq ?_
    refine wc_region ?_
    refine wv rfl (r_move rfl) ?_
    refine wv rfl (r_assign rfl) ?_
    refine wl_nil ?_
    refine sq_n ?_
    refine wc_ret ?_
    obtain rfl := Option.some.inj hx
    refine fin_ret [(.int .i64 r27)] ⟨rfl, trivial⟩ ?_
    replace hM := hM.t0
    have hM := hM.fewer rsN
    exact ⟨(), rfl, hM.gives⟩

noncomputable def x_laws_szPartS_b0 (a : List DPart) (left12 : Int) (i13 : Int) : Option (Lr (Int × Int) (Sum Int Int)) :=
  bif decide (i13 < (a.length : Int)) then (xg (0 ≤ i13 ∧ i13 < (a.length : Int)) <| Option.bind (x_laws_szPart (el a i13.toNat) left12) fun r52 => bif decide (r52 < 0) then (some (Lr.out (Sum.inr (-1)))) else (xg (inI (i13 + 1)) <| some (Lr.go (r52, i13 + 1)))) else (some (Lr.out (Sum.inl left12)))
noncomputable def x_laws_szPartS_f0 (a : List DPart) (s64 : Int × Int) : Option (Lr (Int × Int) (Sum Int Int)) := x_laws_szPartS_b0 a s64.1 s64.2
noncomputable def x_laws_szPartS (a : List DPart) (left : Int) : Option Int :=
  xg (inI (left - (a.length : Int))) <| bif decide ((left - (a.length : Int)) < 0) then (some (-1)) else (Option.bind (iter (x_laws_szPartS_f0 a) (left - (a.length : Int), 0)) fun (y65 : Sum Int Int) => Sum.elim (fun y66 => some y66) (fun y67 => some y67) y65)
theorem ct_laws_szPartS (w : World) (X S : Bs) (a : List DPart) (s_a : Sv) (left : Int) (hS : ∀ b, S b → b < w.heap.size ∧ ¬ X b) (a_a_0 : (cSl 3 fDPart a).rd S w s_a.v) (oL : Sep [] X w) {r : Int} (hx : x_laws_szPartS a left = some r) :
    Ret Try.prog 15 [s_a.v, (.int .i64 left)] w (fun u w' => ∃ _ : Unit, u = (.int .i64 r) ∧ Gives X S w [] [] w') := by
  unfold x_laws_szPartS at hx
  refine enter Try.func15 rfl Try.ntmps15 (by kernel_rfl) rfl ?_
  have hM := St.enter oL hS
  have hM := hM.addE (r := rV s_a.v (cSl 3 fDPart a)) a_a_0
  refine wc_seq ?_
  refine wc_region ?_
  refine wv rfl (r_assign rfl) ?_
  refine wl_nil ?_
  refine sq_n ?_
  refine wc_seq ?_
  refine wc_region ?_
  refine wv rfl (r_move rfl) ?_
  refine wv rfl (r_move rfl) ?_
  refine wv rfl (r_lenC Try.underlying22 rfl (hM.seeR (.head _))) ?_
  obtain ⟨hg75, hx⟩ := xg_some hx
  refine wv rfl (r_sub rfl rfl hg75) ?_
  refine wv rfl (r_assign rfl) ?_
  refine wl_nil ?_
  refine sq_n ?_
  refine wc_seq ?_
  refine wc_seq ?_
  refine wc_region ?_
  refine wv rfl (r_move rfl) ?_
  refine wv rfl (r_lss rfl rfl) ?_
  refine wl_nil ?_
  refine sq_n ?_
  refine wc_cond rfl (fun hc79 => ?_) (fun hc79 => ?_)
  · replace hx := xif_t hc79 hx
    refine wc_seq ?_
    refine wc_region ?_
    refine wv rfl (r_assign rfl) ?_
    refine wl_nil ?_
    refine sq_n ?_
    refine wc_ret ?_
    refine sq_ret ?_
    obtain rfl := Option.some.inj hx
    refine fin_ret [(.int .i64 (-1))] ⟨rfl, trivial⟩ ?_
    replace hM := hM.t0
    have hM := hM.fewer rsN
    exact ⟨(), rfl, hM.gives⟩
  · replace hx := xif_f hc79 hx
    refine wc_skip ?_
    refine sq_n ?_
    refine wc_seq ?_
    refine wc_seq ?_
    refine wc_region ?_
    refine wv rfl (r_assign rfl) ?_
    refine wl_nil ?_
    refine sq_n ?_
    refine wc_block ?_
    obtain ⟨y82, hx, hx83⟩ := bind_some' hx
    obtain ⟨m88, hx⟩ := iter_run hx
    refine wc_loop (un fun (m86 : Nat) => un fun (left84 : Int) => fun (i85 : Int) => [(0, s_a.v), (1, (.int .i64 left84)), (5, (.int .i64 i85))]) (un fun (m86 : Nat) => un fun (left84 : Int) => fun (i85 : Int) w' => St ⟨w, X, S⟩ [] [rV s_a.v (cSl 3 fDPart a)] w' ∧ iterN _ m86 (left84, i85) = some y82) (fun p => p.1) (m88, left - (a.length : Int), 0) ⟨rfl, rfl, rfl, trivial⟩ ⟨hM, hx⟩ ?_
    rintro ⟨m86, left84, i85⟩ w89 ⟨hM, hx⟩
    obtain ⟨m90, z91, rfl, hx, hx92⟩ := iterN_step hx
    unfold x_laws_szPartS_f0 x_laws_szPartS_b0 at hx
    try dsimp only at hx
    refine wc_seq ?_
    refine wc_seq ?_
    refine wc_region ?_
    refine wv rfl (r_move rfl) ?_
    refine wv rfl (r_move rfl) ?_
    refine wv rfl (r_lenC Try.underlying22 rfl (hM.seeR (.head _))) ?_
    refine wv rfl (r_lss rfl rfl) ?_
    refine wl_nil ?_
    refine sq_n ?_
    refine wc_cond rfl (fun hc97 => ?_) (fun hc97 => ?_)
    · replace hx := xif_t hc97 hx
      refine wc_skip ?_
      refine sq_n ?_
      refine wc_seq ?_
      refine wc_block ?_
      refine wc_seq ?_
      refine wc_region ?_
      refine wv rfl (r_move rfl) ?_
      refine wv rfl (r_move rfl) ?_
      obtain ⟨hg102, hx⟩ := xg_some hx
      have hi101 : i85.toNat < a.length := by omega
      refine wv rfl (r_ixC Try.underlying22 sz75 rfl rfl (hM.seeR (.head _)) hg102) ?_
      obtain ⟨s104, hM, hc105⟩ := hM.leaf (i := i85.toNat) (j := 2) (.head _) (fun _ => rfl) hi101 rfl
      refine wv rfl (r_ldC (o := i85.toNat * 3) Try.underlying75 sz75 rfl (us := [(.int .i64 ((el a i85.toNat).kind)), (.int .i64 ((el a i85.toNat).n)), s104.v]) rfl (hM.seeR (.tail _ (.head _))) hi101 ⟨(Cs.get (i := i85.toNat) (j := 0) (hM.seeR (.tail _ (.head _))) (fun _ => rfl) hi101 rfl), (Cs.get (i := i85.toNat) (j := 1) (hM.seeR (.tail _ (.head _))) (fun _ => rfl) hi101 rfl), (hc105 _ (Rel.refl _)), trivial⟩) ?_
      refine wv rfl (r_move rfl) ?_
      obtain ⟨r107, h108, hx⟩ := bind_some' hx
      refine w_call rfl rfl (hM.callV fun X S oL hS hR hO => ct_laws_szPart _ X S (el a i85.toNat) s104 left84 hS (hR _ (.head _)) oL h108) ?_
      rintro _ w109 ⟨rfl, hR110⟩
      have hM := hM.call hR110
      refine wv rfl (r_assign rfl) ?_
      refine wl_nil ?_
      refine sq_n ?_
      refine wc_seq ?_
      refine wc_region ?_
      refine wv rfl (r_move rfl) ?_
      refine wv rfl (r_lss rfl rfl) ?_
      refine wl_nil ?_
      refine sq_n ?_
      refine wc_cond rfl (fun hc114 => ?_) (fun hc114 => ?_)
      · replace hx := xif_t hc114 hx
        refine wc_seq ?_
        refine wc_region ?_
        refine wv rfl (r_assign rfl) ?_
        refine wl_nil ?_
        refine sq_n ?_
        refine wc_ret ?_
        refine bk_ret ?_
        refine sq_ret ?_
        refine lp1_ret ?_
        obtain rfl := Option.some.inj hx
        obtain rfl := Option.some.inj hx92
        replace hx := hx83
        try dsimp only [Sum.elim_inl, Sum.elim_inr] at hx
        refine bk_ret ?_
        refine sq_ret ?_
        obtain rfl := Option.some.inj hx
        refine fin_ret [(.int .i64 (-1))] ⟨rfl, trivial⟩ ?_
        replace hM := hM.t0
        have hM := hM.fewer rsN
        exact ⟨(), rfl, hM.gives⟩
      · replace hx := xif_f hc114 hx
        refine wc_skip ?_
        refine bk_n ?_
        refine sq_n ?_
        refine wc_region ?_
        refine wv rfl (r_move rfl) ?_
        obtain ⟨hg118, hx⟩ := xg_some hx
        refine wv rfl (r_add rfl rfl hg118) ?_
        refine wv rfl (r_assign rfl) ?_
        refine wl_nil ?_
        obtain rfl := Option.some.inj hx
        have hM := hM.fewer (rsC (.tail _ (.head _)) rsN)
        replace hM : St ⟨w, X, S⟩ [] [rV s_a.v (cSl 3 fDPart a)] _ := hM
        exact lp_end (m90, r107, i85 + 1) (Nat.lt_succ_self _) ⟨rfl, rfl, rfl, trivial⟩ ⟨hM, hx92⟩
    · replace hx := xif_f hc97 hx
      refine wc_exit ?_
      refine sq_exit ?_
      refine lp1_exit ?_
      obtain rfl := Option.some.inj hx
      obtain rfl := Option.some.inj hx92
      replace hx := hx83
      try dsimp only [Sum.elim_inl, Sum.elim_inr] at hx
      refine bk_here ?_
      refine sq_n ?_
      refine wc_seq ?_
      refine wc_region ?_
      refine wv rfl (r_move rfl) ?_
      refine wv rfl (r_assign rfl) ?_
      refine wl_nil ?_
      refine sq_n ?_
      refine wc_ret ?_
      obtain rfl := Option.some.inj hx
      refine fin_ret [(.int .i64 left84)] ⟨rfl, trivial⟩ ?_
      replace hM := hM.t0
      have hM := hM.fewer rsN
      exact ⟨(), rfl, hM.gives⟩

noncomputable def x_laws_szPartSS_b0 (a : List (List DPart)) (left12 : Int) (i13 : Int) : Option (Lr (Int × Int) (Sum Int Int)) :=
  bif decide (i13 < (a.length : Int)) then (xg (0 ≤ i13 ∧ i13 < (a.length : Int)) <| Option.bind (x_laws_szPartS (el a i13.toNat) left12) fun r52 => bif decide (r52 < 0) then (some (Lr.out (Sum.inr (-1)))) else (xg (inI (i13 + 1)) <| some (Lr.go (r52, i13 + 1)))) else (some (Lr.out (Sum.inl left12)))
noncomputable def x_laws_szPartSS_f0 (a : List (List DPart)) (s64 : Int × Int) : Option (Lr (Int × Int) (Sum Int Int)) := x_laws_szPartSS_b0 a s64.1 s64.2
noncomputable def x_laws_szPartSS (a : List (List DPart)) (left : Int) : Option Int :=
  xg (inI (left - (a.length : Int))) <| bif decide ((left - (a.length : Int)) < 0) then (some (-1)) else (Option.bind (iter (x_laws_szPartSS_f0 a) (left - (a.length : Int), 0)) fun (y65 : Sum Int Int) => Sum.elim (fun y66 => some y66) (fun y67 => some y67) y65)
theorem ct_laws_szPartSS (w : World) (X S : Bs) (a : List (List DPart)) (s_a : Sv) (left : Int) (hS : ∀ b, S b → b < w.heap.size ∧ ¬ X b) (a_a_0 : (cSl 1 fLDPart a).rd S w s_a.v) (oL : Sep [] X w) {r : Int} (hx : x_laws_szPartSS a left = some r) :
    Ret Try.prog 81 [s_a.v, (.int .i64 left)] w (fun u w' => ∃ _ : Unit, u = (.int .i64 r) ∧ Gives X S w [] [] w') := by
  unfold x_laws_szPartSS at hx
  refine enter Try.func81 rfl Try.ntmps81 (by kernel_rfl) rfl ?_
  have hM := St.enter oL hS
  have hM := hM.addE (r := rV s_a.v (cSl 1 fLDPart a)) a_a_0
  refine wc_seq ?_
  refine wc_region ?_
  refine wv rfl (r_assign rfl) ?_
  refine wl_nil ?_
  refine sq_n ?_
  refine wc_seq ?_
  refine wc_region ?_
  refine wv rfl (r_move rfl) ?_
  refine wv rfl (r_move rfl) ?_
  refine wv rfl (r_lenC Try.underlying41 rfl (hM.seeR (.head _))) ?_
  obtain ⟨hg75, hx⟩ := xg_some hx
  refine wv rfl (r_sub rfl rfl hg75) ?_
  refine wv rfl (r_assign rfl) ?_
  refine wl_nil ?_
  refine sq_n ?_
  refine wc_seq ?_
  refine wc_seq ?_
  refine wc_region ?_
  refine wv rfl (r_move rfl) ?_
  refine wv rfl (r_lss rfl rfl) ?_
  refine wl_nil ?_
  refine sq_n ?_
  refine wc_cond rfl (fun hc79 => ?_) (fun hc79 => ?_)
  · replace hx := xif_t hc79 hx
    refine wc_seq ?_
    refine wc_region ?_
    refine wv rfl (r_assign rfl) ?_
    refine wl_nil ?_
    refine sq_n ?_
    refine wc_ret ?_
    refine sq_ret ?_
    obtain rfl := Option.some.inj hx
    refine fin_ret [(.int .i64 (-1))] ⟨rfl, trivial⟩ ?_
    replace hM := hM.t0
    have hM := hM.fewer rsN
    exact ⟨(), rfl, hM.gives⟩
  · replace hx := xif_f hc79 hx
    refine wc_skip ?_
    refine sq_n ?_
    refine wc_seq ?_
    refine wc_seq ?_
    refine wc_region ?_
    refine wv rfl (r_assign rfl) ?_
    refine wl_nil ?_
    refine sq_n ?_
    refine wc_block ?_
    obtain ⟨y82, hx, hx83⟩ := bind_some' hx
    obtain ⟨m88, hx⟩ := iter_run hx
    refine wc_loop (un fun (m86 : Nat) => un fun (left84 : Int) => fun (i85 : Int) => [(0, s_a.v), (1, (.int .i64 left84)), (5, (.int .i64 i85))]) (un fun (m86 : Nat) => un fun (left84 : Int) => fun (i85 : Int) w' => St ⟨w, X, S⟩ [] [rV s_a.v (cSl 1 fLDPart a)] w' ∧ iterN _ m86 (left84, i85) = some y82) (fun p => p.1) (m88, left - (a.length : Int), 0) ⟨rfl, rfl, rfl, trivial⟩ ⟨hM, hx⟩ ?_
    rintro ⟨m86, left84, i85⟩ w89 ⟨hM, hx⟩
    obtain ⟨m90, z91, rfl, hx, hx92⟩ := iterN_step hx
    unfold x_laws_szPartSS_f0 x_laws_szPartSS_b0 at hx
    try dsimp only at hx
    refine wc_seq ?_
    refine wc_seq ?_
    refine wc_region ?_
    refine wv rfl (r_move rfl) ?_
    refine wv rfl (r_move rfl) ?_
    refine wv rfl (r_lenC Try.underlying41 rfl (hM.seeR (.head _))) ?_
    refine wv rfl (r_lss rfl rfl) ?_
    refine wl_nil ?_
    refine sq_n ?_
    refine wc_cond rfl (fun hc97 => ?_) (fun hc97 => ?_)
    · replace hx := xif_t hc97 hx
      refine wc_skip ?_
      refine sq_n ?_
      refine wc_seq ?_
      refine wc_block ?_
      refine wc_seq ?_
      refine wc_region ?_
      refine wv rfl (r_move rfl) ?_
      refine wv rfl (r_move rfl) ?_
      obtain ⟨hg102, hx⟩ := xg_some hx
      have hi101 : i85.toNat < a.length := by omega
      refine wv rfl (r_ixC Try.underlying41 sz22 rfl rfl (hM.seeR (.head _)) hg102) ?_
      obtain ⟨s104, hM, hc105⟩ := hM.leaf (i := i85.toNat) (j := 0) (.head _) (fun _ => rfl) hi101 rfl
      refine wv rfl (r_ld Try.underlying22 rfl rfl (hc105 _ (Rel.refl _))) ?_
      refine wv rfl (r_move rfl) ?_
      obtain ⟨r107, h108, hx⟩ := bind_some' hx
      refine w_call rfl rfl (hM.callV fun X S oL hS hR hO => ct_laws_szPartS _ X S (el a i85.toNat) s104 left84 hS (hR _ (.head _)) oL h108) ?_
      rintro _ w109 ⟨rfl, hR110⟩
      have hM := hM.call hR110
      refine wv rfl (r_assign rfl) ?_
      refine wl_nil ?_
      refine sq_n ?_
      refine wc_seq ?_
      refine wc_region ?_
      refine wv rfl (r_move rfl) ?_
      refine wv rfl (r_lss rfl rfl) ?_
      refine wl_nil ?_
      refine sq_n ?_
      refine wc_cond rfl (fun hc114 => ?_) (fun hc114 => ?_)
      · replace hx := xif_t hc114 hx
        refine wc_seq ?_
        refine wc_region ?_
        refine wv rfl (r_assign rfl) ?_
        refine wl_nil ?_
        refine sq_n ?_
        refine wc_ret ?_
        refine bk_ret ?_
        refine sq_ret ?_
        refine lp1_ret ?_
        obtain rfl := Option.some.inj hx
        obtain rfl := Option.some.inj hx92
        replace hx := hx83
        try dsimp only [Sum.elim_inl, Sum.elim_inr] at hx
        refine bk_ret ?_
        refine sq_ret ?_
        obtain rfl := Option.some.inj hx
        refine fin_ret [(.int .i64 (-1))] ⟨rfl, trivial⟩ ?_
        replace hM := hM.t0
        have hM := hM.fewer rsN
        exact ⟨(), rfl, hM.gives⟩
      · replace hx := xif_f hc114 hx
        refine wc_skip ?_
        refine bk_n ?_
        refine sq_n ?_
        refine wc_region ?_
        refine wv rfl (r_move rfl) ?_
        obtain ⟨hg118, hx⟩ := xg_some hx
        refine wv rfl (r_add rfl rfl hg118) ?_
        refine wv rfl (r_assign rfl) ?_
        refine wl_nil ?_
        obtain rfl := Option.some.inj hx
        have hM := hM.fewer (rsC (.tail _ (.head _)) rsN)
        replace hM : St ⟨w, X, S⟩ [] [rV s_a.v (cSl 1 fLDPart a)] _ := hM
        exact lp_end (m90, r107, i85 + 1) (Nat.lt_succ_self _) ⟨rfl, rfl, rfl, trivial⟩ ⟨hM, hx92⟩
    · replace hx := xif_f hc97 hx
      refine wc_exit ?_
      refine sq_exit ?_
      refine lp1_exit ?_
      obtain rfl := Option.some.inj hx
      obtain rfl := Option.some.inj hx92
      replace hx := hx83
      try dsimp only [Sum.elim_inl, Sum.elim_inr] at hx
      refine bk_here ?_
      refine sq_n ?_
      refine wc_seq ?_
      refine wc_region ?_
      refine wv rfl (r_move rfl) ?_
      refine wv rfl (r_assign rfl) ?_
      refine wl_nil ?_
      refine sq_n ?_
      refine wc_ret ?_
      obtain rfl := Option.some.inj hx
      refine fin_ret [(.int .i64 left84)] ⟨rfl, trivial⟩ ?_
      replace hM := hM.t0
      have hM := hM.fewer rsN
      exact ⟨(), rfl, hM.gives⟩

noncomputable def x_laws_szStory (a : DStory) (left : Int) : Option Int :=
  Option.bind (x_laws_szPartSS a.undo left) fun r9 => bif decide (r9 < 0) then (some (-1)) else (Option.bind (x_laws_szPartSS a.redo r9) fun r20 => bif decide (r20 < 0) then (some (-1)) else (some r20))
theorem ct_laws_szStory (w : World) (X S : Bs) (a : DStory) (s_a_1 : Sv) (s_a_2 : Sv) (left : Int) (hS : ∀ b, S b → b < w.heap.size ∧ ¬ X b) (a_a_1 : (cSl 1 fLDPart a.undo).rd S w s_a_1.v) (a_a_2 : (cSl 1 fLDPart a.redo).rd S w s_a_2.v) (oL : Sep [] X w) {r : Int} (hx : x_laws_szStory a left = some r) :
    Ret Try.prog 34 [(.agg #[(.int .i64 a.n), s_a_1.v, s_a_2.v]), (.int .i64 left)] w (fun u w' => ∃ _ : Unit, u = (.int .i64 r) ∧ Gives X S w [] [] w') := by
  unfold x_laws_szStory at hx
  refine enter Try.func34 rfl Try.ntmps34 (by kernel_rfl) rfl ?_
  have hM := St.enter oL hS
  have hM := hM.addE (r := rV s_a_1.v (cSl 1 fLDPart a.undo)) a_a_1
  have hM := hM.addE (r := rV s_a_2.v (cSl 1 fLDPart a.redo)) a_a_2
  refine wc_seq ?_
  refine wc_region ?_
  refine w_ex rfl (x_box rfl hM ?_); intro b31 w30 hR32 hM
  replace hM : St ⟨w, X, S⟩ [oBox b31 #[(.int .i64 a.n), s_a_1.v, s_a_2.v] 43] [rV s_a_2.v (cSl 1 fLDPart a.redo), rV s_a_1.v (cSl 1 fLDPart a.undo)] _ := hM
  refine wv rfl (r_assign rfl) ?_
  refine wl_nil ?_
  refine sq_n ?_
  refine wc_seq ?_
  refine wc_region ?_
  refine wv rfl (r_fld Try.underlying43 rfl rfl sz41 rfl) ?_
  refine wv rfl (r_ldB Try.underlying41 rfl rfl hM (.head _) rfl) ?_
  refine wv rfl (r_move rfl) ?_
  obtain ⟨r38, h39, hx⟩ := bind_some' hx
  refine w_call rfl rfl (hM.callV fun X S oL hS hR hO => ct_laws_szPartSS _ X S a.undo s_a_1 left hS (hR _ (.tail _ (.head _))) oL h39) ?_
  rintro _ w40 ⟨rfl, hR41⟩
  have hM := hM.call hR41
  refine wv rfl (r_assign rfl) ?_
  refine wl_nil ?_
  refine sq_n ?_
  refine wc_seq ?_
  refine wc_seq ?_
  refine wc_region ?_
  refine wv rfl (r_move rfl) ?_
  refine wv rfl (r_lss rfl rfl) ?_
  refine wl_nil ?_
  refine sq_n ?_
  refine wc_cond rfl (fun hc45 => ?_) (fun hc45 => ?_)
  · replace hx := xif_t hc45 hx
    refine wc_seq ?_
    refine wc_region ?_
    refine wv rfl (r_assign rfl) ?_
    refine wl_nil ?_
    refine sq_n ?_
    refine wc_ret ?_
    refine sq_ret ?_
    obtain rfl := Option.some.inj hx
    refine fin_ret [(.int .i64 (-1))] ⟨rfl, trivial⟩ ?_
    replace hM := hM.t0
    have hM := hM.fewer rsN
    exact ⟨(), rfl, hM.gives⟩
  · replace hx := xif_f hc45 hx
    refine wc_skip ?_
    refine sq_n ?_
    refine wc_seq ?_
    refine wc_region ?_
    refine wv rfl (r_fld Try.underlying43 rfl rfl sz41 rfl) ?_
    refine wv rfl (r_ldB Try.underlying41 rfl rfl hM (.head _) rfl) ?_
    refine wv rfl (r_move rfl) ?_
    obtain ⟨r50, h51, hx⟩ := bind_some' hx
    refine w_call rfl rfl (hM.callV fun X S oL hS hR hO => ct_laws_szPartSS _ X S a.redo s_a_2 r38 hS (hR _ (.head _)) oL h51) ?_
    rintro _ w52 ⟨rfl, hR53⟩
    have hM := hM.call hR53
    refine wv rfl (r_assign rfl) ?_
    refine wl_nil ?_
    refine sq_n ?_
    refine wc_seq ?_
    refine wc_seq ?_
    refine wc_region ?_
    refine wv rfl (r_move rfl) ?_
    refine wv rfl (r_lss rfl rfl) ?_
    refine wl_nil ?_
    refine sq_n ?_
    refine wc_cond rfl (fun hc57 => ?_) (fun hc57 => ?_)
    · replace hx := xif_t hc57 hx
      refine wc_seq ?_
      refine wc_region ?_
      refine wv rfl (r_assign rfl) ?_
      refine wl_nil ?_
      refine sq_n ?_
      refine wc_ret ?_
      refine sq_ret ?_
      obtain rfl := Option.some.inj hx
      refine fin_ret [(.int .i64 (-1))] ⟨rfl, trivial⟩ ?_
      replace hM := hM.t0
      have hM := hM.fewer rsN
      exact ⟨(), rfl, hM.gives⟩
    · replace hx := xif_f hc57 hx
      refine wc_skip ?_
      refine sq_n ?_
      refine wc_seq ?_
      refine wc_region ?_
      refine wv rfl (r_move rfl) ?_
      refine wv rfl (r_assign rfl) ?_
      refine wl_nil ?_
      refine sq_n ?_
      refine wc_ret ?_
      obtain rfl := Option.some.inj hx
      refine fin_ret [(.int .i64 r50)] ⟨rfl, trivial⟩ ?_
      replace hM := hM.t0
      have hM := hM.fewer rsN
      exact ⟨(), rfl, hM.gives⟩

noncomputable def x_laws_toIntS_b0 (a : List Int) (i34 : Int) (l35 : List Int) : Option (Lr (Int × List Int) (List Int)) :=
  bif decide (i34 < (a.length : Int)) then (xg (0 ≤ i34 ∧ i34 < (a.length : Int)) <| xg (0 ≤ i34 ∧ i34 < (l35.length : Int)) <| xg (inI (i34 + 1)) <| some (Lr.go (i34 + 1, l35.set i34.toNat (el a i34.toNat)))) else (some (Lr.out l35))
noncomputable def x_laws_toIntS_f0 (a : List Int) (s79 : Int × List Int) : Option (Lr (Int × List Int) (List Int)) := x_laws_toIntS_b0 a s79.1 s79.2
noncomputable def x_laws_toIntS (a : List Int) : Option (List Int) :=
  xg (0 ≤ (a.length : Int) ∧ (a.length : Int) ≤ 1099511627776) <| Option.bind (iter (x_laws_toIntS_f0 a) (0, List.replicate ((a.length : Int).toNat) 0)) fun (y80 : List Int) => some y80
theorem ct_laws_toIntS (w : World) (X S : Bs) (a : List Int) (s_a : Sv) (hS : ∀ b, S b → b < w.heap.size ∧ ¬ X b) (a_a_0 : (cSl 1 fI a).rd S w s_a.v) (oL : Sep [] X w) {r : List Int} (hx : x_laws_toIntS a = some r) :
    Ret Try.prog 29 [s_a.v] w (fun u w' => ∃ y : Sv, u = y.v ∧ Gives X S w [oC (cSl 1 fI r) y.v] [] w') := by
  unfold x_laws_toIntS at hx
  refine enter Try.func29 rfl Try.ntmps29 (by kernel_rfl) rfl ?_
  have hM := St.enter oL hS
  have hM := hM.addE (r := rV s_a.v (cSl 1 fI a)) a_a_0
  refine wc_seq ?_
  refine wc_region ?_
  refine wv rfl (r_assign rfl) ?_
  refine wl_nil ?_
  refine sq_n ?_
  refine wc_seq ?_
  refine wc_region ?_
  refine wv rfl (r_move rfl) ?_
  refine wv rfl (r_lenC Try.underlying24 rfl (hM.seeR (.head _))) ?_
  obtain ⟨hg89, hx⟩ := xg_some hx
  have hk90 : (a.length : Int) = ((a.length : Int).toNat : Int) := by omega
  refine w_ex rfl (x_make (f := fI) (k := ((a.length : Int).toNat)) 0 Try.underlying24 sz3 (fun _ => rfl) (fun _ => zP (pV _ rfl) zN) (by rw [← hk90]; rfl) (by omega) rfl hM ?_); intro s88 w87 hR91 hM
  refine wv rfl (r_assign rfl) ?_
  refine wl_nil ?_
  refine sq_n ?_
  refine wc_seq ?_
  refine wc_seq ?_
  refine wc_region ?_
  refine wv rfl (r_assign rfl) ?_
  refine wl_nil ?_
  refine sq_n ?_
  refine wc_block ?_
  obtain ⟨y95, hx, hx96⟩ := bind_some' hx
  obtain ⟨m101, hx⟩ := iter_run hx
  refine wc_loop (un fun (m99 : Nat) => un fun (i97 : Int) => fun (l98 : List Int) => [(0, s_a.v), (3, s88.v), (4, (.int .i64 i97))]) (un fun (m99 : Nat) => un fun (i97 : Int) => fun (l98 : List Int) w' => St ⟨w, X, S⟩ [oC (cSl 1 fI l98) s88.v] [rV s_a.v (cSl 1 fI a)] w' ∧ iterN _ m99 (i97, l98) = some y95) (fun p => p.1) (m101, 0, List.replicate ((a.length : Int).toNat) 0) ⟨rfl, rfl, rfl, trivial⟩ ⟨hM, hx⟩ ?_
  rintro ⟨m99, i97, l98⟩ w102 ⟨hM, hx⟩
  obtain ⟨m103, z104, rfl, hx, hx105⟩ := iterN_step hx
  unfold x_laws_toIntS_f0 x_laws_toIntS_b0 at hx
  try dsimp only at hx
  refine wc_seq ?_
  refine wc_seq ?_
  refine wc_region ?_
  refine wv rfl (r_move rfl) ?_
  refine wv rfl (r_move rfl) ?_
  refine wv rfl (r_lenC Try.underlying24 rfl (hM.seeR (.head _))) ?_
  refine wv rfl (r_lss rfl rfl) ?_
  refine wl_nil ?_
  refine sq_n ?_
  refine wc_cond rfl (fun hc110 => ?_) (fun hc110 => ?_)
  · replace hx := xif_t hc110 hx
    refine wc_skip ?_
    refine sq_n ?_
    refine wc_seq ?_
    refine wc_block ?_
    refine wc_region ?_
    refine wv rfl (r_move rfl) ?_
    refine wv rfl (r_move rfl) ?_
    refine wv rfl (r_move rfl) ?_
    refine wv rfl (r_move rfl) ?_
    obtain ⟨hg117, hx⟩ := xg_some hx
    have hi116 : i97.toNat < a.length := by omega
    refine wv rfl (r_ixC Try.underlying24 sz3 rfl rfl (hM.seeR (.head _)) hg117) ?_
    refine wv rfl (r_ld Try.underlying3 rfl rfl (Cs.get (i := i97.toNat) (j := 0) (hM.seeR (.head _)) (fun _ => rfl) hi116 rfl)) ?_
    obtain ⟨hg121, hx⟩ := xg_some hx
    have hi120 : i97.toNat < l98.length := by omega
    refine wv rfl (r_ixC Try.underlying24 sz3 rfl rfl (hM.seeO (.head _)) hg121) ?_
    refine w_exu (x_stE (f := fI) (k := 1) (L := l98) (i := i97.toNat) (j := 0) (el a i97.toNat) [cI (el a i97.toNat)] sz3 (fun _ => rfl) rfl rfl hi120 rfl rfl rfl rfl rfl (fun _ => zP (pV _ rfl) zN) hM ?_); intro w122 hM
    refine wl_nil ?_
    refine bk_n ?_
    refine sq_n ?_
    refine wc_region ?_
    refine wv rfl (r_move rfl) ?_
    obtain ⟨hg126, hx⟩ := xg_some hx
    refine wv rfl (r_add rfl rfl hg126) ?_
    refine wv rfl (r_assign rfl) ?_
    refine wl_nil ?_
    obtain rfl := Option.some.inj hx
    exact lp_end (m103, i97 + 1, l98.set i97.toNat (el a i97.toNat)) (Nat.lt_succ_self _) ⟨rfl, rfl, rfl, trivial⟩ ⟨hM, hx105⟩
  · replace hx := xif_f hc110 hx
    refine wc_exit ?_
    refine sq_exit ?_
    refine lp1_exit ?_
    obtain rfl := Option.some.inj hx
    obtain rfl := Option.some.inj hx105
    replace hx := hx96
    try dsimp only [Sum.elim_inl, Sum.elim_inr] at hx
    refine bk_here ?_
    refine sq_n ?_
    refine wc_seq ?_
    refine wc_region ?_
    refine wv rfl (r_move rfl) ?_
    refine wv rfl (r_assign rfl) ?_
    refine wl_nil ?_
    refine sq_n ?_
    refine wc_ret ?_
    obtain rfl := Option.some.inj hx
    refine fin_ret [s88.v] ⟨rfl, trivial⟩ ?_
    replace hM := hM.t1
    have hM := hM.fewer rsN
    exact ⟨s88, rfl, hM.gives⟩

noncomputable def x_laws_toPart (a : DPart) : Option DPart :=
  Option.bind (x_laws_toIntS a.signs) fun r25 => some (⟨a.kind, a.n, r25⟩ : DPart)
theorem ct_laws_toPart (w : World) (X S : Bs) (a : DPart) (s_a_2 : Sv) (hS : ∀ b, S b → b < w.heap.size ∧ ¬ X b) (a_a_2 : (cSl 1 fI a.signs).rd S w s_a_2.v) (oL : Sep [] X w) {r : DPart} (hx : x_laws_toPart a = some r) :
    Ret Try.prog 62 [(.agg #[(.int .i64 a.kind), (.int .i64 a.n), s_a_2.v])] w (fun u w' => ∃ y : Sv, u = .agg #[(.int .i64 r.kind), (.int .i64 r.n), y.v] ∧ Gives X S w [oC (cSl 1 fI r.signs) y.v] [] w') := by
  unfold x_laws_toPart at hx
  refine enter Try.func62 rfl Try.ntmps62 (by kernel_rfl) rfl ?_
  have hM := St.enter oL hS
  have hM := hM.addE (r := rV s_a_2.v (cSl 1 fI a.signs)) a_a_2
  refine wc_seq ?_
  refine wc_region ?_
  refine w_ex rfl (x_box rfl hM ?_); intro b37 w36 hR38 hM
  replace hM : St ⟨w, X, S⟩ [oBox b37 #[(.int .i64 a.kind), (.int .i64 a.n), s_a_2.v] 75] [rV s_a_2.v (cSl 1 fI a.signs)] _ := hM
  refine w_ex rfl (x_alloc sz79 hM ?_); intro b41 w40 hR42 hM
  replace hM : St ⟨w, X, S⟩ [oBox b41 #[(.int .i64 0), (.int .i64 0), (.slice none 0 0)] 79, oBox b37 #[(.int .i64 a.kind), (.int .i64 a.n), s_a_2.v] 75] [rV s_a_2.v (cSl 1 fI a.signs)] _ := hM
  refine wl_nil ?_
  refine sq_n ?_
  refine wc_seq ?_
  refine wc_region ?_
  refine w_ex rfl (x_alloc sz79 hM ?_); intro b45 w44 hR46 hM
  replace hM : St ⟨w, X, S⟩ [oBox b45 #[(.int .i64 0), (.int .i64 0), (.slice none 0 0)] 79, oBox b41 #[(.int .i64 0), (.int .i64 0), (.slice none 0 0)] 79, oBox b37 #[(.int .i64 a.kind), (.int .i64 a.n), s_a_2.v] 75] [rV s_a_2.v (cSl 1 fI a.signs)] _ := hM
  refine wl_nil ?_
  refine sq_n ?_
  refine wc_seq ?_
  refine wc_region ?_
  refine wv rfl (r_fld Try.underlying75 rfl rfl sz3 rfl) ?_
  refine wv rfl (r_ldB Try.underlying3 rfl rfl hM (.tail _ (.tail _ (.head _))) rfl) ?_
  refine wv rfl (r_fld Try.underlying79 rfl rfl sz3 rfl) ?_
  refine w_exu (x_stB #[(.int .i64 a.kind), (.int .i64 0), (.slice none 0 0)] sz3 rfl rfl rfl rfl rfl rfl hM ?_); intro w51 hM
  refine wl_nil ?_
  refine sq_n ?_
  refine wc_seq ?_
  refine wc_region ?_
  refine wv rfl (r_fld Try.underlying75 rfl rfl sz3 rfl) ?_
  refine wv rfl (r_ldB Try.underlying3 rfl rfl hM (.tail _ (.tail _ (.head _))) rfl) ?_
  refine wv rfl (r_fld Try.underlying79 rfl rfl sz3 rfl) ?_
  refine w_exu (x_stB #[(.int .i64 a.kind), (.int .i64 a.n), (.slice none 0 0)] sz3 rfl rfl rfl rfl rfl rfl hM ?_); intro w56 hM
  refine wl_nil ?_
  refine sq_n ?_
  refine wc_seq ?_
  refine wc_region ?_
  refine wv rfl (r_fld Try.underlying75 rfl rfl sz24 rfl) ?_
  refine wv rfl (r_ldB Try.underlying24 rfl rfl hM (.tail _ (.tail _ (.head _))) rfl) ?_
  obtain ⟨r60, h61, hx⟩ := bind_some' hx
  refine w_call rfl rfl (hM.callO (l := []) fun X S oL hS hR hO => ct_laws_toIntS _ X S a.signs s_a_2 hS (hR _ (.head _)) oL h61) ?_
  rintro _ w62 ⟨s63, rfl, hM⟩
  replace hM : St ⟨w, X, S⟩ [oC (cSl 1 fI r60) s63.v, oBox b45 #[(.int .i64 a.kind), (.int .i64 a.n), (.slice none 0 0)] 79, oBox b41 #[(.int .i64 0), (.int .i64 0), (.slice none 0 0)] 79, oBox b37 #[(.int .i64 a.kind), (.int .i64 a.n), s_a_2.v] 75] [rV s_a_2.v (cSl 1 fI a.signs)] _ := hM
  refine wv rfl (r_fld Try.underlying79 rfl rfl sz24 rfl) ?_
  replace hM := hM.p1
  refine w_exu (x_stB #[(.int .i64 a.kind), (.int .i64 a.n), s63.v] sz24 rfl rfl rfl rfl rfl rfl hM ?_); intro w66 hM
  refine wl_nil ?_
  refine sq_n ?_
  refine wc_seq ?_
  refine wc_region ?_
  refine wv rfl (r_ldBS Try.underlying79 sz79 rfl (us := [(.int .i64 a.kind), (.int .i64 a.n), s63.v]) rfl hM (.head _) rfl) ?_
  replace hM := hM.p2
  refine w_exu (x_stB #[(.int .i64 a.kind), (.int .i64 a.n), s63.v] sz79 rfl rfl rfl rfl rfl rfl hM ?_); intro w69 hM
  refine wl_nil ?_
  refine sq_n ?_
  refine wc_ret ?_
  obtain rfl := Option.some.inj hx
  refine fin_ret [(.agg #[(.int .i64 a.kind), (.int .i64 a.n), s63.v])] ⟨rv_box Try.underlying79 sz79 rfl rfl hM (.head _), trivial⟩ ?_
  replace hM := hM.p2
  replace hM := hM.t1
  have hM := hM.fewer rsN
  exact ⟨s63, rfl, hM.gives⟩

noncomputable def x_laws_toPartS_b0 (a : List DPart) (i41 : Int) (l42 : List DPart) : Option (Lr (Int × List DPart) (List DPart)) :=
  bif decide (i41 < (a.length : Int)) then (xg (0 ≤ i41 ∧ i41 < (a.length : Int)) <| Option.bind (x_laws_toPart (el a i41.toNat)) fun r86 => xg (0 ≤ i41 ∧ i41 < (l42.length : Int)) <| xg (inI (i41 + 1)) <| some (Lr.go (i41 + 1, l42.set i41.toNat r86))) else (some (Lr.out l42))
noncomputable def x_laws_toPartS_f0 (a : List DPart) (s100 : Int × List DPart) : Option (Lr (Int × List DPart) (List DPart)) := x_laws_toPartS_b0 a s100.1 s100.2
noncomputable def x_laws_toPartS (a : List DPart) : Option (List DPart) :=
  xg (0 ≤ (a.length : Int) ∧ (a.length : Int) ≤ 1099511627776) <| Option.bind (iter (x_laws_toPartS_f0 a) (0, List.replicate ((a.length : Int).toNat) (default : DPart))) fun (y101 : List DPart) => some y101
theorem ct_laws_toPartS (w : World) (X S : Bs) (a : List DPart) (s_a : Sv) (hS : ∀ b, S b → b < w.heap.size ∧ ¬ X b) (a_a_0 : (cSl 3 fDPart a).rd S w s_a.v) (oL : Sep [] X w) {r : List DPart} (hx : x_laws_toPartS a = some r) :
    Ret Try.prog 17 [s_a.v] w (fun u w' => ∃ y : Sv, u = y.v ∧ Gives X S w [oC (cSl 3 fDPart r) y.v] [] w') := by
  unfold x_laws_toPartS at hx
  refine enter Try.func17 rfl Try.ntmps17 (by kernel_rfl) rfl ?_
  have hM := St.enter oL hS
  have hM := hM.addE (r := rV s_a.v (cSl 3 fDPart a)) a_a_0
  refine wc_seq ?_
  refine wc_region ?_
  refine wv rfl (r_assign rfl) ?_
  refine wl_nil ?_
  refine sq_n ?_
  refine wc_seq ?_
  refine wc_region ?_
  refine wv rfl (r_move rfl) ?_
  refine wv rfl (r_lenC Try.underlying22 rfl (hM.seeR (.head _))) ?_
  obtain ⟨hg110, hx⟩ := xg_some hx
  have hk111 : (a.length : Int) = ((a.length : Int).toNat : Int) := by omega
  refine w_ex rfl (x_make (f := fDPart) (k := ((a.length : Int).toNat)) (default : DPart) Try.underlying26 sz79 (fun _ => rfl) (fun _ => zP (pV _ rfl) (zP (pV _ rfl) (zP (pN _ _) zN))) (by rw [← hk111]; rfl) (by omega) rfl hM ?_); intro s109 w108 hR112 hM
  refine wv rfl (r_assign rfl) ?_
  refine wl_nil ?_
  refine sq_n ?_
  refine wc_seq ?_
  refine wc_seq ?_
  refine wc_region ?_
  refine wv rfl (r_assign rfl) ?_
  refine wl_nil ?_
  refine sq_n ?_
  refine wc_block ?_
  obtain ⟨y116, hx, hx117⟩ := bind_some' hx
  obtain ⟨m122, hx⟩ := iter_run hx
  refine wc_loop (un fun (m120 : Nat) => un fun (i118 : Int) => fun (l119 : List DPart) => [(0, s_a.v), (3, s109.v), (4, (.int .i64 i118))]) (un fun (m120 : Nat) => un fun (i118 : Int) => fun (l119 : List DPart) w' => St ⟨w, X, S⟩ [oC (cSl 3 fDPart l119) s109.v] [rV s_a.v (cSl 3 fDPart a)] w' ∧ iterN _ m120 (i118, l119) = some y116) (fun p => p.1) (m122, 0, List.replicate ((a.length : Int).toNat) (default : DPart)) ⟨rfl, rfl, rfl, trivial⟩ ⟨hM, hx⟩ ?_
  rintro ⟨m120, i118, l119⟩ w123 ⟨hM, hx⟩
  obtain ⟨m124, z125, rfl, hx, hx126⟩ := iterN_step hx
  unfold x_laws_toPartS_f0 x_laws_toPartS_b0 at hx
  try dsimp only at hx
  refine wc_seq ?_
  refine wc_seq ?_
  refine wc_region ?_
  refine wv rfl (r_move rfl) ?_
  refine wv rfl (r_move rfl) ?_
  refine wv rfl (r_lenC Try.underlying22 rfl (hM.seeR (.head _))) ?_
  refine wv rfl (r_lss rfl rfl) ?_
  refine wl_nil ?_
  refine sq_n ?_
  refine wc_cond rfl (fun hc131 => ?_) (fun hc131 => ?_)
  · replace hx := xif_t hc131 hx
    refine wc_skip ?_
    refine sq_n ?_
    refine wc_seq ?_
    refine wc_block ?_
    refine wc_region ?_
    refine wv rfl (r_move rfl) ?_
    refine wv rfl (r_move rfl) ?_
    refine wv rfl (r_move rfl) ?_
    refine wv rfl (r_move rfl) ?_
    obtain ⟨hg138, hx⟩ := xg_some hx
    have hi137 : i118.toNat < a.length := by omega
    refine wv rfl (r_ixC Try.underlying22 sz75 rfl rfl (hM.seeR (.head _)) hg138) ?_
    obtain ⟨s140, hM, hc141⟩ := hM.leaf (i := i118.toNat) (j := 2) (.head _) (fun _ => rfl) hi137 rfl
    refine wv rfl (r_ldC (o := i118.toNat * 3) Try.underlying75 sz75 rfl (us := [(.int .i64 ((el a i118.toNat).kind)), (.int .i64 ((el a i118.toNat).n)), s140.v]) rfl (hM.seeR (.tail _ (.head _))) hi137 ⟨(Cs.get (i := i118.toNat) (j := 0) (hM.seeR (.tail _ (.head _))) (fun _ => rfl) hi137 rfl), (Cs.get (i := i118.toNat) (j := 1) (hM.seeR (.tail _ (.head _))) (fun _ => rfl) hi137 rfl), (hc141 _ (Rel.refl _)), trivial⟩) ?_
    obtain ⟨r142, h143, hx⟩ := bind_some' hx
    refine w_call rfl rfl (hM.callO (l := []) fun X S oL hS hR hO => ct_laws_toPart _ X S (el a i118.toNat) s140 hS (hR _ (.head _)) oL h143) ?_
    rintro _ w144 ⟨s145, rfl, hM⟩
    replace hM : St ⟨w, X, S⟩ [oC (cSl 1 fI r142.signs) s145.v, oC (cSl 3 fDPart l119) s109.v] [rV s140.v (cSl 1 fI ((el a i118.toNat).signs)), rV s_a.v (cSl 3 fDPart a)] _ := hM
    obtain ⟨hg149, hx⟩ := xg_some hx
    have hi148 : i118.toNat < l119.length := by omega
    refine wv rfl (r_ixC Try.underlying26 sz79 rfl rfl (hM.seeO (.tail _ (.head _))) hg149) ?_
    replace hM := hM.p1
    refine w_exu (x_stE (f := fDPart) (k := 3) (L := l119) (i := i118.toNat) (j := 0) r142 [cI r142.kind, cI r142.n, cSl 1 fI r142.signs] sz79 (fun _ => rfl) rfl rfl hi148 rfl rfl rfl rfl rfl (fun _ => zP (pV _ rfl) (zP (pV _ rfl) (zO zN))) hM ?_); intro w150 hM
    refine wl_nil ?_
    refine bk_n ?_
    refine sq_n ?_
    refine wc_region ?_
    refine wv rfl (r_move rfl) ?_
    obtain ⟨hg154, hx⟩ := xg_some hx
    refine wv rfl (r_add rfl rfl hg154) ?_
    refine wv rfl (r_assign rfl) ?_
    refine wl_nil ?_
    obtain rfl := Option.some.inj hx
    have hM := hM.fewer (rsC (.tail _ (.head _)) rsN)
    replace hM : St ⟨w, X, S⟩ [oC (cSl 3 fDPart (l119.set i118.toNat r142)) s109.v] [rV s_a.v (cSl 3 fDPart a)] _ := hM
    exact lp_end (m124, i118 + 1, l119.set i118.toNat r142) (Nat.lt_succ_self _) ⟨rfl, rfl, rfl, trivial⟩ ⟨hM, hx126⟩
  · replace hx := xif_f hc131 hx
    refine wc_exit ?_
    refine sq_exit ?_
    refine lp1_exit ?_
    obtain rfl := Option.some.inj hx
    obtain rfl := Option.some.inj hx126
    replace hx := hx117
    try dsimp only [Sum.elim_inl, Sum.elim_inr] at hx
    refine bk_here ?_
    refine sq_n ?_
    refine wc_seq ?_
    refine wc_region ?_
    refine wv rfl (r_move rfl) ?_
    refine wv rfl (r_assign rfl) ?_
    refine wl_nil ?_
    refine sq_n ?_
    refine wc_ret ?_
    obtain rfl := Option.some.inj hx
    refine fin_ret [s109.v] ⟨rfl, trivial⟩ ?_
    replace hM := hM.t1
    have hM := hM.fewer rsN
    exact ⟨s109, rfl, hM.gives⟩

noncomputable def x_laws_toPartSS_b0 (a : List (List DPart)) (i41 : Int) (l42 : List (List DPart)) : Option (Lr (Int × List (List DPart)) (List (List DPart))) :=
  bif decide (i41 < (a.length : Int)) then (xg (0 ≤ i41 ∧ i41 < (a.length : Int)) <| Option.bind (x_laws_toPartS (el a i41.toNat)) fun r86 => xg (0 ≤ i41 ∧ i41 < (l42.length : Int)) <| xg (inI (i41 + 1)) <| some (Lr.go (i41 + 1, l42.set i41.toNat r86))) else (some (Lr.out l42))
noncomputable def x_laws_toPartSS_f0 (a : List (List DPart)) (s100 : Int × List (List DPart)) : Option (Lr (Int × List (List DPart)) (List (List DPart))) := x_laws_toPartSS_b0 a s100.1 s100.2
noncomputable def x_laws_toPartSS (a : List (List DPart)) : Option (List (List DPart)) :=
  xg (0 ≤ (a.length : Int) ∧ (a.length : Int) ≤ 1099511627776) <| Option.bind (iter (x_laws_toPartSS_f0 a) (0, List.replicate ((a.length : Int).toNat) ([] : List DPart))) fun (y101 : List (List DPart)) => some y101
theorem ct_laws_toPartSS (w : World) (X S : Bs) (a : List (List DPart)) (s_a : Sv) (hS : ∀ b, S b → b < w.heap.size ∧ ¬ X b) (a_a_0 : (cSl 1 fLDPart a).rd S w s_a.v) (oL : Sep [] X w) {r : List (List DPart)} (hx : x_laws_toPartSS a = some r) :
    Ret Try.prog 83 [s_a.v] w (fun u w' => ∃ y : Sv, u = y.v ∧ Gives X S w [oC (cSl 1 fLDPart r) y.v] [] w') := by
  unfold x_laws_toPartSS at hx
  refine enter Try.func83 rfl Try.ntmps83 (by kernel_rfl) rfl ?_
  have hM := St.enter oL hS
  have hM := hM.addE (r := rV s_a.v (cSl 1 fLDPart a)) a_a_0
  refine wc_seq ?_
  refine wc_region ?_
  refine wv rfl (r_assign rfl) ?_
  refine wl_nil ?_
  refine sq_n ?_
  refine wc_seq ?_
  refine wc_region ?_
  refine wv rfl (r_move rfl) ?_
  refine wv rfl (r_lenC Try.underlying41 rfl (hM.seeR (.head _))) ?_
  obtain ⟨hg110, hx⟩ := xg_some hx
  have hk111 : (a.length : Int) = ((a.length : Int).toNat : Int) := by omega
  refine w_ex rfl (x_make (f := fLDPart) (k := ((a.length : Int).toNat)) ([] : List DPart) Try.underlying46 sz26 (fun _ => rfl) (fun _ => zP (pN _ _) zN) (by rw [← hk111]; rfl) (by omega) rfl hM ?_); intro s109 w108 hR112 hM
  refine wv rfl (r_assign rfl) ?_
  refine wl_nil ?_
  refine sq_n ?_
  refine wc_seq ?_
  refine wc_seq ?_
  refine wc_region ?_
  refine wv rfl (r_assign rfl) ?_
  refine wl_nil ?_
  refine sq_n ?_
  refine wc_block ?_
  obtain ⟨y116, hx, hx117⟩ := bind_some' hx
  obtain ⟨m122, hx⟩ := iter_run hx
  refine wc_loop (un fun (m120 : Nat) => un fun (i118 : Int) => fun (l119 : List (List DPart)) => [(0, s_a.v), (3, s109.v), (4, (.int .i64 i118))]) (un fun (m120 : Nat) => un fun (i118 : Int) => fun (l119 : List (List DPart)) w' => St ⟨w, X, S⟩ [oC (cSl 1 fLDPart l119) s109.v] [rV s_a.v (cSl 1 fLDPart a)] w' ∧ iterN _ m120 (i118, l119) = some y116) (fun p => p.1) (m122, 0, List.replicate ((a.length : Int).toNat) ([] : List DPart)) ⟨rfl, rfl, rfl, trivial⟩ ⟨hM, hx⟩ ?_
  rintro ⟨m120, i118, l119⟩ w123 ⟨hM, hx⟩
  obtain ⟨m124, z125, rfl, hx, hx126⟩ := iterN_step hx
  unfold x_laws_toPartSS_f0 x_laws_toPartSS_b0 at hx
  try dsimp only at hx
  refine wc_seq ?_
  refine wc_seq ?_
  refine wc_region ?_
  refine wv rfl (r_move rfl) ?_
  refine wv rfl (r_move rfl) ?_
  refine wv rfl (r_lenC Try.underlying41 rfl (hM.seeR (.head _))) ?_
  refine wv rfl (r_lss rfl rfl) ?_
  refine wl_nil ?_
  refine sq_n ?_
  refine wc_cond rfl (fun hc131 => ?_) (fun hc131 => ?_)
  · replace hx := xif_t hc131 hx
    refine wc_skip ?_
    refine sq_n ?_
    refine wc_seq ?_
    refine wc_block ?_
    refine wc_region ?_
    refine wv rfl (r_move rfl) ?_
    refine wv rfl (r_move rfl) ?_
    refine wv rfl (r_move rfl) ?_
    refine wv rfl (r_move rfl) ?_
    obtain ⟨hg138, hx⟩ := xg_some hx
    have hi137 : i118.toNat < a.length := by omega
    refine wv rfl (r_ixC Try.underlying41 sz22 rfl rfl (hM.seeR (.head _)) hg138) ?_
    obtain ⟨s140, hM, hc141⟩ := hM.leaf (i := i118.toNat) (j := 0) (.head _) (fun _ => rfl) hi137 rfl
    refine wv rfl (r_ld Try.underlying22 rfl rfl (hc141 _ (Rel.refl _))) ?_
    obtain ⟨r142, h143, hx⟩ := bind_some' hx
    refine w_call rfl rfl (hM.callO (l := []) fun X S oL hS hR hO => ct_laws_toPartS _ X S (el a i118.toNat) s140 hS (hR _ (.head _)) oL h143) ?_
    rintro _ w144 ⟨s145, rfl, hM⟩
    replace hM : St ⟨w, X, S⟩ [oC (cSl 3 fDPart r142) s145.v, oC (cSl 1 fLDPart l119) s109.v] [rV s140.v (cSl 3 fDPart (el a i118.toNat)), rV s_a.v (cSl 1 fLDPart a)] _ := hM
    obtain ⟨hg149, hx⟩ := xg_some hx
    have hi148 : i118.toNat < l119.length := by omega
    refine wv rfl (r_ixC Try.underlying46 sz26 rfl rfl (hM.seeO (.tail _ (.head _))) hg149) ?_
    replace hM := hM.p1
    refine w_exu (x_stE (f := fLDPart) (k := 1) (L := l119) (i := i118.toNat) (j := 0) r142 [cSl 3 fDPart r142] sz26 (fun _ => rfl) rfl rfl hi148 rfl rfl rfl rfl rfl (fun _ => zO zN) hM ?_); intro w150 hM
    refine wl_nil ?_
    refine bk_n ?_
    refine sq_n ?_
    refine wc_region ?_
    refine wv rfl (r_move rfl) ?_
    obtain ⟨hg154, hx⟩ := xg_some hx
    refine wv rfl (r_add rfl rfl hg154) ?_
    refine wv rfl (r_assign rfl) ?_
    refine wl_nil ?_
    obtain rfl := Option.some.inj hx
    have hM := hM.fewer (rsC (.tail _ (.head _)) rsN)
    replace hM : St ⟨w, X, S⟩ [oC (cSl 1 fLDPart (l119.set i118.toNat r142)) s109.v] [rV s_a.v (cSl 1 fLDPart a)] _ := hM
    exact lp_end (m124, i118 + 1, l119.set i118.toNat r142) (Nat.lt_succ_self _) ⟨rfl, rfl, rfl, trivial⟩ ⟨hM, hx126⟩
  · replace hx := xif_f hc131 hx
    refine wc_exit ?_
    refine sq_exit ?_
    refine lp1_exit ?_
    obtain rfl := Option.some.inj hx
    obtain rfl := Option.some.inj hx126
    replace hx := hx117
    try dsimp only [Sum.elim_inl, Sum.elim_inr] at hx
    refine bk_here ?_
    refine sq_n ?_
    refine wc_seq ?_
    refine wc_region ?_
    refine wv rfl (r_move rfl) ?_
    refine wv rfl (r_assign rfl) ?_
    refine wl_nil ?_
    refine sq_n ?_
    refine wc_ret ?_
    obtain rfl := Option.some.inj hx
    refine fin_ret [s109.v] ⟨rfl, trivial⟩ ?_
    replace hM := hM.t1
    have hM := hM.fewer rsN
    exact ⟨s109, rfl, hM.gives⟩

noncomputable def x_laws_toStory (a : DStory) : Option DStory :=
  Option.bind (x_laws_toPartSS a.undo) fun r20 => Option.bind (x_laws_toPartSS a.redo) fun r30 => some (⟨a.n, r20, r30⟩ : DStory)
theorem ct_laws_toStory (w : World) (X S : Bs) (a : DStory) (s_a_1 : Sv) (s_a_2 : Sv) (hS : ∀ b, S b → b < w.heap.size ∧ ¬ X b) (a_a_1 : (cSl 1 fLDPart a.undo).rd S w s_a_1.v) (a_a_2 : (cSl 1 fLDPart a.redo).rd S w s_a_2.v) (oL : Sep [] X w) {r : DStory} (hx : x_laws_toStory a = some r) :
    Ret Try.prog 36 [(.agg #[(.int .i64 a.n), s_a_1.v, s_a_2.v])] w (fun u w' => ∃ y : Sv × Sv, u = .agg #[(.int .i64 r.n), y.1.v, y.2.v] ∧ Gives X S w [oC (cSl 1 fLDPart r.undo) y.1.v, oC (cSl 1 fLDPart r.redo) y.2.v] [] w') := by
  unfold x_laws_toStory at hx
  refine enter Try.func36 rfl Try.ntmps36 (by kernel_rfl) rfl ?_
  have hM := St.enter oL hS
  have hM := hM.addE (r := rV s_a_1.v (cSl 1 fLDPart a.undo)) a_a_1
  have hM := hM.addE (r := rV s_a_2.v (cSl 1 fLDPart a.redo)) a_a_2
  refine wc_seq ?_
  refine wc_region ?_
  refine w_ex rfl (x_box rfl hM ?_); intro b42 w41 hR43 hM
  replace hM : St ⟨w, X, S⟩ [oBox b42 #[(.int .i64 a.n), s_a_1.v, s_a_2.v] 43] [rV s_a_2.v (cSl 1 fLDPart a.redo), rV s_a_1.v (cSl 1 fLDPart a.undo)] _ := hM
  refine w_ex rfl (x_alloc sz48 hM ?_); intro b46 w45 hR47 hM
  replace hM : St ⟨w, X, S⟩ [oBox b46 #[(.int .i64 0), (.slice none 0 0), (.slice none 0 0)] 48, oBox b42 #[(.int .i64 a.n), s_a_1.v, s_a_2.v] 43] [rV s_a_2.v (cSl 1 fLDPart a.redo), rV s_a_1.v (cSl 1 fLDPart a.undo)] _ := hM
  refine wl_nil ?_
  refine sq_n ?_
  refine wc_seq ?_
  refine wc_region ?_
  refine w_ex rfl (x_alloc sz48 hM ?_); intro b50 w49 hR51 hM
  replace hM : St ⟨w, X, S⟩ [oBox b50 #[(.int .i64 0), (.slice none 0 0), (.slice none 0 0)] 48, oBox b46 #[(.int .i64 0), (.slice none 0 0), (.slice none 0 0)] 48, oBox b42 #[(.int .i64 a.n), s_a_1.v, s_a_2.v] 43] [rV s_a_2.v (cSl 1 fLDPart a.redo), rV s_a_1.v (cSl 1 fLDPart a.undo)] _ := hM
  refine wl_nil ?_
  refine sq_n ?_
  refine wc_seq ?_
  refine wc_region ?_
  refine wv rfl (r_fld Try.underlying43 rfl rfl sz3 rfl) ?_
  refine wv rfl (r_ldB Try.underlying3 rfl rfl hM (.tail _ (.tail _ (.head _))) rfl) ?_
  refine wv rfl (r_fld Try.underlying48 rfl rfl sz3 rfl) ?_
  refine w_exu (x_stB #[(.int .i64 a.n), (.slice none 0 0), (.slice none 0 0)] sz3 rfl rfl rfl rfl rfl rfl hM ?_); intro w56 hM
  refine wl_nil ?_
  refine sq_n ?_
  refine wc_seq ?_
  refine wc_region ?_
  refine wv rfl (r_fld Try.underlying43 rfl rfl sz41 rfl) ?_
  refine wv rfl (r_ldB Try.underlying41 rfl rfl hM (.tail _ (.tail _ (.head _))) rfl) ?_
  obtain ⟨r60, h61, hx⟩ := bind_some' hx
  refine w_call rfl rfl (hM.callO (l := []) fun X S oL hS hR hO => ct_laws_toPartSS _ X S a.undo s_a_1 hS (hR _ (.tail _ (.head _))) oL h61) ?_
  rintro _ w62 ⟨s63, rfl, hM⟩
  replace hM : St ⟨w, X, S⟩ [oC (cSl 1 fLDPart r60) s63.v, oBox b50 #[(.int .i64 a.n), (.slice none 0 0), (.slice none 0 0)] 48, oBox b46 #[(.int .i64 0), (.slice none 0 0), (.slice none 0 0)] 48, oBox b42 #[(.int .i64 a.n), s_a_1.v, s_a_2.v] 43] [rV s_a_2.v (cSl 1 fLDPart a.redo), rV s_a_1.v (cSl 1 fLDPart a.undo)] _ := hM
  refine wv rfl (r_fld Try.underlying48 rfl rfl sz46 rfl) ?_
  replace hM := hM.p1
  refine w_exu (x_stB #[(.int .i64 a.n), s63.v, (.slice none 0 0)] sz46 rfl rfl rfl rfl rfl rfl hM ?_); intro w66 hM
  refine wl_nil ?_
  refine sq_n ?_
  refine wc_seq ?_
  refine wc_region ?_
  refine wv rfl (r_fld Try.underlying43 rfl rfl sz41 rfl) ?_
  refine wv rfl (r_ldB Try.underlying41 rfl rfl hM (.tail _ (.tail _ (.tail _ (.head _)))) rfl) ?_
  obtain ⟨r70, h71, hx⟩ := bind_some' hx
  refine w_call rfl rfl (hM.callO (l := []) fun X S oL hS hR hO => ct_laws_toPartSS _ X S a.redo s_a_2 hS (hR _ (.head _)) oL h71) ?_
  rintro _ w72 ⟨s73, rfl, hM⟩
  replace hM : St ⟨w, X, S⟩ [oC (cSl 1 fLDPart r70) s73.v, oBox b50 #[(.int .i64 a.n), s63.v, (.slice none 0 0)] 48, oC (cSl 1 fLDPart r60) s63.v, oBox b46 #[(.int .i64 0), (.slice none 0 0), (.slice none 0 0)] 48, oBox b42 #[(.int .i64 a.n), s_a_1.v, s_a_2.v] 43] [rV s_a_2.v (cSl 1 fLDPart a.redo), rV s_a_1.v (cSl 1 fLDPart a.undo)] _ := hM
  refine wv rfl (r_fld Try.underlying48 rfl rfl sz46 rfl) ?_
  replace hM := hM.p1
  refine w_exu (x_stB #[(.int .i64 a.n), s63.v, s73.v] sz46 rfl rfl rfl rfl rfl rfl hM ?_); intro w76 hM
  refine wl_nil ?_
  refine sq_n ?_
  refine wc_seq ?_
  refine wc_region ?_
  refine wv rfl (r_ldBS Try.underlying48 sz48 rfl (us := [(.int .i64 a.n), s63.v, s73.v]) rfl hM (.head _) rfl) ?_
  replace hM := hM.p3
  refine w_exu (x_stB #[(.int .i64 a.n), s63.v, s73.v] sz48 rfl rfl rfl rfl rfl rfl hM ?_); intro w79 hM
  refine wl_nil ?_
  refine sq_n ?_
  refine wc_ret ?_
  obtain rfl := Option.some.inj hx
  refine fin_ret [(.agg #[(.int .i64 a.n), s63.v, s73.v])] ⟨rv_box Try.underlying48 sz48 rfl rfl hM (.head _), trivial⟩ ?_
  replace hM := hM.p2.p3
  replace hM := hM.t2
  have hM := hM.fewer rsN
  exact ⟨(s63, s73), rfl, hM.gives⟩

noncomputable def x_laws_eqIntS_b0 (a : List Int) (b : List Int) (i9 : Int) : Option (Lr Int (Sum Unit Unit)) :=
  bif decide (i9 < (a.length : Int)) then (xg (0 ≤ i9 ∧ i9 < (a.length : Int)) <| xg (0 ≤ i9 ∧ i9 < (b.length : Int)) <| bif !decide ((el a i9.toNat) = (el b i9.toNat)) then (some (Lr.out (Sum.inr (())))) else (xg (inI (i9 + 1)) <| some (Lr.go (i9 + 1)))) else (some (Lr.out (Sum.inl ())))
noncomputable def x_laws_eqIntS_f0 (a : List Int) (b : List Int) (s58 : Int) : Option (Lr Int (Sum Unit Unit)) := x_laws_eqIntS_b0 a b s58
noncomputable def x_laws_eqIntS (a : List Int) (b : List Int) : Option Bool :=
  bif !decide ((a.length : Int) = (b.length : Int)) then (some false) else (Option.bind (iter (x_laws_eqIntS_f0 a b) 0) fun (y59 : Sum Unit Unit) => Sum.elim (fun _y60 => some true) (fun _y61 => some false) y59)
theorem ct_laws_eqIntS (w : World) (X S : Bs) (a : List Int) (s_a : Sv) (b : List Int) (s_b : Sv) (hS : ∀ b, S b → b < w.heap.size ∧ ¬ X b) (a_a_0 : (cSl 1 fI a).rd S w s_a.v) (a_b_0 : (cSl 1 fI b).rd S w s_b.v) (oL : Sep [] X w) {r : Bool} (hx : x_laws_eqIntS a b = some r) :
    Ret Try.prog 19 [s_a.v, s_b.v] w (fun u w' => ∃ _ : Unit, u = (.bool r) ∧ Gives X S w [] [] w') := by
  unfold x_laws_eqIntS at hx
  refine enter Try.func19 rfl Try.ntmps19 (by kernel_rfl) rfl ?_
  have hM := St.enter oL hS
  have hM := hM.addE (r := rV s_a.v (cSl 1 fI a)) a_a_0
  have hM := hM.addE (r := rV s_b.v (cSl 1 fI b)) a_b_0
  refine wc_seq ?_
  refine wc_region ?_
  refine wv rfl (r_assign rfl) ?_
  refine wl_nil ?_
  refine sq_n ?_
  refine wc_seq ?_
  refine wc_seq ?_
  refine wc_region ?_
  refine wv rfl (r_move rfl) ?_
  refine wv rfl (r_lenC Try.underlying24 rfl (hM.seeR (.tail _ (.head _)))) ?_
  refine wv rfl (r_move rfl) ?_
  refine wv rfl (r_lenC Try.underlying24 rfl (hM.seeR (.head _))) ?_
  refine wv rfl (r_neq rfl rfl) ?_
  refine wl_nil ?_
  refine sq_n ?_
  refine wc_cond rfl (fun hc69 => ?_) (fun hc69 => ?_)
  · replace hx := xif_t hc69 hx
    refine wc_seq ?_
    refine wc_region ?_
    refine wv rfl (r_assign rfl) ?_
    refine wl_nil ?_
    refine sq_n ?_
    refine wc_ret ?_
    refine sq_ret ?_
    obtain rfl := Option.some.inj hx
    refine fin_ret [(.bool false)] ⟨rfl, trivial⟩ ?_
    replace hM := hM.t0
    have hM := hM.fewer rsN
    exact ⟨(), rfl, hM.gives⟩
  · replace hx := xif_f hc69 hx
    refine wc_skip ?_
    refine sq_n ?_
    refine wc_seq ?_
    refine wc_seq ?_
    refine wc_region ?_
    refine wv rfl (r_assign rfl) ?_
    refine wl_nil ?_
    refine sq_n ?_
    refine wc_block ?_
    obtain ⟨y72, hx, hx73⟩ := bind_some' hx
    have hM := hM.fewer (rsC (.tail _ (.head _)) (rsC (.head _) rsN))
    replace hM : St ⟨w, X, S⟩ [] [rV s_a.v (cSl 1 fI a), rV s_b.v (cSl 1 fI b)] _ := hM
    obtain ⟨m77, hx⟩ := iter_run hx
    refine wc_loop (un fun (m75 : Nat) => fun (i74 : Int) => [(0, s_a.v), (1, s_b.v), (5, (.int .i64 i74))]) (un fun (m75 : Nat) => fun (i74 : Int) w' => St ⟨w, X, S⟩ [] [rV s_a.v (cSl 1 fI a), rV s_b.v (cSl 1 fI b)] w' ∧ iterN _ m75 i74 = some y72) (fun p => p.1) (m77, 0) ⟨rfl, rfl, rfl, trivial⟩ ⟨hM, hx⟩ ?_
    rintro ⟨m75, i74⟩ w78 ⟨hM, hx⟩
    obtain ⟨m79, z80, rfl, hx, hx81⟩ := iterN_step hx
    unfold x_laws_eqIntS_f0 x_laws_eqIntS_b0 at hx
    try dsimp only at hx
    refine wc_seq ?_
    refine wc_seq ?_
    refine wc_region ?_
    refine wv rfl (r_move rfl) ?_
    refine wv rfl (r_move rfl) ?_
    refine wv rfl (r_lenC Try.underlying24 rfl (hM.seeR (.head _))) ?_
    refine wv rfl (r_lss rfl rfl) ?_
    refine wl_nil ?_
    refine sq_n ?_
    refine wc_cond rfl (fun hc86 => ?_) (fun hc86 => ?_)
    · replace hx := xif_t hc86 hx
      refine wc_skip ?_
      refine sq_n ?_
      refine wc_seq ?_
      refine wc_block ?_
      refine wc_seq ?_
      refine wc_draw [(0, 0), (1, 0), (2, 0), (3, 0), (4, 0), (5, 0), (6, 0), (7, 0), (8, 0)] Try_mixed (by kernel_rfl) rfl (by kernel_rfl) rfl ?_
      refine ov rfl (fun w' h' => r_move rfl) ?_
      refine ov rfl (fun w' h' => r_move rfl) ?_
      obtain ⟨hg91, hx⟩ := xg_some hx
      have hi90 : i74.toNat < a.length := by omega
      refine ov rfl (fun w' h' => r_ixC Try.underlying24 sz3 rfl rfl ((hM.call h').seeR (.head _)) hg91) ?_
      refine ov rfl (fun w' h' => r_ld Try.underlying3 rfl rfl (Cs.get (i := i74.toNat) (j := 0) ((hM.call h').seeR (.head _)) (fun _ => rfl) hi90 rfl)) ?_
      refine ov rfl (fun w' h' => r_move rfl) ?_
      refine ov rfl (fun w' h' => r_move rfl) ?_
      obtain ⟨hg97, hx⟩ := xg_some hx
      have hi96 : i74.toNat < b.length := by omega
      refine ov rfl (fun w' h' => r_ixC Try.underlying24 sz3 rfl rfl ((hM.call h').seeR (.tail _ (.head _))) hg97) ?_
      refine ov rfl (fun w' h' => r_ld Try.underlying3 rfl rfl (Cs.get (i := i74.toNat) (j := 0) ((hM.call h').seeR (.tail _ (.head _))) (fun _ => rfl) hi96 rfl)) ?_
      refine ov rfl (fun w' h' => r_neq rfl rfl) ?_
      refine o_nil fun w100 hw101 => ?_
      have hM := hM.call hw101
      refine sq_n ?_
      refine wc_cond rfl (fun hc102 => ?_) (fun hc102 => ?_)
      · replace hx := xif_t hc102 hx
        refine wc_seq ?_
        refine wc_region ?_
        refine wv rfl (r_assign rfl) ?_
        refine wl_nil ?_
        refine sq_n ?_
        refine wc_ret ?_
        refine bk_ret ?_
        refine sq_ret ?_
        refine lp1_ret ?_
        obtain rfl := Option.some.inj hx
        obtain rfl := Option.some.inj hx81
        replace hx := hx73
        try dsimp only [Sum.elim_inl, Sum.elim_inr] at hx
        refine bk_ret ?_
        refine sq_ret ?_
        obtain rfl := Option.some.inj hx
        refine fin_ret [(.bool false)] ⟨rfl, trivial⟩ ?_
        replace hM := hM.t0
        have hM := hM.fewer rsN
        exact ⟨(), rfl, hM.gives⟩
      · replace hx := xif_f hc102 hx
        refine wc_skip ?_
        refine bk_n ?_
        refine sq_n ?_
        refine wc_region ?_
        refine wv rfl (r_move rfl) ?_
        obtain ⟨hg106, hx⟩ := xg_some hx
        refine wv rfl (r_add rfl rfl hg106) ?_
        refine wv rfl (r_assign rfl) ?_
        refine wl_nil ?_
        obtain rfl := Option.some.inj hx
        exact lp_end (m79, i74 + 1) (Nat.lt_succ_self _) ⟨rfl, rfl, rfl, trivial⟩ ⟨hM, hx81⟩
    · replace hx := xif_f hc86 hx
      refine wc_exit ?_
      refine sq_exit ?_
      refine lp1_exit ?_
      obtain rfl := Option.some.inj hx
      obtain rfl := Option.some.inj hx81
      replace hx := hx73
      try dsimp only [Sum.elim_inl, Sum.elim_inr] at hx
      refine bk_here ?_
      refine sq_n ?_
      refine wc_seq ?_
      refine wc_region ?_
      refine wv rfl (r_assign rfl) ?_
      refine wl_nil ?_
      refine sq_n ?_
      refine wc_ret ?_
      obtain rfl := Option.some.inj hx
      refine fin_ret [(.bool true)] ⟨rfl, trivial⟩ ?_
      replace hM := hM.t0
      have hM := hM.fewer rsN
      exact ⟨(), rfl, hM.gives⟩

noncomputable def x_laws_eqPart (a : DPart) (b : DPart) : Option Bool :=
  bif !decide (a.kind = b.kind) then (some false) else (bif !decide (a.n = b.n) then (some false) else (Option.bind (x_laws_eqIntS a.signs b.signs) fun r26 => bif !r26 then (some false) else (some true)))
theorem ct_laws_eqPart (w : World) (X S : Bs) (a : DPart) (s_a_2 : Sv) (b : DPart) (s_b_2 : Sv) (hS : ∀ b, S b → b < w.heap.size ∧ ¬ X b) (a_a_2 : (cSl 1 fI a.signs).rd S w s_a_2.v) (a_b_2 : (cSl 1 fI b.signs).rd S w s_b_2.v) (oL : Sep [] X w) {r : Bool} (hx : x_laws_eqPart a b = some r) :
    Ret Try.prog 66 [(.agg #[(.int .i64 a.kind), (.int .i64 a.n), s_a_2.v]), (.agg #[(.int .i64 b.kind), (.int .i64 b.n), s_b_2.v])] w (fun u w' => ∃ _ : Unit, u = (.bool r) ∧ Gives X S w [] [] w') := by
  unfold x_laws_eqPart at hx
  refine enter Try.func66 rfl Try.ntmps66 (by kernel_rfl) rfl ?_
  have hM := St.enter oL hS
  have hM := hM.addE (r := rV s_a_2.v (cSl 1 fI a.signs)) a_a_2
  have hM := hM.addE (r := rV s_b_2.v (cSl 1 fI b.signs)) a_b_2
  refine wc_seq ?_
  refine wc_region ?_
  refine w_ex rfl (x_box rfl hM ?_); intro b34 w33 hR35 hM
  replace hM : St ⟨w, X, S⟩ [oBox b34 #[(.int .i64 a.kind), (.int .i64 a.n), s_a_2.v] 79] [rV s_b_2.v (cSl 1 fI b.signs), rV s_a_2.v (cSl 1 fI a.signs)] _ := hM
  refine w_ex rfl (x_box rfl hM ?_); intro b38 w37 hR39 hM
  replace hM : St ⟨w, X, S⟩ [oBox b38 #[(.int .i64 b.kind), (.int .i64 b.n), s_b_2.v] 79, oBox b34 #[(.int .i64 a.kind), (.int .i64 a.n), s_a_2.v] 79] [rV s_b_2.v (cSl 1 fI b.signs), rV s_a_2.v (cSl 1 fI a.signs)] _ := hM
  refine wv rfl (r_assign rfl) ?_
  refine wl_nil ?_
  refine sq_n ?_
  refine wc_seq ?_
  refine wc_seq ?_
  refine wc_region ?_
  refine wv rfl (r_fld Try.underlying79 rfl rfl sz3 rfl) ?_
  refine wv rfl (r_ldB Try.underlying3 rfl rfl hM (.tail _ (.head _)) rfl) ?_
  refine wv rfl (r_fld Try.underlying79 rfl rfl sz3 rfl) ?_
  refine wv rfl (r_ldB Try.underlying3 rfl rfl hM (.head _) rfl) ?_
  refine wv rfl (r_neq rfl rfl) ?_
  refine wl_nil ?_
  refine sq_n ?_
  refine wc_cond rfl (fun hc47 => ?_) (fun hc47 => ?_)
  · replace hx := xif_t hc47 hx
    refine wc_seq ?_
    refine wc_region ?_
    refine wv rfl (r_assign rfl) ?_
    refine wl_nil ?_
    refine sq_n ?_
    refine wc_ret ?_
    refine sq_ret ?_
    obtain rfl := Option.some.inj hx
    refine fin_ret [(.bool false)] ⟨rfl, trivial⟩ ?_
    replace hM := hM.t0
    have hM := hM.fewer rsN
    exact ⟨(), rfl, hM.gives⟩
  · replace hx := xif_f hc47 hx
    refine wc_skip ?_
    refine sq_n ?_
    refine wc_seq ?_
    refine wc_seq ?_
    refine wc_region ?_
    refine wv rfl (r_fld Try.underlying79 rfl rfl sz3 rfl) ?_
    refine wv rfl (r_ldB Try.underlying3 rfl rfl hM (.tail _ (.head _)) rfl) ?_
    refine wv rfl (r_fld Try.underlying79 rfl rfl sz3 rfl) ?_
    refine wv rfl (r_ldB Try.underlying3 rfl rfl hM (.head _) rfl) ?_
    refine wv rfl (r_neq rfl rfl) ?_
    refine wl_nil ?_
    refine sq_n ?_
    refine wc_cond rfl (fun hc54 => ?_) (fun hc54 => ?_)
    · replace hx := xif_t hc54 hx
      refine wc_seq ?_
      refine wc_region ?_
      refine wv rfl (r_assign rfl) ?_
      refine wl_nil ?_
      refine sq_n ?_
      refine wc_ret ?_
      refine sq_ret ?_
      obtain rfl := Option.some.inj hx
      refine fin_ret [(.bool false)] ⟨rfl, trivial⟩ ?_
      replace hM := hM.t0
      have hM := hM.fewer rsN
      exact ⟨(), rfl, hM.gives⟩
    · replace hx := xif_f hc54 hx
      refine wc_skip ?_
      refine sq_n ?_
      refine wc_seq ?_
      refine wc_seq ?_
      refine wc_region ?_
      refine wv rfl (r_fld Try.underlying79 rfl rfl sz24 rfl) ?_
      refine wv rfl (r_ldB Try.underlying24 rfl rfl hM (.tail _ (.head _)) rfl) ?_
      refine wv rfl (r_fld Try.underlying79 rfl rfl sz24 rfl) ?_
      refine wv rfl (r_ldB Try.underlying24 rfl rfl hM (.head _) rfl) ?_
      obtain ⟨r60, h61, hx⟩ := bind_some' hx
      refine w_call rfl rfl (hM.callV fun X S oL hS hR hO => ct_laws_eqIntS _ X S a.signs s_a_2 b.signs s_b_2 hS (hR _ (.tail _ (.head _))) (hR _ (.head _)) oL h61) ?_
      rintro _ w62 ⟨rfl, hR63⟩
      have hM := hM.call hR63
      refine wv rfl (r_not rfl) ?_
      refine wl_nil ?_
      refine sq_n ?_
      refine wc_cond rfl (fun hc65 => ?_) (fun hc65 => ?_)
      · replace hx := xif_t hc65 hx
        refine wc_seq ?_
        refine wc_region ?_
        refine wv rfl (r_assign rfl) ?_
        refine wl_nil ?_
        refine sq_n ?_
        refine wc_ret ?_
        refine sq_ret ?_
        obtain rfl := Option.some.inj hx
        refine fin_ret [(.bool false)] ⟨rfl, trivial⟩ ?_
        replace hM := hM.t0
        have hM := hM.fewer rsN
        exact ⟨(), rfl, hM.gives⟩
      · replace hx := xif_f hc65 hx
        refine wc_skip ?_
        refine sq_n ?_
        refine wc_seq ?_
        refine wc_region ?_
        refine wv rfl (r_assign rfl) ?_
        refine wl_nil ?_
        refine sq_n ?_
        refine wc_ret ?_
        obtain rfl := Option.some.inj hx
        refine fin_ret [(.bool true)] ⟨rfl, trivial⟩ ?_
        replace hM := hM.t0
        have hM := hM.fewer rsN
        exact ⟨(), rfl, hM.gives⟩

noncomputable def x_laws_eqPartS_b0 (a : List DPart) (b : List DPart) (i9 : Int) : Option (Lr Int (Sum Unit Unit)) :=
  bif decide (i9 < (a.length : Int)) then (xg (0 ≤ i9 ∧ i9 < (a.length : Int)) <| xg (0 ≤ i9 ∧ i9 < (b.length : Int)) <| Option.bind (x_laws_eqPart (el a i9.toNat) (el b i9.toNat)) fun r61 => bif !r61 then (some (Lr.out (Sum.inr (())))) else (xg (inI (i9 + 1)) <| some (Lr.go (i9 + 1)))) else (some (Lr.out (Sum.inl ())))
noncomputable def x_laws_eqPartS_f0 (a : List DPart) (b : List DPart) (s72 : Int) : Option (Lr Int (Sum Unit Unit)) := x_laws_eqPartS_b0 a b s72
noncomputable def x_laws_eqPartS (a : List DPart) (b : List DPart) : Option Bool :=
  bif !decide ((a.length : Int) = (b.length : Int)) then (some false) else (Option.bind (iter (x_laws_eqPartS_f0 a b) 0) fun (y73 : Sum Unit Unit) => Sum.elim (fun _y74 => some true) (fun _y75 => some false) y73)
theorem ct_laws_eqPartS (w : World) (X S : Bs) (a : List DPart) (s_a : Sv) (b : List DPart) (s_b : Sv) (hS : ∀ b, S b → b < w.heap.size ∧ ¬ X b) (a_a_0 : (cSl 3 fDPart a).rd S w s_a.v) (a_b_0 : (cSl 3 fDPart b).rd S w s_b.v) (oL : Sep [] X w) {r : Bool} (hx : x_laws_eqPartS a b = some r) :
    Ret Try.prog 20 [s_a.v, s_b.v] w (fun u w' => ∃ _ : Unit, u = (.bool r) ∧ Gives X S w [] [] w') := by
  unfold x_laws_eqPartS at hx
  refine enter Try.func20 rfl Try.ntmps20 (by kernel_rfl) rfl ?_
  have hM := St.enter oL hS
  have hM := hM.addE (r := rV s_a.v (cSl 3 fDPart a)) a_a_0
  have hM := hM.addE (r := rV s_b.v (cSl 3 fDPart b)) a_b_0
  refine wc_seq ?_
  refine wc_region ?_
  refine wv rfl (r_assign rfl) ?_
  refine wl_nil ?_
  refine sq_n ?_
  refine wc_seq ?_
  refine wc_seq ?_
  refine wc_region ?_
  refine wv rfl (r_move rfl) ?_
  refine wv rfl (r_lenC Try.underlying26 rfl (hM.seeR (.tail _ (.head _)))) ?_
  refine wv rfl (r_move rfl) ?_
  refine wv rfl (r_lenC Try.underlying26 rfl (hM.seeR (.head _))) ?_
  refine wv rfl (r_neq rfl rfl) ?_
  refine wl_nil ?_
  refine sq_n ?_
  refine wc_cond rfl (fun hc83 => ?_) (fun hc83 => ?_)
  · replace hx := xif_t hc83 hx
    refine wc_seq ?_
    refine wc_region ?_
    refine wv rfl (r_assign rfl) ?_
    refine wl_nil ?_
    refine sq_n ?_
    refine wc_ret ?_
    refine sq_ret ?_
    obtain rfl := Option.some.inj hx
    refine fin_ret [(.bool false)] ⟨rfl, trivial⟩ ?_
    replace hM := hM.t0
    have hM := hM.fewer rsN
    exact ⟨(), rfl, hM.gives⟩
  · replace hx := xif_f hc83 hx
    refine wc_skip ?_
    refine sq_n ?_
    refine wc_seq ?_
    refine wc_seq ?_
    refine wc_region ?_
    refine wv rfl (r_assign rfl) ?_
    refine wl_nil ?_
    refine sq_n ?_
    refine wc_block ?_
    obtain ⟨y86, hx, hx87⟩ := bind_some' hx
    have hM := hM.fewer (rsC (.tail _ (.head _)) (rsC (.head _) rsN))
    replace hM : St ⟨w, X, S⟩ [] [rV s_a.v (cSl 3 fDPart a), rV s_b.v (cSl 3 fDPart b)] _ := hM
    obtain ⟨m91, hx⟩ := iter_run hx
    refine wc_loop (un fun (m89 : Nat) => fun (i88 : Int) => [(0, s_a.v), (1, s_b.v), (5, (.int .i64 i88))]) (un fun (m89 : Nat) => fun (i88 : Int) w' => St ⟨w, X, S⟩ [] [rV s_a.v (cSl 3 fDPart a), rV s_b.v (cSl 3 fDPart b)] w' ∧ iterN _ m89 i88 = some y86) (fun p => p.1) (m91, 0) ⟨rfl, rfl, rfl, trivial⟩ ⟨hM, hx⟩ ?_
    rintro ⟨m89, i88⟩ w92 ⟨hM, hx⟩
    obtain ⟨m93, z94, rfl, hx, hx95⟩ := iterN_step hx
    unfold x_laws_eqPartS_f0 x_laws_eqPartS_b0 at hx
    try dsimp only at hx
    refine wc_seq ?_
    refine wc_seq ?_
    refine wc_region ?_
    refine wv rfl (r_move rfl) ?_
    refine wv rfl (r_move rfl) ?_
    refine wv rfl (r_lenC Try.underlying26 rfl (hM.seeR (.head _))) ?_
    refine wv rfl (r_lss rfl rfl) ?_
    refine wl_nil ?_
    refine sq_n ?_
    refine wc_cond rfl (fun hc100 => ?_) (fun hc100 => ?_)
    · replace hx := xif_t hc100 hx
      refine wc_skip ?_
      refine sq_n ?_
      refine wc_seq ?_
      refine wc_block ?_
      refine wc_seq ?_
      refine wc_draw [(0, 0), (1, 0), (2, 0), (3, 0), (4, 0), (5, 0), (6, 0), (7, 0), (8, 0), (9, 0)] Try_mixed (by kernel_rfl) rfl (by kernel_rfl) rfl ?_
      refine ov rfl (fun w' h' => r_move rfl) ?_
      refine ov rfl (fun w' h' => r_move rfl) ?_
      obtain ⟨hg105, hx⟩ := xg_some hx
      have hi104 : i88.toNat < a.length := by omega
      refine ov rfl (fun w' h' => r_ixC Try.underlying26 sz79 rfl rfl ((hM.call h').seeR (.head _)) hg105) ?_
      obtain ⟨s107, hM, hc108⟩ := hM.leaf (i := i88.toNat) (j := 2) (.head _) (fun _ => rfl) hi104 rfl
      refine ov rfl (fun w' h' => r_ldC (o := i88.toNat * 3) Try.underlying79 sz79 rfl (us := [(.int .i64 ((el a i88.toNat).kind)), (.int .i64 ((el a i88.toNat).n)), s107.v]) rfl ((hM.call h').seeR (.tail _ (.head _))) hi104 ⟨(Cs.get (i := i88.toNat) (j := 0) ((hM.call h').seeR (.tail _ (.head _))) (fun _ => rfl) hi104 rfl), (Cs.get (i := i88.toNat) (j := 1) ((hM.call h').seeR (.tail _ (.head _))) (fun _ => rfl) hi104 rfl), (hc108 w' h'), trivial⟩) ?_
      refine ov rfl (fun w' h' => r_move rfl) ?_
      refine ov rfl (fun w' h' => r_move rfl) ?_
      obtain ⟨hg113, hx⟩ := xg_some hx
      have hi112 : i88.toNat < b.length := by omega
      refine ov rfl (fun w' h' => r_ixC Try.underlying26 sz79 rfl rfl ((hM.call h').seeR (.tail _ (.tail _ (.head _)))) hg113) ?_
      obtain ⟨s115, hM, hc116⟩ := hM.leaf (i := i88.toNat) (j := 2) (.tail _ (.tail _ (.head _))) (fun _ => rfl) hi112 rfl
      refine ov rfl (fun w' h' => r_ldC (o := i88.toNat * 3) Try.underlying79 sz79 rfl (us := [(.int .i64 ((el b i88.toNat).kind)), (.int .i64 ((el b i88.toNat).n)), s115.v]) rfl ((hM.call h').seeR (.tail _ (.tail _ (.tail _ (.head _))))) hi112 ⟨(Cs.get (i := i88.toNat) (j := 0) ((hM.call h').seeR (.tail _ (.tail _ (.tail _ (.head _))))) (fun _ => rfl) hi112 rfl), (Cs.get (i := i88.toNat) (j := 1) ((hM.call h').seeR (.tail _ (.tail _ (.tail _ (.head _))))) (fun _ => rfl) hi112 rfl), (hc116 w' h'), trivial⟩) ?_
      obtain ⟨r117, h118, hx⟩ := bind_some' hx
      refine oc rfl rfl (fun w' h' => (hM.call h').callV fun X S oL hS hR hO => ct_laws_eqPart _ X S (el a i88.toNat) s107 (el b i88.toNat) s115 hS (hR _ (.tail _ (.head _))) (hR _ (.head _)) oL h118) ?_
      refine ov rfl (fun w' h' => r_not rfl) ?_
      refine o_nil fun w121 hw122 => ?_
      have hM := hM.call hw122
      refine sq_n ?_
      refine wc_cond rfl (fun hc123 => ?_) (fun hc123 => ?_)
      · replace hx := xif_t hc123 hx
        refine wc_seq ?_
        refine wc_region ?_
        refine wv rfl (r_assign rfl) ?_
        refine wl_nil ?_
        refine sq_n ?_
        refine wc_ret ?_
        refine bk_ret ?_
        refine sq_ret ?_
        refine lp1_ret ?_
        obtain rfl := Option.some.inj hx
        obtain rfl := Option.some.inj hx95
        replace hx := hx87
        try dsimp only [Sum.elim_inl, Sum.elim_inr] at hx
        refine bk_ret ?_
        refine sq_ret ?_
        obtain rfl := Option.some.inj hx
        refine fin_ret [(.bool false)] ⟨rfl, trivial⟩ ?_
        replace hM := hM.t0
        have hM := hM.fewer rsN
        exact ⟨(), rfl, hM.gives⟩
      · replace hx := xif_f hc123 hx
        refine wc_skip ?_
        refine bk_n ?_
        refine sq_n ?_
        refine wc_region ?_
        refine wv rfl (r_move rfl) ?_
        obtain ⟨hg127, hx⟩ := xg_some hx
        refine wv rfl (r_add rfl rfl hg127) ?_
        refine wv rfl (r_assign rfl) ?_
        refine wl_nil ?_
        obtain rfl := Option.some.inj hx
        have hM := hM.fewer (rsC (.tail _ (.tail _ (.head _))) (rsC (.tail _ (.tail _ (.tail _ (.head _)))) rsN))
        replace hM : St ⟨w, X, S⟩ [] [rV s_a.v (cSl 3 fDPart a), rV s_b.v (cSl 3 fDPart b)] _ := hM
        exact lp_end (m93, i88 + 1) (Nat.lt_succ_self _) ⟨rfl, rfl, rfl, trivial⟩ ⟨hM, hx95⟩
    · replace hx := xif_f hc100 hx
      refine wc_exit ?_
      refine sq_exit ?_
      refine lp1_exit ?_
      obtain rfl := Option.some.inj hx
      obtain rfl := Option.some.inj hx95
      replace hx := hx87
      try dsimp only [Sum.elim_inl, Sum.elim_inr] at hx
      refine bk_here ?_
      refine sq_n ?_
      refine wc_seq ?_
      refine wc_region ?_
      refine wv rfl (r_assign rfl) ?_
      refine wl_nil ?_
      refine sq_n ?_
      refine wc_ret ?_
      obtain rfl := Option.some.inj hx
      refine fin_ret [(.bool true)] ⟨rfl, trivial⟩ ?_
      replace hM := hM.t0
      have hM := hM.fewer rsN
      exact ⟨(), rfl, hM.gives⟩

noncomputable def x_laws_eqPartSS_b0 (a : List (List DPart)) (b : List (List DPart)) (i9 : Int) : Option (Lr Int (Sum Unit Unit)) :=
  bif decide (i9 < (a.length : Int)) then (xg (0 ≤ i9 ∧ i9 < (a.length : Int)) <| xg (0 ≤ i9 ∧ i9 < (b.length : Int)) <| Option.bind (x_laws_eqPartS (el a i9.toNat) (el b i9.toNat)) fun r61 => bif !r61 then (some (Lr.out (Sum.inr (())))) else (xg (inI (i9 + 1)) <| some (Lr.go (i9 + 1)))) else (some (Lr.out (Sum.inl ())))
noncomputable def x_laws_eqPartSS_f0 (a : List (List DPart)) (b : List (List DPart)) (s72 : Int) : Option (Lr Int (Sum Unit Unit)) := x_laws_eqPartSS_b0 a b s72
noncomputable def x_laws_eqPartSS (a : List (List DPart)) (b : List (List DPart)) : Option Bool :=
  bif !decide ((a.length : Int) = (b.length : Int)) then (some false) else (Option.bind (iter (x_laws_eqPartSS_f0 a b) 0) fun (y73 : Sum Unit Unit) => Sum.elim (fun _y74 => some true) (fun _y75 => some false) y73)
theorem ct_laws_eqPartSS (w : World) (X S : Bs) (a : List (List DPart)) (s_a : Sv) (b : List (List DPart)) (s_b : Sv) (hS : ∀ b, S b → b < w.heap.size ∧ ¬ X b) (a_a_0 : (cSl 1 fLDPart a).rd S w s_a.v) (a_b_0 : (cSl 1 fLDPart b).rd S w s_b.v) (oL : Sep [] X w) {r : Bool} (hx : x_laws_eqPartSS a b = some r) :
    Ret Try.prog 85 [s_a.v, s_b.v] w (fun u w' => ∃ _ : Unit, u = (.bool r) ∧ Gives X S w [] [] w') := by
  unfold x_laws_eqPartSS at hx
  refine enter Try.func85 rfl Try.ntmps85 (by kernel_rfl) rfl ?_
  have hM := St.enter oL hS
  have hM := hM.addE (r := rV s_a.v (cSl 1 fLDPart a)) a_a_0
  have hM := hM.addE (r := rV s_b.v (cSl 1 fLDPart b)) a_b_0
  refine wc_seq ?_
  refine wc_region ?_
  refine wv rfl (r_assign rfl) ?_
  refine wl_nil ?_
  refine sq_n ?_
  refine wc_seq ?_
  refine wc_seq ?_
  refine wc_region ?_
  refine wv rfl (r_move rfl) ?_
  refine wv rfl (r_lenC Try.underlying46 rfl (hM.seeR (.tail _ (.head _)))) ?_
  refine wv rfl (r_move rfl) ?_
  refine wv rfl (r_lenC Try.underlying46 rfl (hM.seeR (.head _))) ?_
  refine wv rfl (r_neq rfl rfl) ?_
  refine wl_nil ?_
  refine sq_n ?_
  refine wc_cond rfl (fun hc83 => ?_) (fun hc83 => ?_)
  · replace hx := xif_t hc83 hx
    refine wc_seq ?_
    refine wc_region ?_
    refine wv rfl (r_assign rfl) ?_
    refine wl_nil ?_
    refine sq_n ?_
    refine wc_ret ?_
    refine sq_ret ?_
    obtain rfl := Option.some.inj hx
    refine fin_ret [(.bool false)] ⟨rfl, trivial⟩ ?_
    replace hM := hM.t0
    have hM := hM.fewer rsN
    exact ⟨(), rfl, hM.gives⟩
  · replace hx := xif_f hc83 hx
    refine wc_skip ?_
    refine sq_n ?_
    refine wc_seq ?_
    refine wc_seq ?_
    refine wc_region ?_
    refine wv rfl (r_assign rfl) ?_
    refine wl_nil ?_
    refine sq_n ?_
    refine wc_block ?_
    obtain ⟨y86, hx, hx87⟩ := bind_some' hx
    have hM := hM.fewer (rsC (.tail _ (.head _)) (rsC (.head _) rsN))
    replace hM : St ⟨w, X, S⟩ [] [rV s_a.v (cSl 1 fLDPart a), rV s_b.v (cSl 1 fLDPart b)] _ := hM
    obtain ⟨m91, hx⟩ := iter_run hx
    refine wc_loop (un fun (m89 : Nat) => fun (i88 : Int) => [(0, s_a.v), (1, s_b.v), (5, (.int .i64 i88))]) (un fun (m89 : Nat) => fun (i88 : Int) w' => St ⟨w, X, S⟩ [] [rV s_a.v (cSl 1 fLDPart a), rV s_b.v (cSl 1 fLDPart b)] w' ∧ iterN _ m89 i88 = some y86) (fun p => p.1) (m91, 0) ⟨rfl, rfl, rfl, trivial⟩ ⟨hM, hx⟩ ?_
    rintro ⟨m89, i88⟩ w92 ⟨hM, hx⟩
    obtain ⟨m93, z94, rfl, hx, hx95⟩ := iterN_step hx
    unfold x_laws_eqPartSS_f0 x_laws_eqPartSS_b0 at hx
    try dsimp only at hx
    refine wc_seq ?_
    refine wc_seq ?_
    refine wc_region ?_
    refine wv rfl (r_move rfl) ?_
    refine wv rfl (r_move rfl) ?_
    refine wv rfl (r_lenC Try.underlying46 rfl (hM.seeR (.head _))) ?_
    refine wv rfl (r_lss rfl rfl) ?_
    refine wl_nil ?_
    refine sq_n ?_
    refine wc_cond rfl (fun hc100 => ?_) (fun hc100 => ?_)
    · replace hx := xif_t hc100 hx
      refine wc_skip ?_
      refine sq_n ?_
      refine wc_seq ?_
      refine wc_block ?_
      refine wc_seq ?_
      refine wc_draw [(0, 0), (1, 0), (2, 0), (3, 0), (4, 0), (5, 0), (6, 0), (7, 0), (8, 0), (9, 0)] Try_mixed (by kernel_rfl) rfl (by kernel_rfl) rfl ?_
      refine ov rfl (fun w' h' => r_move rfl) ?_
      refine ov rfl (fun w' h' => r_move rfl) ?_
      obtain ⟨hg105, hx⟩ := xg_some hx
      have hi104 : i88.toNat < a.length := by omega
      refine ov rfl (fun w' h' => r_ixC Try.underlying46 sz26 rfl rfl ((hM.call h').seeR (.head _)) hg105) ?_
      obtain ⟨s107, hM, hc108⟩ := hM.leaf (i := i88.toNat) (j := 0) (.head _) (fun _ => rfl) hi104 rfl
      refine ov rfl (fun w' h' => r_ld Try.underlying26 rfl rfl (hc108 w' h')) ?_
      refine ov rfl (fun w' h' => r_move rfl) ?_
      refine ov rfl (fun w' h' => r_move rfl) ?_
      obtain ⟨hg113, hx⟩ := xg_some hx
      have hi112 : i88.toNat < b.length := by omega
      refine ov rfl (fun w' h' => r_ixC Try.underlying46 sz26 rfl rfl ((hM.call h').seeR (.tail _ (.tail _ (.head _)))) hg113) ?_
      obtain ⟨s115, hM, hc116⟩ := hM.leaf (i := i88.toNat) (j := 0) (.tail _ (.tail _ (.head _))) (fun _ => rfl) hi112 rfl
      refine ov rfl (fun w' h' => r_ld Try.underlying26 rfl rfl (hc116 w' h')) ?_
      obtain ⟨r117, h118, hx⟩ := bind_some' hx
      refine oc rfl rfl (fun w' h' => (hM.call h').callV fun X S oL hS hR hO => ct_laws_eqPartS _ X S (el a i88.toNat) s107 (el b i88.toNat) s115 hS (hR _ (.tail _ (.head _))) (hR _ (.head _)) oL h118) ?_
      refine ov rfl (fun w' h' => r_not rfl) ?_
      refine o_nil fun w121 hw122 => ?_
      have hM := hM.call hw122
      refine sq_n ?_
      refine wc_cond rfl (fun hc123 => ?_) (fun hc123 => ?_)
      · replace hx := xif_t hc123 hx
        refine wc_seq ?_
        refine wc_region ?_
        refine wv rfl (r_assign rfl) ?_
        refine wl_nil ?_
        refine sq_n ?_
        refine wc_ret ?_
        refine bk_ret ?_
        refine sq_ret ?_
        refine lp1_ret ?_
        obtain rfl := Option.some.inj hx
        obtain rfl := Option.some.inj hx95
        replace hx := hx87
        try dsimp only [Sum.elim_inl, Sum.elim_inr] at hx
        refine bk_ret ?_
        refine sq_ret ?_
        obtain rfl := Option.some.inj hx
        refine fin_ret [(.bool false)] ⟨rfl, trivial⟩ ?_
        replace hM := hM.t0
        have hM := hM.fewer rsN
        exact ⟨(), rfl, hM.gives⟩
      · replace hx := xif_f hc123 hx
        refine wc_skip ?_
        refine bk_n ?_
        refine sq_n ?_
        refine wc_region ?_
        refine wv rfl (r_move rfl) ?_
        obtain ⟨hg127, hx⟩ := xg_some hx
        refine wv rfl (r_add rfl rfl hg127) ?_
        refine wv rfl (r_assign rfl) ?_
        refine wl_nil ?_
        obtain rfl := Option.some.inj hx
        have hM := hM.fewer (rsC (.tail _ (.tail _ (.head _))) (rsC (.tail _ (.tail _ (.tail _ (.head _)))) rsN))
        replace hM : St ⟨w, X, S⟩ [] [rV s_a.v (cSl 1 fLDPart a), rV s_b.v (cSl 1 fLDPart b)] _ := hM
        exact lp_end (m93, i88 + 1) (Nat.lt_succ_self _) ⟨rfl, rfl, rfl, trivial⟩ ⟨hM, hx95⟩
    · replace hx := xif_f hc100 hx
      refine wc_exit ?_
      refine sq_exit ?_
      refine lp1_exit ?_
      obtain rfl := Option.some.inj hx
      obtain rfl := Option.some.inj hx95
      replace hx := hx87
      try dsimp only [Sum.elim_inl, Sum.elim_inr] at hx
      refine bk_here ?_
      refine sq_n ?_
      refine wc_seq ?_
      refine wc_region ?_
      refine wv rfl (r_assign rfl) ?_
      refine wl_nil ?_
      refine sq_n ?_
      refine wc_ret ?_
      obtain rfl := Option.some.inj hx
      refine fin_ret [(.bool true)] ⟨rfl, trivial⟩ ?_
      replace hM := hM.t0
      have hM := hM.fewer rsN
      exact ⟨(), rfl, hM.gives⟩

noncomputable def x_laws_eqStory (a : DStory) (b : DStory) : Option Bool :=
  bif !decide (a.n = b.n) then (some false) else (Option.bind (x_laws_eqPartSS a.undo b.undo) fun r20 => bif !r20 then (some false) else (Option.bind (x_laws_eqPartSS a.redo b.redo) fun r30 => bif !r30 then (some false) else (some true)))
theorem ct_laws_eqStory (w : World) (X S : Bs) (a : DStory) (s_a_1 : Sv) (s_a_2 : Sv) (b : DStory) (s_b_1 : Sv) (s_b_2 : Sv) (hS : ∀ b, S b → b < w.heap.size ∧ ¬ X b) (a_a_1 : (cSl 1 fLDPart a.undo).rd S w s_a_1.v) (a_a_2 : (cSl 1 fLDPart a.redo).rd S w s_a_2.v) (a_b_1 : (cSl 1 fLDPart b.undo).rd S w s_b_1.v) (a_b_2 : (cSl 1 fLDPart b.redo).rd S w s_b_2.v) (oL : Sep [] X w) {r : Bool} (hx : x_laws_eqStory a b = some r) :
    Ret Try.prog 38 [(.agg #[(.int .i64 a.n), s_a_1.v, s_a_2.v]), (.agg #[(.int .i64 b.n), s_b_1.v, s_b_2.v])] w (fun u w' => ∃ _ : Unit, u = (.bool r) ∧ Gives X S w [] [] w') := by
  unfold x_laws_eqStory at hx
  refine enter Try.func38 rfl Try.ntmps38 (by kernel_rfl) rfl ?_
  have hM := St.enter oL hS
  have hM := hM.addE (r := rV s_a_1.v (cSl 1 fLDPart a.undo)) a_a_1
  have hM := hM.addE (r := rV s_a_2.v (cSl 1 fLDPart a.redo)) a_a_2
  have hM := hM.addE (r := rV s_b_1.v (cSl 1 fLDPart b.undo)) a_b_1
  have hM := hM.addE (r := rV s_b_2.v (cSl 1 fLDPart b.redo)) a_b_2
  refine wc_seq ?_
  refine wc_region ?_
  refine w_ex rfl (x_box rfl hM ?_); intro b38 w37 hR39 hM
  replace hM : St ⟨w, X, S⟩ [oBox b38 #[(.int .i64 a.n), s_a_1.v, s_a_2.v] 48] [rV s_b_2.v (cSl 1 fLDPart b.redo), rV s_b_1.v (cSl 1 fLDPart b.undo), rV s_a_2.v (cSl 1 fLDPart a.redo), rV s_a_1.v (cSl 1 fLDPart a.undo)] _ := hM
  refine w_ex rfl (x_box rfl hM ?_); intro b42 w41 hR43 hM
  replace hM : St ⟨w, X, S⟩ [oBox b42 #[(.int .i64 b.n), s_b_1.v, s_b_2.v] 48, oBox b38 #[(.int .i64 a.n), s_a_1.v, s_a_2.v] 48] [rV s_b_2.v (cSl 1 fLDPart b.redo), rV s_b_1.v (cSl 1 fLDPart b.undo), rV s_a_2.v (cSl 1 fLDPart a.redo), rV s_a_1.v (cSl 1 fLDPart a.undo)] _ := hM
  refine wv rfl (r_assign rfl) ?_
  refine wl_nil ?_
  refine sq_n ?_
  refine wc_seq ?_
  refine wc_seq ?_
  refine wc_region ?_
  refine wv rfl (r_fld Try.underlying48 rfl rfl sz3 rfl) ?_
  refine wv rfl (r_ldB Try.underlying3 rfl rfl hM (.tail _ (.head _)) rfl) ?_
  refine wv rfl (r_fld Try.underlying48 rfl rfl sz3 rfl) ?_
  refine wv rfl (r_ldB Try.underlying3 rfl rfl hM (.head _) rfl) ?_
  refine wv rfl (r_neq rfl rfl) ?_
  refine wl_nil ?_
  refine sq_n ?_
  refine wc_cond rfl (fun hc51 => ?_) (fun hc51 => ?_)
  · replace hx := xif_t hc51 hx
    refine wc_seq ?_
    refine wc_region ?_
    refine wv rfl (r_assign rfl) ?_
    refine wl_nil ?_
    refine sq_n ?_
    refine wc_ret ?_
    refine sq_ret ?_
    obtain rfl := Option.some.inj hx
    refine fin_ret [(.bool false)] ⟨rfl, trivial⟩ ?_
    replace hM := hM.t0
    have hM := hM.fewer rsN
    exact ⟨(), rfl, hM.gives⟩
  · replace hx := xif_f hc51 hx
    refine wc_skip ?_
    refine sq_n ?_
    refine wc_seq ?_
    refine wc_seq ?_
    refine wc_region ?_
    refine wv rfl (r_fld Try.underlying48 rfl rfl sz46 rfl) ?_
    refine wv rfl (r_ldB Try.underlying46 rfl rfl hM (.tail _ (.head _)) rfl) ?_
    refine wv rfl (r_fld Try.underlying48 rfl rfl sz46 rfl) ?_
    refine wv rfl (r_ldB Try.underlying46 rfl rfl hM (.head _) rfl) ?_
    obtain ⟨r57, h58, hx⟩ := bind_some' hx
    refine w_call rfl rfl (hM.callV fun X S oL hS hR hO => ct_laws_eqPartSS _ X S a.undo s_a_1 b.undo s_b_1 hS (hR _ (.tail _ (.tail _ (.tail _ (.head _))))) (hR _ (.tail _ (.head _))) oL h58) ?_
    rintro _ w59 ⟨rfl, hR60⟩
    have hM := hM.call hR60
    refine wv rfl (r_not rfl) ?_
    refine wl_nil ?_
    refine sq_n ?_
    refine wc_cond rfl (fun hc62 => ?_) (fun hc62 => ?_)
    · replace hx := xif_t hc62 hx
      refine wc_seq ?_
      refine wc_region ?_
      refine wv rfl (r_assign rfl) ?_
      refine wl_nil ?_
      refine sq_n ?_
      refine wc_ret ?_
      refine sq_ret ?_
      obtain rfl := Option.some.inj hx
      refine fin_ret [(.bool false)] ⟨rfl, trivial⟩ ?_
      replace hM := hM.t0
      have hM := hM.fewer rsN
      exact ⟨(), rfl, hM.gives⟩
    · replace hx := xif_f hc62 hx
      refine wc_skip ?_
      refine sq_n ?_
      refine wc_seq ?_
      refine wc_seq ?_
      refine wc_region ?_
      refine wv rfl (r_fld Try.underlying48 rfl rfl sz46 rfl) ?_
      refine wv rfl (r_ldB Try.underlying46 rfl rfl hM (.tail _ (.head _)) rfl) ?_
      refine wv rfl (r_fld Try.underlying48 rfl rfl sz46 rfl) ?_
      refine wv rfl (r_ldB Try.underlying46 rfl rfl hM (.head _) rfl) ?_
      obtain ⟨r68, h69, hx⟩ := bind_some' hx
      refine w_call rfl rfl (hM.callV fun X S oL hS hR hO => ct_laws_eqPartSS _ X S a.redo s_a_2 b.redo s_b_2 hS (hR _ (.tail _ (.tail _ (.head _)))) (hR _ (.head _)) oL h69) ?_
      rintro _ w70 ⟨rfl, hR71⟩
      have hM := hM.call hR71
      refine wv rfl (r_not rfl) ?_
      refine wl_nil ?_
      refine sq_n ?_
      refine wc_cond rfl (fun hc73 => ?_) (fun hc73 => ?_)
      · replace hx := xif_t hc73 hx
        refine wc_seq ?_
        refine wc_region ?_
        refine wv rfl (r_assign rfl) ?_
        refine wl_nil ?_
        refine sq_n ?_
        refine wc_ret ?_
        refine sq_ret ?_
        obtain rfl := Option.some.inj hx
        refine fin_ret [(.bool false)] ⟨rfl, trivial⟩ ?_
        replace hM := hM.t0
        have hM := hM.fewer rsN
        exact ⟨(), rfl, hM.gives⟩
      · replace hx := xif_f hc73 hx
        refine wc_skip ?_
        refine sq_n ?_
        refine wc_seq ?_
        refine wc_region ?_
        refine wv rfl (r_assign rfl) ?_
        refine wl_nil ?_
        refine sq_n ?_
        refine wc_ret ?_
        obtain rfl := Option.some.inj hx
        refine fin_ret [(.bool true)] ⟨rfl, trivial⟩ ?_
        replace hM := hM.t0
        have hM := hM.fewer rsN
        exact ⟨(), rfl, hM.gives⟩

noncomputable def x_laws_markIntS_b0 (k26 : Int) (i27 : Int) (l28 : List Int) : Option (Lr (Int × Int × List Int) (Int × List Int)) :=
  bif decide (i27 < (l28.length : Int)) then (xg (0 ≤ i27 ∧ i27 < (l28.length : Int)) <| xg (inI (k26 + 1)) <| xg (inI (i27 + 1)) <| some (Lr.go (k26 + 1, i27 + 1, l28.set i27.toNat k26))) else (some (Lr.out (k26, l28)))
noncomputable def x_laws_markIntS_f0 (s70 : Int × Int × List Int) : Option (Lr (Int × Int × List Int) (Int × List Int)) := x_laws_markIntS_b0 s70.1 s70.2.1 s70.2.2
noncomputable def x_laws_markIntS (a : List Int) (k : Int) : Option (Int × List Int) :=
  Option.bind (iter (x_laws_markIntS_f0) (k, 0, a)) fun (y71 : Int × List Int) => some (y71.1, y71.2)
theorem ct_laws_markIntS (w : World) (X S : Bs) (a : List Int) (s_a : Sv) (k : Int) (hS : ∀ b, S b → b < w.heap.size ∧ ¬ X b)  (oL : Sep [oC (cSl 1 fI a) s_a.v] X w) {r : Int × List Int} (hx : x_laws_markIntS a k = some r) :
    Ret Try.prog 22 [s_a.v, (.int .i64 k)] w (fun u w' => ∃ _ : Unit, u = (.int .i64 r.1) ∧ Gives X S w [oC (cSl 1 fI r.2) s_a.v] [] w') := by
  unfold x_laws_markIntS at hx
  refine enter Try.func22 rfl Try.ntmps22 (by kernel_rfl) rfl ?_
  have hM := St.enter oL hS
  refine wc_seq ?_
  refine wc_region ?_
  refine wv rfl (r_assign rfl) ?_
  refine wl_nil ?_
  refine sq_n ?_
  refine wc_seq ?_
  refine wc_seq ?_
  refine wc_region ?_
  refine wv rfl (r_assign rfl) ?_
  refine wl_nil ?_
  refine sq_n ?_
  refine wc_block ?_
  obtain ⟨y77, hx, hx78⟩ := bind_some' hx
  obtain ⟨m84, hx⟩ := iter_run hx
  refine wc_loop (un fun (m82 : Nat) => un fun (k79 : Int) => un fun (i80 : Int) => fun (l81 : List Int) => [(0, s_a.v), (1, (.int .i64 k79)), (5, (.int .i64 i80))]) (un fun (m82 : Nat) => un fun (k79 : Int) => un fun (i80 : Int) => fun (l81 : List Int) w' => St ⟨w, X, S⟩ [oC (cSl 1 fI l81) s_a.v] [] w' ∧ iterN _ m82 (k79, i80, l81) = some y77) (fun p => p.1) (m84, k, 0, a) ⟨rfl, rfl, rfl, trivial⟩ ⟨hM, hx⟩ ?_
  rintro ⟨m82, k79, i80, l81⟩ w85 ⟨hM, hx⟩
  obtain ⟨m86, z87, rfl, hx, hx88⟩ := iterN_step hx
  unfold x_laws_markIntS_f0 x_laws_markIntS_b0 at hx
  try dsimp only at hx
  refine wc_seq ?_
  refine wc_seq ?_
  refine wc_region ?_
  refine wv rfl (r_move rfl) ?_
  refine wv rfl (r_move rfl) ?_
  refine wv rfl (r_lenC Try.underlying24 rfl (hM.seeO (.head _))) ?_
  refine wv rfl (r_lss rfl rfl) ?_
  refine wl_nil ?_
  refine sq_n ?_
  refine wc_cond rfl (fun hc93 => ?_) (fun hc93 => ?_)
  · replace hx := xif_t hc93 hx
    refine wc_skip ?_
    refine sq_n ?_
    refine wc_seq ?_
    refine wc_block ?_
    refine wc_seq ?_
    refine wc_region ?_
    refine wv rfl (r_move rfl) ?_
    refine wv rfl (r_move rfl) ?_
    refine wv rfl (r_move rfl) ?_
    obtain ⟨hg99, hx⟩ := xg_some hx
    have hi98 : i80.toNat < l81.length := by omega
    refine wv rfl (r_ixC Try.underlying24 sz3 rfl rfl (hM.seeO (.head _)) hg99) ?_
    refine w_exu (x_stE (f := fI) (k := 1) (L := l81) (i := i80.toNat) (j := 0) k79 [cI k79] sz3 (fun _ => rfl) rfl rfl hi98 rfl rfl rfl rfl rfl (fun _ => zP (pV _ rfl) zN) hM ?_); intro w100 hM
    refine wl_nil ?_
    refine sq_n ?_
    refine wc_region ?_
    refine wv rfl (r_move rfl) ?_
    obtain ⟨hg104, hx⟩ := xg_some hx
    refine wv rfl (r_add rfl rfl hg104) ?_
    refine wv rfl (r_assign rfl) ?_
    refine wl_nil ?_
    refine bk_n ?_
    refine sq_n ?_
    refine wc_region ?_
    refine wv rfl (r_move rfl) ?_
    obtain ⟨hg108, hx⟩ := xg_some hx
    refine wv rfl (r_add rfl rfl hg108) ?_
    refine wv rfl (r_assign rfl) ?_
    refine wl_nil ?_
    obtain rfl := Option.some.inj hx
    exact lp_end (m86, k79 + 1, i80 + 1, l81.set i80.toNat k79) (Nat.lt_succ_self _) ⟨rfl, rfl, rfl, trivial⟩ ⟨hM, hx88⟩
  · replace hx := xif_f hc93 hx
    refine wc_exit ?_
    refine sq_exit ?_
    refine lp1_exit ?_
    obtain rfl := Option.some.inj hx
    obtain rfl := Option.some.inj hx88
    replace hx := hx78
    try dsimp only [Sum.elim_inl, Sum.elim_inr] at hx
    refine bk_here ?_
    refine sq_n ?_
    refine wc_seq ?_
    refine wc_region ?_
    refine wv rfl (r_move rfl) ?_
    refine wv rfl (r_assign rfl) ?_
    refine wl_nil ?_
    refine sq_n ?_
    refine wc_ret ?_
    obtain rfl := Option.some.inj hx
    refine fin_ret [(.int .i64 k79)] ⟨rfl, trivial⟩ ?_
    replace hM := hM.t1
    have hM := hM.fewer rsN
    exact ⟨(), rfl, hM.gives⟩

noncomputable def x_laws_markPartS_b0 (k56 : Int) (i57 : Int) (l58 : List DPart) : Option (Lr (Int × Int × List DPart) (Int × List DPart)) :=
  bif decide (i57 < (l58.length : Int)) then (xg (0 ≤ i57 ∧ i57 < (l58.length : Int)) <| xg (inI (k56 + 1)) <| xg (0 ≤ i57 ∧ i57 < ((l58.set i57.toNat (⟨k56, (el l58 i57.toNat).n, (el l58 i57.toNat).signs⟩ : DPart)).length : Int)) <| xg (inI ((k56 + 1) + 1)) <| xg (0 ≤ i57 ∧ i57 < (((l58.set i57.toNat (⟨k56, (el l58 i57.toNat).n, (el l58 i57.toNat).signs⟩ : DPart)).set i57.toNat (⟨(el (l58.set i57.toNat (⟨k56, (el l58 i57.toNat).n, (el l58 i57.toNat).signs⟩ : DPart)) i57.toNat).kind, k56 + 1, (el (l58.set i57.toNat (⟨k56, (el l58 i57.toNat).n, (el l58 i57.toNat).signs⟩ : DPart)) i57.toNat).signs⟩ : DPart)).length : Int)) <| Option.bind (x_laws_markIntS ((el ((l58.set i57.toNat (⟨k56, (el l58 i57.toNat).n, (el l58 i57.toNat).signs⟩ : DPart)).set i57.toNat (⟨(el (l58.set i57.toNat (⟨k56, (el l58 i57.toNat).n, (el l58 i57.toNat).signs⟩ : DPart)) i57.toNat).kind, k56 + 1, (el (l58.set i57.toNat (⟨k56, (el l58 i57.toNat).n, (el l58 i57.toNat).signs⟩ : DPart)) i57.toNat).signs⟩ : DPart)) i57.toNat).signs) ((k56 + 1) + 1)) fun r152 => xg (inI (i57 + 1)) <| some (Lr.go (r152.1, i57 + 1, ((l58.set i57.toNat (⟨k56, (el l58 i57.toNat).n, (el l58 i57.toNat).signs⟩ : DPart)).set i57.toNat (⟨(el (l58.set i57.toNat (⟨k56, (el l58 i57.toNat).n, (el l58 i57.toNat).signs⟩ : DPart)) i57.toNat).kind, k56 + 1, (el (l58.set i57.toNat (⟨k56, (el l58 i57.toNat).n, (el l58 i57.toNat).signs⟩ : DPart)) i57.toNat).signs⟩ : DPart)).set i57.toNat (⟨(el ((l58.set i57.toNat (⟨k56, (el l58 i57.toNat).n, (el l58 i57.toNat).signs⟩ : DPart)).set i57.toNat (⟨(el (l58.set i57.toNat (⟨k56, (el l58 i57.toNat).n, (el l58 i57.toNat).signs⟩ : DPart)) i57.toNat).kind, k56 + 1, (el (l58.set i57.toNat (⟨k56, (el l58 i57.toNat).n, (el l58 i57.toNat).signs⟩ : DPart)) i57.toNat).signs⟩ : DPart)) i57.toNat).kind, (el ((l58.set i57.toNat (⟨k56, (el l58 i57.toNat).n, (el l58 i57.toNat).signs⟩ : DPart)).set i57.toNat (⟨(el (l58.set i57.toNat (⟨k56, (el l58 i57.toNat).n, (el l58 i57.toNat).signs⟩ : DPart)) i57.toNat).kind, k56 + 1, (el (l58.set i57.toNat (⟨k56, (el l58 i57.toNat).n, (el l58 i57.toNat).signs⟩ : DPart)) i57.toNat).signs⟩ : DPart)) i57.toNat).n, r152.2⟩ : DPart)))) else (some (Lr.out (k56, l58)))
noncomputable def x_laws_markPartS_f0 (s160 : Int × Int × List DPart) : Option (Lr (Int × Int × List DPart) (Int × List DPart)) := x_laws_markPartS_b0 s160.1 s160.2.1 s160.2.2
noncomputable def x_laws_markPartS (a : List DPart) (k : Int) : Option (Int × List DPart) :=
  Option.bind (iter (x_laws_markPartS_f0) (k, 0, a)) fun (y161 : Int × List DPart) => some (y161.1, y161.2)
theorem ct_laws_markPartS (w : World) (X S : Bs) (a : List DPart) (s_a : Sv) (k : Int) (hS : ∀ b, S b → b < w.heap.size ∧ ¬ X b)  (oL : Sep [oC (cSl 3 fDPart a) s_a.v] X w) {r : Int × List DPart} (hx : x_laws_markPartS a k = some r) :
    Ret Try.prog 21 [s_a.v, (.int .i64 k)] w (fun u w' => ∃ _ : Unit, u = (.int .i64 r.1) ∧ Gives X S w [oC (cSl 3 fDPart r.2) s_a.v] [] w') := by
  unfold x_laws_markPartS at hx
  refine enter Try.func21 rfl Try.ntmps21 (by kernel_rfl) rfl ?_
  have hM := St.enter oL hS
  refine wc_seq ?_
  refine wc_region ?_
  refine wv rfl (r_assign rfl) ?_
  refine wl_nil ?_
  refine sq_n ?_
  refine wc_seq ?_
  refine wc_seq ?_
  refine wc_region ?_
  refine wv rfl (r_assign rfl) ?_
  refine wl_nil ?_
  refine sq_n ?_
  refine wc_block ?_
  obtain ⟨y167, hx, hx168⟩ := bind_some' hx
  obtain ⟨m174, hx⟩ := iter_run hx
  refine wc_loop (un fun (m172 : Nat) => un fun (k169 : Int) => un fun (i170 : Int) => fun (l171 : List DPart) => [(0, s_a.v), (1, (.int .i64 k169)), (5, (.int .i64 i170))]) (un fun (m172 : Nat) => un fun (k169 : Int) => un fun (i170 : Int) => fun (l171 : List DPart) w' => St ⟨w, X, S⟩ [oC (cSl 3 fDPart l171) s_a.v] [] w' ∧ iterN _ m172 (k169, i170, l171) = some y167) (fun p => p.1) (m174, k, 0, a) ⟨rfl, rfl, rfl, trivial⟩ ⟨hM, hx⟩ ?_
  rintro ⟨m172, k169, i170, l171⟩ w175 ⟨hM, hx⟩
  obtain ⟨m176, z177, rfl, hx, hx178⟩ := iterN_step hx
  unfold x_laws_markPartS_f0 x_laws_markPartS_b0 at hx
  try dsimp only at hx
  refine wc_seq ?_
  refine wc_seq ?_
  refine wc_region ?_
  refine wv rfl (r_move rfl) ?_
  refine wv rfl (r_move rfl) ?_
  refine wv rfl (r_lenC Try.underlying26 rfl (hM.seeO (.head _))) ?_
  refine wv rfl (r_lss rfl rfl) ?_
  refine wl_nil ?_
  refine sq_n ?_
  refine wc_cond rfl (fun hc183 => ?_) (fun hc183 => ?_)
  · replace hx := xif_t hc183 hx
    refine wc_skip ?_
    refine sq_n ?_
    refine wc_seq ?_
    refine wc_block ?_
    refine wc_seq ?_
    refine wc_region ?_
    refine wv rfl (r_move rfl) ?_
    refine wv rfl (r_move rfl) ?_
    refine wv rfl (r_move rfl) ?_
    obtain ⟨hg189, hx⟩ := xg_some hx
    have hi188 : i170.toNat < l171.length := by omega
    refine wv rfl (r_ixC Try.underlying26 sz79 rfl rfl (hM.seeO (.head _)) hg189) ?_
    refine wv rfl (r_fldC (i := i170.toNat) Try.underlying79 rfl rfl sz3 rfl (hM.seeO (.head _)) hi188) ?_
    refine w_exu (x_stE (f := fDPart) (k := 3) (L := l171) (i := i170.toNat) (j := 0) (⟨k169, (el l171 i170.toNat).n, (el l171 i170.toNat).signs⟩ : DPart) [cI k169] sz3 (fun _ => rfl) rfl rfl hi188 rfl rfl rfl rfl rfl (fun _ => zP (pV _ rfl) zN) hM ?_); intro w191 hM
    refine wl_nil ?_
    refine sq_n ?_
    refine wc_seq ?_
    refine wc_region ?_
    refine wv rfl (r_move rfl) ?_
    obtain ⟨hg195, hx⟩ := xg_some hx
    refine wv rfl (r_add rfl rfl hg195) ?_
    refine wv rfl (r_assign rfl) ?_
    refine wl_nil ?_
    refine sq_n ?_
    refine wc_seq ?_
    refine wc_region ?_
    refine wv rfl (r_move rfl) ?_
    refine wv rfl (r_move rfl) ?_
    refine wv rfl (r_move rfl) ?_
    obtain ⟨hg202, hx⟩ := xg_some hx
    have hi201 : i170.toNat < (l171.set i170.toNat (⟨k169, (el l171 i170.toNat).n, (el l171 i170.toNat).signs⟩ : DPart)).length := by omega
    refine wv rfl (r_ixC Try.underlying26 sz79 rfl rfl (hM.seeO (.head _)) hg202) ?_
    refine wv rfl (r_fldC (i := i170.toNat) Try.underlying79 rfl rfl sz3 rfl (hM.seeO (.head _)) hi201) ?_
    refine w_exu (x_stE (f := fDPart) (k := 3) (L := (l171.set i170.toNat (⟨k169, (el l171 i170.toNat).n, (el l171 i170.toNat).signs⟩ : DPart))) (i := i170.toNat) (j := 1) (⟨(el (l171.set i170.toNat (⟨k169, (el l171 i170.toNat).n, (el l171 i170.toNat).signs⟩ : DPart)) i170.toNat).kind, k169 + 1, (el (l171.set i170.toNat (⟨k169, (el l171 i170.toNat).n, (el l171 i170.toNat).signs⟩ : DPart)) i170.toNat).signs⟩ : DPart) [cI (k169 + 1)] sz3 (fun _ => rfl) rfl rfl hi201 rfl rfl rfl rfl rfl (fun _ => zP (pV _ rfl) zN) hM ?_); intro w204 hM
    refine wl_nil ?_
    refine sq_n ?_
    refine wc_seq ?_
    refine wc_region ?_
    refine wv rfl (r_move rfl) ?_
    obtain ⟨hg208, hx⟩ := xg_some hx
    refine wv rfl (r_add rfl rfl hg208) ?_
    refine wv rfl (r_assign rfl) ?_
    refine wl_nil ?_
    refine sq_n ?_
    refine wc_region ?_
    refine wv rfl (r_move rfl) ?_
    refine wv rfl (r_move rfl) ?_
    obtain ⟨hg214, hx⟩ := xg_some hx
    have hi213 : i170.toNat < ((l171.set i170.toNat (⟨k169, (el l171 i170.toNat).n, (el l171 i170.toNat).signs⟩ : DPart)).set i170.toNat (⟨(el (l171.set i170.toNat (⟨k169, (el l171 i170.toNat).n, (el l171 i170.toNat).signs⟩ : DPart)) i170.toNat).kind, k169 + 1, (el (l171.set i170.toNat (⟨k169, (el l171 i170.toNat).n, (el l171 i170.toNat).signs⟩ : DPart)) i170.toNat).signs⟩ : DPart)).length := by omega
    refine wv rfl (r_ixC Try.underlying26 sz79 rfl rfl (hM.seeO (.head _)) hg214) ?_
    refine wv rfl (r_fldC (i := i170.toNat) Try.underlying79 rfl rfl sz24 rfl (hM.seeO (.head _)) hi213) ?_
    obtain ⟨s217, hM, hc218⟩ := hM.leafO (i := i170.toNat) (j := 2) (fun _ => rfl) hi213 rfl
    refine wv rfl (r_ld Try.underlying24 rfl rfl (hc218 _ (Rel.refl _))) ?_
    refine wv rfl (r_move rfl) ?_
    have hM := hM.open (i := i170.toNat) (j := 2) (.tail _ (.head _)) (fun _ => rfl) hi213 rfl
    obtain ⟨r222, h223, hx⟩ := bind_some' hx
    refine w_call rfl rfl (hM.callO (l := [oC (cSl 1 fI ((el ((l171.set i170.toNat (⟨k169, (el l171 i170.toNat).n, (el l171 i170.toNat).signs⟩ : DPart)).set i170.toNat (⟨(el (l171.set i170.toNat (⟨k169, (el l171 i170.toNat).n, (el l171 i170.toNat).signs⟩ : DPart)) i170.toNat).kind, k169 + 1, (el (l171.set i170.toNat (⟨k169, (el l171 i170.toNat).n, (el l171 i170.toNat).signs⟩ : DPart)) i170.toNat).signs⟩ : DPart)) i170.toNat).signs)) s217.v]) fun X S oL hS hR hO => ct_laws_markIntS _ X S ((el ((l171.set i170.toNat (⟨k169, (el l171 i170.toNat).n, (el l171 i170.toNat).signs⟩ : DPart)).set i170.toNat (⟨(el (l171.set i170.toNat (⟨k169, (el l171 i170.toNat).n, (el l171 i170.toNat).signs⟩ : DPart)) i170.toNat).kind, k169 + 1, (el (l171.set i170.toNat (⟨k169, (el l171 i170.toNat).n, (el l171 i170.toNat).signs⟩ : DPart)) i170.toNat).signs⟩ : DPart)) i170.toNat).signs) s217 ((k169 + 1) + 1) hS  oL h223) ?_
    rintro _ w224 ⟨_, rfl, hM⟩
    replace hM : St ⟨w, X, S⟩ [oC (cSl 1 fI r222.2) s217.v, oHo 3 fDPart ((l171.set i170.toNat (⟨k169, (el l171 i170.toNat).n, (el l171 i170.toNat).signs⟩ : DPart)).set i170.toNat (⟨(el (l171.set i170.toNat (⟨k169, (el l171 i170.toNat).n, (el l171 i170.toNat).signs⟩ : DPart)) i170.toNat).kind, k169 + 1, (el (l171.set i170.toNat (⟨k169, (el l171 i170.toNat).n, (el l171 i170.toNat).signs⟩ : DPart)) i170.toNat).signs⟩ : DPart)) s_a.v (i170.toNat * 3 + 2) s217.v] [] _ := hM
    have hM := hM.close (i := i170.toNat) (j := 2) (⟨(el ((l171.set i170.toNat (⟨k169, (el l171 i170.toNat).n, (el l171 i170.toNat).signs⟩ : DPart)).set i170.toNat (⟨(el (l171.set i170.toNat (⟨k169, (el l171 i170.toNat).n, (el l171 i170.toNat).signs⟩ : DPart)) i170.toNat).kind, k169 + 1, (el (l171.set i170.toNat (⟨k169, (el l171 i170.toNat).n, (el l171 i170.toNat).signs⟩ : DPart)) i170.toNat).signs⟩ : DPart)) i170.toNat).kind, (el ((l171.set i170.toNat (⟨k169, (el l171 i170.toNat).n, (el l171 i170.toNat).signs⟩ : DPart)).set i170.toNat (⟨(el (l171.set i170.toNat (⟨k169, (el l171 i170.toNat).n, (el l171 i170.toNat).signs⟩ : DPart)) i170.toNat).kind, k169 + 1, (el (l171.set i170.toNat (⟨k169, (el l171 i170.toNat).n, (el l171 i170.toNat).signs⟩ : DPart)) i170.toNat).signs⟩ : DPart)) i170.toNat).n, r222.2⟩ : DPart) (fun _ => rfl) hi213 rfl rfl
    refine wv rfl (r_assign rfl) ?_
    refine wl_nil ?_
    refine bk_n ?_
    refine sq_n ?_
    refine wc_region ?_
    refine wv rfl (r_move rfl) ?_
    obtain ⟨hg228, hx⟩ := xg_some hx
    refine wv rfl (r_add rfl rfl hg228) ?_
    refine wv rfl (r_assign rfl) ?_
    refine wl_nil ?_
    obtain rfl := Option.some.inj hx
    exact lp_end (m176, r222.1, i170 + 1, ((l171.set i170.toNat (⟨k169, (el l171 i170.toNat).n, (el l171 i170.toNat).signs⟩ : DPart)).set i170.toNat (⟨(el (l171.set i170.toNat (⟨k169, (el l171 i170.toNat).n, (el l171 i170.toNat).signs⟩ : DPart)) i170.toNat).kind, k169 + 1, (el (l171.set i170.toNat (⟨k169, (el l171 i170.toNat).n, (el l171 i170.toNat).signs⟩ : DPart)) i170.toNat).signs⟩ : DPart)).set i170.toNat (⟨(el ((l171.set i170.toNat (⟨k169, (el l171 i170.toNat).n, (el l171 i170.toNat).signs⟩ : DPart)).set i170.toNat (⟨(el (l171.set i170.toNat (⟨k169, (el l171 i170.toNat).n, (el l171 i170.toNat).signs⟩ : DPart)) i170.toNat).kind, k169 + 1, (el (l171.set i170.toNat (⟨k169, (el l171 i170.toNat).n, (el l171 i170.toNat).signs⟩ : DPart)) i170.toNat).signs⟩ : DPart)) i170.toNat).kind, (el ((l171.set i170.toNat (⟨k169, (el l171 i170.toNat).n, (el l171 i170.toNat).signs⟩ : DPart)).set i170.toNat (⟨(el (l171.set i170.toNat (⟨k169, (el l171 i170.toNat).n, (el l171 i170.toNat).signs⟩ : DPart)) i170.toNat).kind, k169 + 1, (el (l171.set i170.toNat (⟨k169, (el l171 i170.toNat).n, (el l171 i170.toNat).signs⟩ : DPart)) i170.toNat).signs⟩ : DPart)) i170.toNat).n, r222.2⟩ : DPart)) (Nat.lt_succ_self _) ⟨rfl, rfl, rfl, trivial⟩ ⟨hM, hx178⟩
  · replace hx := xif_f hc183 hx
    refine wc_exit ?_
    refine sq_exit ?_
    refine lp1_exit ?_
    obtain rfl := Option.some.inj hx
    obtain rfl := Option.some.inj hx178
    replace hx := hx168
    try dsimp only [Sum.elim_inl, Sum.elim_inr] at hx
    refine bk_here ?_
    refine sq_n ?_
    refine wc_seq ?_
    refine wc_region ?_
    refine wv rfl (r_move rfl) ?_
    refine wv rfl (r_assign rfl) ?_
    refine wl_nil ?_
    refine sq_n ?_
    refine wc_ret ?_
    obtain rfl := Option.some.inj hx
    refine fin_ret [(.int .i64 k169)] ⟨rfl, trivial⟩ ?_
    replace hM := hM.t1
    have hM := hM.fewer rsN
    exact ⟨(), rfl, hM.gives⟩

noncomputable def x_laws_markPartSS_b0 (k29 : Int) (i30 : Int) (l31 : List (List DPart)) : Option (Lr (Int × Int × List (List DPart)) (Int × List (List DPart))) :=
  bif decide (i30 < (l31.length : Int)) then (xg (0 ≤ i30 ∧ i30 < (l31.length : Int)) <| Option.bind (x_laws_markPartS (el l31 i30.toNat) k29) fun r71 => xg (inI (i30 + 1)) <| some (Lr.go (r71.1, i30 + 1, l31.set i30.toNat r71.2))) else (some (Lr.out (k29, l31)))
noncomputable def x_laws_markPartSS_f0 (s79 : Int × Int × List (List DPart)) : Option (Lr (Int × Int × List (List DPart)) (Int × List (List DPart))) := x_laws_markPartSS_b0 s79.1 s79.2.1 s79.2.2
noncomputable def x_laws_markPartSS (a : List (List DPart)) (k : Int) : Option (Int × List (List DPart)) :=
  Option.bind (iter (x_laws_markPartSS_f0) (k, 0, a)) fun (y80 : Int × List (List DPart)) => some (y80.1, y80.2)
theorem ct_laws_markPartSS (w : World) (X S : Bs) (a : List (List DPart)) (s_a : Sv) (k : Int) (hS : ∀ b, S b → b < w.heap.size ∧ ¬ X b)  (oL : Sep [oC (cSl 1 fLDPart a) s_a.v] X w) {r : Int × List (List DPart)} (hx : x_laws_markPartSS a k = some r) :
    Ret Try.prog 102 [s_a.v, (.int .i64 k)] w (fun u w' => ∃ _ : Unit, u = (.int .i64 r.1) ∧ Gives X S w [oC (cSl 1 fLDPart r.2) s_a.v] [] w') := by
  unfold x_laws_markPartSS at hx
  refine enter Try.func102 rfl Try.ntmps102 (by kernel_rfl) rfl ?_
  have hM := St.enter oL hS
  refine wc_seq ?_
  refine wc_region ?_
  refine wv rfl (r_assign rfl) ?_
  refine wl_nil ?_
  refine sq_n ?_
  refine wc_seq ?_
  refine wc_seq ?_
  refine wc_region ?_
  refine wv rfl (r_assign rfl) ?_
  refine wl_nil ?_
  refine sq_n ?_
  refine wc_block ?_
  obtain ⟨y86, hx, hx87⟩ := bind_some' hx
  obtain ⟨m93, hx⟩ := iter_run hx
  refine wc_loop (un fun (m91 : Nat) => un fun (k88 : Int) => un fun (i89 : Int) => fun (l90 : List (List DPart)) => [(0, s_a.v), (1, (.int .i64 k88)), (5, (.int .i64 i89))]) (un fun (m91 : Nat) => un fun (k88 : Int) => un fun (i89 : Int) => fun (l90 : List (List DPart)) w' => St ⟨w, X, S⟩ [oC (cSl 1 fLDPart l90) s_a.v] [] w' ∧ iterN _ m91 (k88, i89, l90) = some y86) (fun p => p.1) (m93, k, 0, a) ⟨rfl, rfl, rfl, trivial⟩ ⟨hM, hx⟩ ?_
  rintro ⟨m91, k88, i89, l90⟩ w94 ⟨hM, hx⟩
  obtain ⟨m95, z96, rfl, hx, hx97⟩ := iterN_step hx
  unfold x_laws_markPartSS_f0 x_laws_markPartSS_b0 at hx
  try dsimp only at hx
  refine wc_seq ?_
  refine wc_seq ?_
  refine wc_region ?_
  refine wv rfl (r_move rfl) ?_
  refine wv rfl (r_move rfl) ?_
  refine wv rfl (r_lenC Try.underlying46 rfl (hM.seeO (.head _))) ?_
  refine wv rfl (r_lss rfl rfl) ?_
  refine wl_nil ?_
  refine sq_n ?_
  refine wc_cond rfl (fun hc102 => ?_) (fun hc102 => ?_)
  · replace hx := xif_t hc102 hx
    refine wc_skip ?_
    refine sq_n ?_
    refine wc_seq ?_
    refine wc_block ?_
    refine wc_region ?_
    refine wv rfl (r_move rfl) ?_
    refine wv rfl (r_move rfl) ?_
    obtain ⟨hg107, hx⟩ := xg_some hx
    have hi106 : i89.toNat < l90.length := by omega
    refine wv rfl (r_ixC Try.underlying46 sz26 rfl rfl (hM.seeO (.head _)) hg107) ?_
    obtain ⟨s109, hM, hc110⟩ := hM.leafO (i := i89.toNat) (j := 0) (fun _ => rfl) hi106 rfl
    refine wv rfl (r_ld Try.underlying26 rfl rfl (hc110 _ (Rel.refl _))) ?_
    refine wv rfl (r_move rfl) ?_
    have hM := hM.open (i := i89.toNat) (j := 0) (.tail _ (.head _)) (fun _ => rfl) hi106 rfl
    obtain ⟨r114, h115, hx⟩ := bind_some' hx
    refine w_call rfl rfl (hM.callO (l := [oC (cSl 3 fDPart (el l90 i89.toNat)) s109.v]) fun X S oL hS hR hO => ct_laws_markPartS _ X S (el l90 i89.toNat) s109 k88 hS  oL h115) ?_
    rintro _ w116 ⟨_, rfl, hM⟩
    replace hM : St ⟨w, X, S⟩ [oC (cSl 3 fDPart r114.2) s109.v, oHo 1 fLDPart l90 s_a.v (i89.toNat * 1 + 0) s109.v] [] _ := hM
    have hM := hM.close (i := i89.toNat) (j := 0) r114.2 (fun _ => rfl) hi106 rfl rfl
    refine wv rfl (r_assign rfl) ?_
    refine wl_nil ?_
    refine bk_n ?_
    refine sq_n ?_
    refine wc_region ?_
    refine wv rfl (r_move rfl) ?_
    obtain ⟨hg120, hx⟩ := xg_some hx
    refine wv rfl (r_add rfl rfl hg120) ?_
    refine wv rfl (r_assign rfl) ?_
    refine wl_nil ?_
    obtain rfl := Option.some.inj hx
    exact lp_end (m95, r114.1, i89 + 1, l90.set i89.toNat r114.2) (Nat.lt_succ_self _) ⟨rfl, rfl, rfl, trivial⟩ ⟨hM, hx97⟩
  · replace hx := xif_f hc102 hx
    refine wc_exit ?_
    refine sq_exit ?_
    refine lp1_exit ?_
    obtain rfl := Option.some.inj hx
    obtain rfl := Option.some.inj hx97
    replace hx := hx87
    try dsimp only [Sum.elim_inl, Sum.elim_inr] at hx
    refine bk_here ?_
    refine sq_n ?_
    refine wc_seq ?_
    refine wc_region ?_
    refine wv rfl (r_move rfl) ?_
    refine wv rfl (r_assign rfl) ?_
    refine wl_nil ?_
    refine sq_n ?_
    refine wc_ret ?_
    obtain rfl := Option.some.inj hx
    refine fin_ret [(.int .i64 k88)] ⟨rfl, trivial⟩ ?_
    replace hM := hM.t1
    have hM := hM.fewer rsN
    exact ⟨(), rfl, hM.gives⟩

noncomputable def x_laws_markStory (a : DStory) (k : Int) : Option (Int × DStory) :=
  Option.bind (x_laws_markPartSS a.undo k) fun r11 => Option.bind (x_laws_markPartSS a.redo r11.1) fun r18 => some (r18.1, (⟨a.n, r11.2, r18.2⟩ : DStory))
theorem ct_laws_markStory (w : World) (X S : Bs) (a : DStory) (s_a_1 : Sv) (s_a_2 : Sv) (k : Int) (hS : ∀ b, S b → b < w.heap.size ∧ ¬ X b)  (oL : Sep [oC (cSl 1 fLDPart a.undo) s_a_1.v, oC (cSl 1 fLDPart a.redo) s_a_2.v] X w) {r : Int × DStory} (hx : x_laws_markStory a k = some r) :
    Ret Try.prog 50 [(.agg #[(.int .i64 a.n), s_a_1.v, s_a_2.v]), (.int .i64 k)] w (fun u w' => ∃ _ : Unit, u = (.int .i64 r.1) ∧ Gives X S w [oC (cSl 1 fLDPart r.2.undo) s_a_1.v, oC (cSl 1 fLDPart r.2.redo) s_a_2.v] [] w') := by
  unfold x_laws_markStory at hx
  refine enter Try.func50 rfl Try.ntmps50 (by kernel_rfl) rfl ?_
  have hM := St.enter oL hS
  refine wc_seq ?_
  refine wc_region ?_
  refine w_ex rfl (x_box rfl hM ?_); intro b25 w24 hR26 hM
  replace hM : St ⟨w, X, S⟩ [oBox b25 #[(.int .i64 a.n), s_a_1.v, s_a_2.v] 48, oC (cSl 1 fLDPart a.undo) s_a_1.v, oC (cSl 1 fLDPart a.redo) s_a_2.v] [] _ := hM
  refine wv rfl (r_assign rfl) ?_
  refine wl_nil ?_
  refine sq_n ?_
  refine wc_seq ?_
  refine wc_region ?_
  refine wv rfl (r_fld Try.underlying48 rfl rfl sz46 rfl) ?_
  refine wv rfl (r_ldB Try.underlying46 rfl rfl hM (.head _) rfl) ?_
  refine wv rfl (r_move rfl) ?_
  replace hM := hM.p1
  obtain ⟨r32, h33, hx⟩ := bind_some' hx
  refine w_call rfl rfl (hM.callO (l := [oC (cSl 1 fLDPart a.undo) s_a_1.v]) fun X S oL hS hR hO => ct_laws_markPartSS _ X S a.undo s_a_1 k hS  oL h33) ?_
  rintro _ w34 ⟨_, rfl, hM⟩
  replace hM : St ⟨w, X, S⟩ [oC (cSl 1 fLDPart r32.2) s_a_1.v, oBox b25 #[(.int .i64 a.n), s_a_1.v, s_a_2.v] 48, oC (cSl 1 fLDPart a.redo) s_a_2.v] [] _ := hM
  refine wv rfl (r_assign rfl) ?_
  refine wl_nil ?_
  refine sq_n ?_
  refine wc_seq ?_
  refine wc_region ?_
  refine wv rfl (r_fld Try.underlying48 rfl rfl sz46 rfl) ?_
  refine wv rfl (r_ldB Try.underlying46 rfl rfl hM (.tail _ (.head _)) rfl) ?_
  refine wv rfl (r_move rfl) ?_
  replace hM := hM.p2
  obtain ⟨r39, h40, hx⟩ := bind_some' hx
  refine w_call rfl rfl (hM.callO (l := [oC (cSl 1 fLDPart a.redo) s_a_2.v]) fun X S oL hS hR hO => ct_laws_markPartSS _ X S a.redo s_a_2 r32.1 hS  oL h40) ?_
  rintro _ w41 ⟨_, rfl, hM⟩
  replace hM : St ⟨w, X, S⟩ [oC (cSl 1 fLDPart r39.2) s_a_2.v, oC (cSl 1 fLDPart r32.2) s_a_1.v, oBox b25 #[(.int .i64 a.n), s_a_1.v, s_a_2.v] 48] [] _ := hM
  refine wv rfl (r_assign rfl) ?_
  refine wl_nil ?_
  refine sq_n ?_
  refine wc_seq ?_
  refine wc_region ?_
  refine wv rfl (r_move rfl) ?_
  refine wv rfl (r_assign rfl) ?_
  refine wl_nil ?_
  refine sq_n ?_
  refine wc_ret ?_
  obtain rfl := Option.some.inj hx
  refine fin_ret [(.int .i64 r39.1)] ⟨rfl, trivial⟩ ?_
  replace hM := hM.p1
  replace hM := hM.t2
  have hM := hM.fewer rsN
  exact ⟨(), rfl, hM.gives⟩

noncomputable def x_laws_heldIntS_b0 (a : List Int) (k3 : Int) (i4 : Int) : Option (Lr (Int × Int) (Sum Int Int)) :=
  bif decide (i4 < (a.length : Int)) then (xg (0 ≤ i4 ∧ i4 < (a.length : Int)) <| bif !decide ((el a i4.toNat) = k3) then (some (Lr.out (Sum.inr (-1)))) else (xg (inI (k3 + 1)) <| xg (inI (i4 + 1)) <| some (Lr.go (k3 + 1, i4 + 1)))) else (some (Lr.out (Sum.inl k3)))
noncomputable def x_laws_heldIntS_f0 (a : List Int) (s47 : Int × Int) : Option (Lr (Int × Int) (Sum Int Int)) := x_laws_heldIntS_b0 a s47.1 s47.2
noncomputable def x_laws_heldIntS (a : List Int) (k : Int) : Option Int :=
  Option.bind (iter (x_laws_heldIntS_f0 a) (k, 0)) fun (y48 : Sum Int Int) => Sum.elim (fun y49 => some y49) (fun y50 => some y50) y48
theorem ct_laws_heldIntS (w : World) (X S : Bs) (a : List Int) (s_a : Sv) (k : Int) (hS : ∀ b, S b → b < w.heap.size ∧ ¬ X b) (a_a_0 : (cSl 1 fI a).rd S w s_a.v) (oL : Sep [] X w) {r : Int} (hx : x_laws_heldIntS a k = some r) :
    Ret Try.prog 23 [s_a.v, (.int .i64 k)] w (fun u w' => ∃ _ : Unit, u = (.int .i64 r) ∧ Gives X S w [] [] w') := by
  unfold x_laws_heldIntS at hx
  refine enter Try.func23 rfl Try.ntmps23 (by kernel_rfl) rfl ?_
  have hM := St.enter oL hS
  have hM := hM.addE (r := rV s_a.v (cSl 1 fI a)) a_a_0
  refine wc_seq ?_
  refine wc_region ?_
  refine wv rfl (r_assign rfl) ?_
  refine wl_nil ?_
  refine sq_n ?_
  refine wc_seq ?_
  refine wc_seq ?_
  refine wc_region ?_
  refine wv rfl (r_assign rfl) ?_
  refine wl_nil ?_
  refine sq_n ?_
  refine wc_block ?_
  obtain ⟨y55, hx, hx56⟩ := bind_some' hx
  obtain ⟨m61, hx⟩ := iter_run hx
  refine wc_loop (un fun (m59 : Nat) => un fun (k57 : Int) => fun (i58 : Int) => [(0, s_a.v), (1, (.int .i64 k57)), (5, (.int .i64 i58))]) (un fun (m59 : Nat) => un fun (k57 : Int) => fun (i58 : Int) w' => St ⟨w, X, S⟩ [] [rV s_a.v (cSl 1 fI a)] w' ∧ iterN _ m59 (k57, i58) = some y55) (fun p => p.1) (m61, k, 0) ⟨rfl, rfl, rfl, trivial⟩ ⟨hM, hx⟩ ?_
  rintro ⟨m59, k57, i58⟩ w62 ⟨hM, hx⟩
  obtain ⟨m63, z64, rfl, hx, hx65⟩ := iterN_step hx
  unfold x_laws_heldIntS_f0 x_laws_heldIntS_b0 at hx
  try dsimp only at hx
  refine wc_seq ?_
  refine wc_seq ?_
  refine wc_region ?_
  refine wv rfl (r_move rfl) ?_
  refine wv rfl (r_move rfl) ?_
  refine wv rfl (r_lenC Try.underlying24 rfl (hM.seeR (.head _))) ?_
  refine wv rfl (r_lss rfl rfl) ?_
  refine wl_nil ?_
  refine sq_n ?_
  refine wc_cond rfl (fun hc70 => ?_) (fun hc70 => ?_)
  · replace hx := xif_t hc70 hx
    refine wc_skip ?_
    refine sq_n ?_
    refine wc_seq ?_
    refine wc_block ?_
    refine wc_seq ?_
    refine wc_seq ?_
    refine wc_region ?_
    refine wv rfl (r_move rfl) ?_
    refine wv rfl (r_move rfl) ?_
    obtain ⟨hg75, hx⟩ := xg_some hx
    have hi74 : i58.toNat < a.length := by omega
    refine wv rfl (r_ixC Try.underlying24 sz3 rfl rfl (hM.seeR (.head _)) hg75) ?_
    refine wv rfl (r_ld Try.underlying3 rfl rfl (Cs.get (i := i58.toNat) (j := 0) (hM.seeR (.head _)) (fun _ => rfl) hi74 rfl)) ?_
    refine wv rfl (r_move rfl) ?_
    refine wv rfl (r_neq rfl rfl) ?_
    refine wl_nil ?_
    refine sq_n ?_
    refine wc_cond rfl (fun hc79 => ?_) (fun hc79 => ?_)
    · replace hx := xif_t hc79 hx
      refine wc_seq ?_
      refine wc_region ?_
      refine wv rfl (r_assign rfl) ?_
      refine wl_nil ?_
      refine sq_n ?_
      refine wc_ret ?_
      refine sq_ret ?_
      refine bk_ret ?_
      refine sq_ret ?_
      refine lp1_ret ?_
      obtain rfl := Option.some.inj hx
      obtain rfl := Option.some.inj hx65
      replace hx := hx56
      try dsimp only [Sum.elim_inl, Sum.elim_inr] at hx
      refine bk_ret ?_
      refine sq_ret ?_
      obtain rfl := Option.some.inj hx
      refine fin_ret [(.int .i64 (-1))] ⟨rfl, trivial⟩ ?_
      replace hM := hM.t0
      have hM := hM.fewer rsN
      exact ⟨(), rfl, hM.gives⟩
    · replace hx := xif_f hc79 hx
      refine wc_skip ?_
      refine sq_n ?_
      refine wc_region ?_
      refine wv rfl (r_move rfl) ?_
      obtain ⟨hg83, hx⟩ := xg_some hx
      refine wv rfl (r_add rfl rfl hg83) ?_
      refine wv rfl (r_assign rfl) ?_
      refine wl_nil ?_
      refine bk_n ?_
      refine sq_n ?_
      refine wc_region ?_
      refine wv rfl (r_move rfl) ?_
      obtain ⟨hg87, hx⟩ := xg_some hx
      refine wv rfl (r_add rfl rfl hg87) ?_
      refine wv rfl (r_assign rfl) ?_
      refine wl_nil ?_
      obtain rfl := Option.some.inj hx
      exact lp_end (m63, k57 + 1, i58 + 1) (Nat.lt_succ_self _) ⟨rfl, rfl, rfl, trivial⟩ ⟨hM, hx65⟩
  · replace hx := xif_f hc70 hx
    refine wc_exit ?_
    refine sq_exit ?_
    refine lp1_exit ?_
    obtain rfl := Option.some.inj hx
    obtain rfl := Option.some.inj hx65
    replace hx := hx56
    try dsimp only [Sum.elim_inl, Sum.elim_inr] at hx
    refine bk_here ?_
    refine sq_n ?_
    refine wc_seq ?_
    refine wc_region ?_
    refine wv rfl (r_move rfl) ?_
    refine wv rfl (r_assign rfl) ?_
    refine wl_nil ?_
    refine sq_n ?_
    refine wc_ret ?_
    obtain rfl := Option.some.inj hx
    refine fin_ret [(.int .i64 k57)] ⟨rfl, trivial⟩ ?_
    replace hM := hM.t0
    have hM := hM.fewer rsN
    exact ⟨(), rfl, hM.gives⟩

noncomputable def x_laws_heldPartS_b0 (a : List DPart) (k3 : Int) (i4 : Int) : Option (Lr (Int × Int) (Sum Int Int)) :=
  bif decide (i4 < (a.length : Int)) then (xg (0 ≤ i4 ∧ i4 < (a.length : Int)) <| bif !decide (((el a i4.toNat).kind) = k3) then (some (Lr.out (Sum.inr (-1)))) else (xg (inI (k3 + 1)) <| xg (0 ≤ i4 ∧ i4 < (a.length : Int)) <| bif !decide (((el a i4.toNat).n) = (k3 + 1)) then (some (Lr.out (Sum.inr (-1)))) else (xg (inI ((k3 + 1) + 1)) <| xg (0 ≤ i4 ∧ i4 < (a.length : Int)) <| Option.bind (x_laws_heldIntS ((el a i4.toNat).signs) ((k3 + 1) + 1)) fun r101 => bif decide (r101 < 0) then (some (Lr.out (Sum.inr (-1)))) else (xg (inI (i4 + 1)) <| some (Lr.go (r101, i4 + 1)))))) else (some (Lr.out (Sum.inl k3)))
noncomputable def x_laws_heldPartS_f0 (a : List DPart) (s113 : Int × Int) : Option (Lr (Int × Int) (Sum Int Int)) := x_laws_heldPartS_b0 a s113.1 s113.2
noncomputable def x_laws_heldPartS (a : List DPart) (k : Int) : Option Int :=
  Option.bind (iter (x_laws_heldPartS_f0 a) (k, 0)) fun (y114 : Sum Int Int) => Sum.elim (fun y115 => some y115) (fun y116 => some y116) y114
theorem ct_laws_heldPartS (w : World) (X S : Bs) (a : List DPart) (s_a : Sv) (k : Int) (hS : ∀ b, S b → b < w.heap.size ∧ ¬ X b) (a_a_0 : (cSl 3 fDPart a).rd S w s_a.v) (oL : Sep [] X w) {r : Int} (hx : x_laws_heldPartS a k = some r) :
    Ret Try.prog 31 [s_a.v, (.int .i64 k)] w (fun u w' => ∃ _ : Unit, u = (.int .i64 r) ∧ Gives X S w [] [] w') := by
  unfold x_laws_heldPartS at hx
  refine enter Try.func31 rfl Try.ntmps31 (by kernel_rfl) rfl ?_
  have hM := St.enter oL hS
  have hM := hM.addE (r := rV s_a.v (cSl 3 fDPart a)) a_a_0
  refine wc_seq ?_
  refine wc_region ?_
  refine wv rfl (r_assign rfl) ?_
  refine wl_nil ?_
  refine sq_n ?_
  refine wc_seq ?_
  refine wc_seq ?_
  refine wc_region ?_
  refine wv rfl (r_assign rfl) ?_
  refine wl_nil ?_
  refine sq_n ?_
  refine wc_block ?_
  obtain ⟨y121, hx, hx122⟩ := bind_some' hx
  obtain ⟨m127, hx⟩ := iter_run hx
  refine wc_loop (un fun (m125 : Nat) => un fun (k123 : Int) => fun (i124 : Int) => [(0, s_a.v), (1, (.int .i64 k123)), (5, (.int .i64 i124))]) (un fun (m125 : Nat) => un fun (k123 : Int) => fun (i124 : Int) w' => St ⟨w, X, S⟩ [] [rV s_a.v (cSl 3 fDPart a)] w' ∧ iterN _ m125 (k123, i124) = some y121) (fun p => p.1) (m127, k, 0) ⟨rfl, rfl, rfl, trivial⟩ ⟨hM, hx⟩ ?_
  rintro ⟨m125, k123, i124⟩ w128 ⟨hM, hx⟩
  obtain ⟨m129, z130, rfl, hx, hx131⟩ := iterN_step hx
  unfold x_laws_heldPartS_f0 x_laws_heldPartS_b0 at hx
  try dsimp only at hx
  refine wc_seq ?_
  refine wc_seq ?_
  refine wc_region ?_
  refine wv rfl (r_move rfl) ?_
  refine wv rfl (r_move rfl) ?_
  refine wv rfl (r_lenC Try.underlying26 rfl (hM.seeR (.head _))) ?_
  refine wv rfl (r_lss rfl rfl) ?_
  refine wl_nil ?_
  refine sq_n ?_
  refine wc_cond rfl (fun hc136 => ?_) (fun hc136 => ?_)
  · replace hx := xif_t hc136 hx
    refine wc_skip ?_
    refine sq_n ?_
    refine wc_seq ?_
    refine wc_block ?_
    refine wc_seq ?_
    refine wc_seq ?_
    refine wc_region ?_
    refine wv rfl (r_move rfl) ?_
    refine wv rfl (r_move rfl) ?_
    obtain ⟨hg141, hx⟩ := xg_some hx
    have hi140 : i124.toNat < a.length := by omega
    refine wv rfl (r_ixC Try.underlying26 sz79 rfl rfl (hM.seeR (.head _)) hg141) ?_
    refine wv rfl (r_fldC (i := i124.toNat) Try.underlying79 rfl rfl sz3 rfl (hM.seeR (.head _)) hi140) ?_
    refine wv rfl (r_ld Try.underlying3 rfl rfl (Cs.get (i := i124.toNat) (j := 0) (hM.seeR (.head _)) (fun _ => rfl) hi140 rfl)) ?_
    refine wv rfl (r_move rfl) ?_
    refine wv rfl (r_neq rfl rfl) ?_
    refine wl_nil ?_
    refine sq_n ?_
    refine wc_cond rfl (fun hc146 => ?_) (fun hc146 => ?_)
    · replace hx := xif_t hc146 hx
      refine wc_seq ?_
      refine wc_region ?_
      refine wv rfl (r_assign rfl) ?_
      refine wl_nil ?_
      refine sq_n ?_
      refine wc_ret ?_
      refine sq_ret ?_
      refine bk_ret ?_
      refine sq_ret ?_
      refine lp1_ret ?_
      obtain rfl := Option.some.inj hx
      obtain rfl := Option.some.inj hx131
      replace hx := hx122
      try dsimp only [Sum.elim_inl, Sum.elim_inr] at hx
      refine bk_ret ?_
      refine sq_ret ?_
      obtain rfl := Option.some.inj hx
      refine fin_ret [(.int .i64 (-1))] ⟨rfl, trivial⟩ ?_
      replace hM := hM.t0
      have hM := hM.fewer rsN
      exact ⟨(), rfl, hM.gives⟩
    · replace hx := xif_f hc146 hx
      refine wc_skip ?_
      refine sq_n ?_
      refine wc_seq ?_
      refine wc_region ?_
      refine wv rfl (r_move rfl) ?_
      obtain ⟨hg150, hx⟩ := xg_some hx
      refine wv rfl (r_add rfl rfl hg150) ?_
      refine wv rfl (r_assign rfl) ?_
      refine wl_nil ?_
      refine sq_n ?_
      refine wc_seq ?_
      refine wc_seq ?_
      refine wc_region ?_
      refine wv rfl (r_move rfl) ?_
      refine wv rfl (r_move rfl) ?_
      obtain ⟨hg156, hx⟩ := xg_some hx
      have hi155 : i124.toNat < a.length := by omega
      refine wv rfl (r_ixC Try.underlying26 sz79 rfl rfl (hM.seeR (.head _)) hg156) ?_
      refine wv rfl (r_fldC (i := i124.toNat) Try.underlying79 rfl rfl sz3 rfl (hM.seeR (.head _)) hi155) ?_
      refine wv rfl (r_ld Try.underlying3 rfl rfl (Cs.get (i := i124.toNat) (j := 1) (hM.seeR (.head _)) (fun _ => rfl) hi155 rfl)) ?_
      refine wv rfl (r_move rfl) ?_
      refine wv rfl (r_neq rfl rfl) ?_
      refine wl_nil ?_
      refine sq_n ?_
      refine wc_cond rfl (fun hc161 => ?_) (fun hc161 => ?_)
      · replace hx := xif_t hc161 hx
        refine wc_seq ?_
        refine wc_region ?_
        refine wv rfl (r_assign rfl) ?_
        refine wl_nil ?_
        refine sq_n ?_
        refine wc_ret ?_
        refine sq_ret ?_
        refine bk_ret ?_
        refine sq_ret ?_
        refine lp1_ret ?_
        obtain rfl := Option.some.inj hx
        obtain rfl := Option.some.inj hx131
        replace hx := hx122
        try dsimp only [Sum.elim_inl, Sum.elim_inr] at hx
        refine bk_ret ?_
        refine sq_ret ?_
        obtain rfl := Option.some.inj hx
        refine fin_ret [(.int .i64 (-1))] ⟨rfl, trivial⟩ ?_
        replace hM := hM.t0
        have hM := hM.fewer rsN
        exact ⟨(), rfl, hM.gives⟩
      · replace hx := xif_f hc161 hx
        refine wc_skip ?_
        refine sq_n ?_
        refine wc_seq ?_
        refine wc_region ?_
        refine wv rfl (r_move rfl) ?_
        obtain ⟨hg165, hx⟩ := xg_some hx
        refine wv rfl (r_add rfl rfl hg165) ?_
        refine wv rfl (r_assign rfl) ?_
        refine wl_nil ?_
        refine sq_n ?_
        refine wc_seq ?_
        refine wc_region ?_
        refine wv rfl (r_move rfl) ?_
        refine wv rfl (r_move rfl) ?_
        obtain ⟨hg171, hx⟩ := xg_some hx
        have hi170 : i124.toNat < a.length := by omega
        refine wv rfl (r_ixC Try.underlying26 sz79 rfl rfl (hM.seeR (.head _)) hg171) ?_
        refine wv rfl (r_fldC (i := i124.toNat) Try.underlying79 rfl rfl sz24 rfl (hM.seeR (.head _)) hi170) ?_
        obtain ⟨s174, hM, hc175⟩ := hM.leaf (i := i124.toNat) (j := 2) (.head _) (fun _ => rfl) hi170 rfl
        refine wv rfl (r_ld Try.underlying24 rfl rfl (hc175 _ (Rel.refl _))) ?_
        refine wv rfl (r_move rfl) ?_
        obtain ⟨r177, h178, hx⟩ := bind_some' hx
        refine w_call rfl rfl (hM.callV fun X S oL hS hR hO => ct_laws_heldIntS _ X S ((el a i124.toNat).signs) s174 ((k123 + 1) + 1) hS (hR _ (.head _)) oL h178) ?_
        rintro _ w179 ⟨rfl, hR180⟩
        have hM := hM.call hR180
        refine wv rfl (r_assign rfl) ?_
        refine wl_nil ?_
        refine sq_n ?_
        refine wc_seq ?_
        refine wc_region ?_
        refine wv rfl (r_move rfl) ?_
        refine wv rfl (r_lss rfl rfl) ?_
        refine wl_nil ?_
        refine sq_n ?_
        refine wc_cond rfl (fun hc184 => ?_) (fun hc184 => ?_)
        · replace hx := xif_t hc184 hx
          refine wc_seq ?_
          refine wc_region ?_
          refine wv rfl (r_assign rfl) ?_
          refine wl_nil ?_
          refine sq_n ?_
          refine wc_ret ?_
          refine bk_ret ?_
          refine sq_ret ?_
          refine lp1_ret ?_
          obtain rfl := Option.some.inj hx
          obtain rfl := Option.some.inj hx131
          replace hx := hx122
          try dsimp only [Sum.elim_inl, Sum.elim_inr] at hx
          refine bk_ret ?_
          refine sq_ret ?_
          obtain rfl := Option.some.inj hx
          refine fin_ret [(.int .i64 (-1))] ⟨rfl, trivial⟩ ?_
          replace hM := hM.t0
          have hM := hM.fewer rsN
          exact ⟨(), rfl, hM.gives⟩
        · replace hx := xif_f hc184 hx
          refine wc_skip ?_
          refine bk_n ?_
          refine sq_n ?_
          refine wc_region ?_
          refine wv rfl (r_move rfl) ?_
          obtain ⟨hg188, hx⟩ := xg_some hx
          refine wv rfl (r_add rfl rfl hg188) ?_
          refine wv rfl (r_assign rfl) ?_
          refine wl_nil ?_
          obtain rfl := Option.some.inj hx
          have hM := hM.fewer (rsC (.tail _ (.head _)) rsN)
          replace hM : St ⟨w, X, S⟩ [] [rV s_a.v (cSl 3 fDPart a)] _ := hM
          exact lp_end (m129, r177, i124 + 1) (Nat.lt_succ_self _) ⟨rfl, rfl, rfl, trivial⟩ ⟨hM, hx131⟩
  · replace hx := xif_f hc136 hx
    refine wc_exit ?_
    refine sq_exit ?_
    refine lp1_exit ?_
    obtain rfl := Option.some.inj hx
    obtain rfl := Option.some.inj hx131
    replace hx := hx122
    try dsimp only [Sum.elim_inl, Sum.elim_inr] at hx
    refine bk_here ?_
    refine sq_n ?_
    refine wc_seq ?_
    refine wc_region ?_
    refine wv rfl (r_move rfl) ?_
    refine wv rfl (r_assign rfl) ?_
    refine wl_nil ?_
    refine sq_n ?_
    refine wc_ret ?_
    obtain rfl := Option.some.inj hx
    refine fin_ret [(.int .i64 k123)] ⟨rfl, trivial⟩ ?_
    replace hM := hM.t0
    have hM := hM.fewer rsN
    exact ⟨(), rfl, hM.gives⟩

noncomputable def x_laws_heldPartSS_b0 (a : List (List DPart)) (k3 : Int) (i4 : Int) : Option (Lr (Int × Int) (Sum Int Int)) :=
  bif decide (i4 < (a.length : Int)) then (xg (0 ≤ i4 ∧ i4 < (a.length : Int)) <| Option.bind (x_laws_heldPartS (el a i4.toNat) k3) fun r43 => bif decide (r43 < 0) then (some (Lr.out (Sum.inr (-1)))) else (xg (inI (i4 + 1)) <| some (Lr.go (r43, i4 + 1)))) else (some (Lr.out (Sum.inl k3)))
noncomputable def x_laws_heldPartSS_f0 (a : List (List DPart)) (s55 : Int × Int) : Option (Lr (Int × Int) (Sum Int Int)) := x_laws_heldPartSS_b0 a s55.1 s55.2
noncomputable def x_laws_heldPartSS (a : List (List DPart)) (k : Int) : Option Int :=
  Option.bind (iter (x_laws_heldPartSS_f0 a) (k, 0)) fun (y56 : Sum Int Int) => Sum.elim (fun y57 => some y57) (fun y58 => some y58) y56
theorem ct_laws_heldPartSS (w : World) (X S : Bs) (a : List (List DPart)) (s_a : Sv) (k : Int) (hS : ∀ b, S b → b < w.heap.size ∧ ¬ X b) (a_a_0 : (cSl 1 fLDPart a).rd S w s_a.v) (oL : Sep [] X w) {r : Int} (hx : x_laws_heldPartSS a k = some r) :
    Ret Try.prog 103 [s_a.v, (.int .i64 k)] w (fun u w' => ∃ _ : Unit, u = (.int .i64 r) ∧ Gives X S w [] [] w') := by
  unfold x_laws_heldPartSS at hx
  refine enter Try.func103 rfl Try.ntmps103 (by kernel_rfl) rfl ?_
  have hM := St.enter oL hS
  have hM := hM.addE (r := rV s_a.v (cSl 1 fLDPart a)) a_a_0
  refine wc_seq ?_
  refine wc_region ?_
  refine wv rfl (r_assign rfl) ?_
  refine wl_nil ?_
  refine sq_n ?_
  refine wc_seq ?_
  refine wc_seq ?_
  refine wc_region ?_
  refine wv rfl (r_assign rfl) ?_
  refine wl_nil ?_
  refine sq_n ?_
  refine wc_block ?_
  obtain ⟨y63, hx, hx64⟩ := bind_some' hx
  obtain ⟨m69, hx⟩ := iter_run hx
  refine wc_loop (un fun (m67 : Nat) => un fun (k65 : Int) => fun (i66 : Int) => [(0, s_a.v), (1, (.int .i64 k65)), (5, (.int .i64 i66))]) (un fun (m67 : Nat) => un fun (k65 : Int) => fun (i66 : Int) w' => St ⟨w, X, S⟩ [] [rV s_a.v (cSl 1 fLDPart a)] w' ∧ iterN _ m67 (k65, i66) = some y63) (fun p => p.1) (m69, k, 0) ⟨rfl, rfl, rfl, trivial⟩ ⟨hM, hx⟩ ?_
  rintro ⟨m67, k65, i66⟩ w70 ⟨hM, hx⟩
  obtain ⟨m71, z72, rfl, hx, hx73⟩ := iterN_step hx
  unfold x_laws_heldPartSS_f0 x_laws_heldPartSS_b0 at hx
  try dsimp only at hx
  refine wc_seq ?_
  refine wc_seq ?_
  refine wc_region ?_
  refine wv rfl (r_move rfl) ?_
  refine wv rfl (r_move rfl) ?_
  refine wv rfl (r_lenC Try.underlying46 rfl (hM.seeR (.head _))) ?_
  refine wv rfl (r_lss rfl rfl) ?_
  refine wl_nil ?_
  refine sq_n ?_
  refine wc_cond rfl (fun hc78 => ?_) (fun hc78 => ?_)
  · replace hx := xif_t hc78 hx
    refine wc_skip ?_
    refine sq_n ?_
    refine wc_seq ?_
    refine wc_block ?_
    refine wc_seq ?_
    refine wc_region ?_
    refine wv rfl (r_move rfl) ?_
    refine wv rfl (r_move rfl) ?_
    obtain ⟨hg83, hx⟩ := xg_some hx
    have hi82 : i66.toNat < a.length := by omega
    refine wv rfl (r_ixC Try.underlying46 sz26 rfl rfl (hM.seeR (.head _)) hg83) ?_
    obtain ⟨s85, hM, hc86⟩ := hM.leaf (i := i66.toNat) (j := 0) (.head _) (fun _ => rfl) hi82 rfl
    refine wv rfl (r_ld Try.underlying26 rfl rfl (hc86 _ (Rel.refl _))) ?_
    refine wv rfl (r_move rfl) ?_
    obtain ⟨r88, h89, hx⟩ := bind_some' hx
    refine w_call rfl rfl (hM.callV fun X S oL hS hR hO => ct_laws_heldPartS _ X S (el a i66.toNat) s85 k65 hS (hR _ (.head _)) oL h89) ?_
    rintro _ w90 ⟨rfl, hR91⟩
    have hM := hM.call hR91
    refine wv rfl (r_assign rfl) ?_
    refine wl_nil ?_
    refine sq_n ?_
    refine wc_seq ?_
    refine wc_region ?_
    refine wv rfl (r_move rfl) ?_
    refine wv rfl (r_lss rfl rfl) ?_
    refine wl_nil ?_
    refine sq_n ?_
    refine wc_cond rfl (fun hc95 => ?_) (fun hc95 => ?_)
    · replace hx := xif_t hc95 hx
      refine wc_seq ?_
      refine wc_region ?_
      refine wv rfl (r_assign rfl) ?_
      refine wl_nil ?_
      refine sq_n ?_
      refine wc_ret ?_
      refine bk_ret ?_
      refine sq_ret ?_
      refine lp1_ret ?_
      obtain rfl := Option.some.inj hx
      obtain rfl := Option.some.inj hx73
      replace hx := hx64
      try dsimp only [Sum.elim_inl, Sum.elim_inr] at hx
      refine bk_ret ?_
      refine sq_ret ?_
      obtain rfl := Option.some.inj hx
      refine fin_ret [(.int .i64 (-1))] ⟨rfl, trivial⟩ ?_
      replace hM := hM.t0
      have hM := hM.fewer rsN
      exact ⟨(), rfl, hM.gives⟩
    · replace hx := xif_f hc95 hx
      refine wc_skip ?_
      refine bk_n ?_
      refine sq_n ?_
      refine wc_region ?_
      refine wv rfl (r_move rfl) ?_
      obtain ⟨hg99, hx⟩ := xg_some hx
      refine wv rfl (r_add rfl rfl hg99) ?_
      refine wv rfl (r_assign rfl) ?_
      refine wl_nil ?_
      obtain rfl := Option.some.inj hx
      have hM := hM.fewer (rsC (.tail _ (.head _)) rsN)
      replace hM : St ⟨w, X, S⟩ [] [rV s_a.v (cSl 1 fLDPart a)] _ := hM
      exact lp_end (m71, r88, i66 + 1) (Nat.lt_succ_self _) ⟨rfl, rfl, rfl, trivial⟩ ⟨hM, hx73⟩
  · replace hx := xif_f hc78 hx
    refine wc_exit ?_
    refine sq_exit ?_
    refine lp1_exit ?_
    obtain rfl := Option.some.inj hx
    obtain rfl := Option.some.inj hx73
    replace hx := hx64
    try dsimp only [Sum.elim_inl, Sum.elim_inr] at hx
    refine bk_here ?_
    refine sq_n ?_
    refine wc_seq ?_
    refine wc_region ?_
    refine wv rfl (r_move rfl) ?_
    refine wv rfl (r_assign rfl) ?_
    refine wl_nil ?_
    refine sq_n ?_
    refine wc_ret ?_
    obtain rfl := Option.some.inj hx
    refine fin_ret [(.int .i64 k65)] ⟨rfl, trivial⟩ ?_
    replace hM := hM.t0
    have hM := hM.fewer rsN
    exact ⟨(), rfl, hM.gives⟩

noncomputable def x_laws_heldStory (a : DStory) (k : Int) : Option Int :=
  Option.bind (x_laws_heldPartSS a.undo k) fun r9 => bif decide (r9 < 0) then (some (-1)) else (Option.bind (x_laws_heldPartSS a.redo r9) fun r20 => bif decide (r20 < 0) then (some (-1)) else (some r20))
theorem ct_laws_heldStory (w : World) (X S : Bs) (a : DStory) (s_a_1 : Sv) (s_a_2 : Sv) (k : Int) (hS : ∀ b, S b → b < w.heap.size ∧ ¬ X b) (a_a_1 : (cSl 1 fLDPart a.undo).rd S w s_a_1.v) (a_a_2 : (cSl 1 fLDPart a.redo).rd S w s_a_2.v) (oL : Sep [] X w) {r : Int} (hx : x_laws_heldStory a k = some r) :
    Ret Try.prog 51 [(.agg #[(.int .i64 a.n), s_a_1.v, s_a_2.v]), (.int .i64 k)] w (fun u w' => ∃ _ : Unit, u = (.int .i64 r) ∧ Gives X S w [] [] w') := by
  unfold x_laws_heldStory at hx
  refine enter Try.func51 rfl Try.ntmps51 (by kernel_rfl) rfl ?_
  have hM := St.enter oL hS
  have hM := hM.addE (r := rV s_a_1.v (cSl 1 fLDPart a.undo)) a_a_1
  have hM := hM.addE (r := rV s_a_2.v (cSl 1 fLDPart a.redo)) a_a_2
  refine wc_seq ?_
  refine wc_region ?_
  refine w_ex rfl (x_box rfl hM ?_); intro b31 w30 hR32 hM
  replace hM : St ⟨w, X, S⟩ [oBox b31 #[(.int .i64 a.n), s_a_1.v, s_a_2.v] 48] [rV s_a_2.v (cSl 1 fLDPart a.redo), rV s_a_1.v (cSl 1 fLDPart a.undo)] _ := hM
  refine wv rfl (r_assign rfl) ?_
  refine wl_nil ?_
  refine sq_n ?_
  refine wc_seq ?_
  refine wc_region ?_
  refine wv rfl (r_fld Try.underlying48 rfl rfl sz46 rfl) ?_
  refine wv rfl (r_ldB Try.underlying46 rfl rfl hM (.head _) rfl) ?_
  refine wv rfl (r_move rfl) ?_
  obtain ⟨r38, h39, hx⟩ := bind_some' hx
  refine w_call rfl rfl (hM.callV fun X S oL hS hR hO => ct_laws_heldPartSS _ X S a.undo s_a_1 k hS (hR _ (.tail _ (.head _))) oL h39) ?_
  rintro _ w40 ⟨rfl, hR41⟩
  have hM := hM.call hR41
  refine wv rfl (r_assign rfl) ?_
  refine wl_nil ?_
  refine sq_n ?_
  refine wc_seq ?_
  refine wc_seq ?_
  refine wc_region ?_
  refine wv rfl (r_move rfl) ?_
  refine wv rfl (r_lss rfl rfl) ?_
  refine wl_nil ?_
  refine sq_n ?_
  refine wc_cond rfl (fun hc45 => ?_) (fun hc45 => ?_)
  · replace hx := xif_t hc45 hx
    refine wc_seq ?_
    refine wc_region ?_
    refine wv rfl (r_assign rfl) ?_
    refine wl_nil ?_
    refine sq_n ?_
    refine wc_ret ?_
    refine sq_ret ?_
    obtain rfl := Option.some.inj hx
    refine fin_ret [(.int .i64 (-1))] ⟨rfl, trivial⟩ ?_
    replace hM := hM.t0
    have hM := hM.fewer rsN
    exact ⟨(), rfl, hM.gives⟩
  · replace hx := xif_f hc45 hx
    refine wc_skip ?_
    refine sq_n ?_
    refine wc_seq ?_
    refine wc_region ?_
    refine wv rfl (r_fld Try.underlying48 rfl rfl sz46 rfl) ?_
    refine wv rfl (r_ldB Try.underlying46 rfl rfl hM (.head _) rfl) ?_
    refine wv rfl (r_move rfl) ?_
    obtain ⟨r50, h51, hx⟩ := bind_some' hx
    refine w_call rfl rfl (hM.callV fun X S oL hS hR hO => ct_laws_heldPartSS _ X S a.redo s_a_2 r38 hS (hR _ (.head _)) oL h51) ?_
    rintro _ w52 ⟨rfl, hR53⟩
    have hM := hM.call hR53
    refine wv rfl (r_assign rfl) ?_
    refine wl_nil ?_
    refine sq_n ?_
    refine wc_seq ?_
    refine wc_seq ?_
    refine wc_region ?_
    refine wv rfl (r_move rfl) ?_
    refine wv rfl (r_lss rfl rfl) ?_
    refine wl_nil ?_
    refine sq_n ?_
    refine wc_cond rfl (fun hc57 => ?_) (fun hc57 => ?_)
    · replace hx := xif_t hc57 hx
      refine wc_seq ?_
      refine wc_region ?_
      refine wv rfl (r_assign rfl) ?_
      refine wl_nil ?_
      refine sq_n ?_
      refine wc_ret ?_
      refine sq_ret ?_
      obtain rfl := Option.some.inj hx
      refine fin_ret [(.int .i64 (-1))] ⟨rfl, trivial⟩ ?_
      replace hM := hM.t0
      have hM := hM.fewer rsN
      exact ⟨(), rfl, hM.gives⟩
    · replace hx := xif_f hc57 hx
      refine wc_skip ?_
      refine sq_n ?_
      refine wc_seq ?_
      refine wc_region ?_
      refine wv rfl (r_move rfl) ?_
      refine wv rfl (r_assign rfl) ?_
      refine wl_nil ?_
      refine sq_n ?_
      refine wc_ret ?_
      obtain rfl := Option.some.inj hx
      refine fin_ret [(.int .i64 r50)] ⟨rfl, trivial⟩ ?_
      replace hM := hM.t0
      have hM := hM.fewer rsN
      exact ⟨(), rfl, hM.gives⟩

noncomputable def x_laws_FnExactPastOther (aP : DStory) (aO : List DPart) : Option Bool :=
  Option.bind (x_laws_szStory aP 1048576) fun r9 => bif decide (r9 < 0) then (some true) else (Option.bind (x_laws_szPartS aO r9) fun r19 => bif decide (r19 < 0) then (some true) else (Option.bind (x_laws_toStory aP) fun r28 => Option.bind (x_laws_toPartS aO) fun r36 => Option.bind (x_spec_PastOther r28 r36) fun r41 => Option.bind (x_laws_toStory aP) fun r59 => Option.bind (x_laws_toPartS aO) fun r73 => Option.bind (x_impl_PastOther r59 r73) fun r81 => Option.bind (x_laws_eqStory r81.1 r41.1) fun r100 => Option.bind (bif !r100 then (some true) else (some (!(r81.2 == r41.2)))) fun c106 => bif c106 then (some false) else (Option.bind (x_laws_toStory aP) fun r117 => Option.bind (x_laws_eqStory r59 r117) fun r127 => bif !r127 then (some false) else (Option.bind (x_laws_toPartS aO) fun r136 => Option.bind (x_laws_eqPartS r73 r136) fun r141 => bif !r141 then (some false) else (Option.bind (x_laws_markStory r59 1) fun r150 => Option.bind (x_laws_markPartS r73 r150.1) fun r156 => Option.bind (bif decide (r156.1 < 0) then (some true) else (Option.bind (x_laws_eqStory r81.1 r41.1) fun r174 => some (!r174))) fun c163 => Option.bind (bif c163 then (some true) else (some (!(r81.2 == r41.2)))) fun c180 => bif c180 then (some false) else (Option.bind (x_laws_markStory r81.1 1) fun r192 => Option.bind (x_laws_heldStory (⟨r81.1.n, r192.2.undo, r192.2.redo⟩ : DStory) 1) fun r199 => bif decide (r199 < 0) then (some false) else (bif !decide (r199 = r192.1) then (some false) else (Option.bind (x_laws_toStory aP) fun r212 => Option.bind (x_laws_toPartS aO) fun r220 => Option.bind (x_impl_PastOther r212 r220) fun r225 => Option.bind (x_laws_eqStory r225.1 r41.1) fun r244 => Option.bind (bif !r244 then (some true) else (some (!(r225.2 == r41.2)))) fun c250 => bif c250 then (some false) else (Option.bind (x_laws_heldStory (⟨r81.1.n, r192.2.undo, r192.2.redo⟩ : DStory) 1) fun r262 => bif decide (r262 < 0) then (some false) else (bif !decide (r262 = r192.1) then (some false) else (some true)))))))))))
theorem ct_laws_FnExactPastOther (w : World) (X S : Bs) (aP : DStory) (s_aP_1 : Sv) (s_aP_2 : Sv) (aO : List DPart) (s_aO : Sv) (hS : ∀ b, S b → b < w.heap.size ∧ ¬ X b) (a_aP_1 : (cSl 1 fLDPart aP.undo).rd S w s_aP_1.v) (a_aP_2 : (cSl 1 fLDPart aP.redo).rd S w s_aP_2.v) (a_aO_0 : (cSl 3 fDPart aO).rd S w s_aO.v) (oL : Sep [] X w) {r : Bool} (hx : x_laws_FnExactPastOther aP aO = some r) :
    Ret Try.prog 14 [(.agg #[(.int .i64 aP.n), s_aP_1.v, s_aP_2.v]), s_aO.v] w (fun u w' => ∃ _ : Unit, u = (.bool r) ∧ Gives X S w [] [] w') := by
  unfold x_laws_FnExactPastOther at hx
  refine enter Try.func14 rfl Try.ntmps14 (by kernel_rfl) rfl ?_
  have hM := St.enter oL hS
  have hM := hM.addE (r := rV s_aP_1.v (cSl 1 fLDPart aP.undo)) a_aP_1
  have hM := hM.addE (r := rV s_aP_2.v (cSl 1 fLDPart aP.redo)) a_aP_2
  have hM := hM.addE (r := rV s_aO.v (cSl 3 fDPart aO)) a_aO_0
  refine wc_seq ?_
  refine wc_region ?_
  refine w_ex rfl (x_box rfl hM ?_); intro b276 w275 hR277 hM
  replace hM : St ⟨w, X, S⟩ [oBox b276 #[(.int .i64 aP.n), s_aP_1.v, s_aP_2.v] 43] [rV s_aO.v (cSl 3 fDPart aO), rV s_aP_2.v (cSl 1 fLDPart aP.redo), rV s_aP_1.v (cSl 1 fLDPart aP.undo)] _ := hM
  refine wv rfl (r_assign rfl) ?_
  refine wl_nil ?_
  refine sq_n ?_
  refine wc_seq ?_
  refine wc_region ?_
  refine wv rfl (r_assign rfl) ?_
  refine wl_nil ?_
  refine sq_n ?_
  refine wc_seq ?_
  refine wc_region ?_
  refine wv rfl (r_ldBS Try.underlying43 sz43 rfl (us := [(.int .i64 aP.n), s_aP_1.v, s_aP_2.v]) rfl hM (.head _) rfl) ?_
  refine wv rfl (r_move rfl) ?_
  obtain ⟨r283, h284, hx⟩ := bind_some' hx
  refine w_call rfl rfl (hM.callV fun X S oL hS hR hO => ct_laws_szStory _ X S aP s_aP_1 s_aP_2 (1048576 : Int) hS (hR _ (.tail _ (.tail _ (.head _)))) (hR _ (.tail _ (.head _))) oL h284) ?_
  rintro _ w285 ⟨rfl, hR286⟩
  have hM := hM.call hR286
  refine wv rfl (r_assign rfl) ?_
  refine wl_nil ?_
  refine sq_n ?_
  refine wc_seq ?_
  refine wc_seq ?_
  refine wc_region ?_
  refine wv rfl (r_move rfl) ?_
  refine wv rfl (r_lss rfl rfl) ?_
  refine wl_nil ?_
  refine sq_n ?_
  refine wc_cond rfl (fun hc290 => ?_) (fun hc290 => ?_)
  · replace hx := xif_t hc290 hx
    refine wc_seq ?_
    refine wc_region ?_
    refine wv rfl (r_assign rfl) ?_
    refine wl_nil ?_
    refine sq_n ?_
    refine wc_ret ?_
    refine sq_ret ?_
    obtain rfl := Option.some.inj hx
    refine fin_ret [(.bool true)] ⟨rfl, trivial⟩ ?_
    replace hM := hM.t0
    have hM := hM.fewer rsN
    exact ⟨(), rfl, hM.gives⟩
  · replace hx := xif_f hc290 hx
    refine wc_skip ?_
    refine sq_n ?_
    refine wc_seq ?_
    refine wc_region ?_
    refine wv rfl (r_move rfl) ?_
    refine wv rfl (r_move rfl) ?_
    obtain ⟨r294, h295, hx⟩ := bind_some' hx
    refine w_call rfl rfl (hM.callV fun X S oL hS hR hO => ct_laws_szPartS _ X S aO s_aO r283 hS (hR _ (.head _)) oL h295) ?_
    rintro _ w296 ⟨rfl, hR297⟩
    have hM := hM.call hR297
    refine wv rfl (r_assign rfl) ?_
    refine wl_nil ?_
    refine sq_n ?_
    refine wc_seq ?_
    refine wc_seq ?_
    refine wc_region ?_
    refine wv rfl (r_move rfl) ?_
    refine wv rfl (r_lss rfl rfl) ?_
    refine wl_nil ?_
    refine sq_n ?_
    refine wc_cond rfl (fun hc301 => ?_) (fun hc301 => ?_)
    · replace hx := xif_t hc301 hx
      refine wc_seq ?_
      refine wc_region ?_
      refine wv rfl (r_assign rfl) ?_
      refine wl_nil ?_
      refine sq_n ?_
      refine wc_ret ?_
      refine sq_ret ?_
      obtain rfl := Option.some.inj hx
      refine fin_ret [(.bool true)] ⟨rfl, trivial⟩ ?_
      replace hM := hM.t0
      have hM := hM.fewer rsN
      exact ⟨(), rfl, hM.gives⟩
    · replace hx := xif_f hc301 hx
      refine wc_skip ?_
      refine sq_n ?_
      refine wc_seq ?_
      refine wc_region ?_
      refine wv rfl (r_ldBS Try.underlying43 sz43 rfl (us := [(.int .i64 aP.n), s_aP_1.v, s_aP_2.v]) rfl hM (.head _) rfl) ?_
      obtain ⟨r304, h305, hx⟩ := bind_some' hx
      refine w_call rfl rfl (hM.callO (l := []) fun X S oL hS hR hO => ct_laws_toStory _ X S aP s_aP_1 s_aP_2 hS (hR _ (.tail _ (.tail _ (.head _)))) (hR _ (.tail _ (.head _))) oL h305) ?_
      rintro _ w306 ⟨⟨s307, s308⟩, rfl, hM⟩
      replace hM : St ⟨w, X, S⟩ [oC (cSl 1 fLDPart r304.undo) s307.v, oC (cSl 1 fLDPart r304.redo) s308.v, oBox b276 #[(.int .i64 aP.n), s_aP_1.v, s_aP_2.v] 43] [rV s_aO.v (cSl 3 fDPart aO), rV s_aP_2.v (cSl 1 fLDPart aP.redo), rV s_aP_1.v (cSl 1 fLDPart aP.undo)] _ := hM
      refine wv rfl (r_move rfl) ?_
      obtain ⟨r312, h313, hx⟩ := bind_some' hx
      refine w_call rfl rfl (hM.callO (l := []) fun X S oL hS hR hO => ct_laws_toPartS _ X S aO s_aO hS (hR _ (.head _)) oL h313) ?_
      rintro _ w314 ⟨s315, rfl, hM⟩
      replace hM : St ⟨w, X, S⟩ [oC (cSl 3 fDPart r312) s315.v, oC (cSl 1 fLDPart r304.undo) s307.v, oC (cSl 1 fLDPart r304.redo) s308.v, oBox b276 #[(.int .i64 aP.n), s_aP_1.v, s_aP_2.v] 43] [rV s_aO.v (cSl 3 fDPart aO), rV s_aP_2.v (cSl 1 fLDPart aP.redo), rV s_aP_1.v (cSl 1 fLDPart aP.undo)] _ := hM
      obtain ⟨r317, h318, hx⟩ := bind_some' hx
      refine w_call rfl rfl (hM.callO (l := []) fun X S oL hS hR hO => ct_spec_PastOther _ X S r304 s307 s308 r312 s315 hS (seeA hO (.tail _ (.head _))) (seeA hO (.tail _ (.tail _ (.head _)))) (seeA hO (.head _)) oL h318) ?_
      rintro _ w319 ⟨⟨s320, s321⟩, rfl, hM⟩
      replace hM : St ⟨w, X, S⟩ [oC (cSl 1 fLDPart r317.1.undo) s320.v, oC (cSl 1 fLDPart r317.1.redo) s321.v, oC (cSl 3 fDPart r312) s315.v, oC (cSl 1 fLDPart r304.undo) s307.v, oC (cSl 1 fLDPart r304.redo) s308.v, oBox b276 #[(.int .i64 aP.n), s_aP_1.v, s_aP_2.v] 43] [rV s_aO.v (cSl 3 fDPart aO), rV s_aP_2.v (cSl 1 fLDPart aP.redo), rV s_aP_1.v (cSl 1 fLDPart aP.undo)] _ := hM
      refine wv rfl (r_move rfl) ?_
      refine wv rfl (r_extract rfl rfl) ?_
      refine wv rfl (r_extract rfl rfl) ?_
      refine w_ex rfl (x_alloc sz48 hM ?_); intro b328 w327 hR329 hM
      replace hM : St ⟨w, X, S⟩ [oBox b328 #[(.int .i64 0), (.slice none 0 0), (.slice none 0 0)] 48, oC (cSl 1 fLDPart r317.1.undo) s320.v, oC (cSl 1 fLDPart r317.1.redo) s321.v, oC (cSl 3 fDPart r312) s315.v, oC (cSl 1 fLDPart r304.undo) s307.v, oC (cSl 1 fLDPart r304.redo) s308.v, oBox b276 #[(.int .i64 aP.n), s_aP_1.v, s_aP_2.v] 43] [rV s_aO.v (cSl 3 fDPart aO), rV s_aP_2.v (cSl 1 fLDPart aP.redo), rV s_aP_1.v (cSl 1 fLDPart aP.undo)] _ := hM
      refine w_exu (x_stB #[(.int .i64 r317.1.n), s320.v, s321.v] sz48 rfl rfl rfl rfl rfl rfl hM ?_); intro w331 hM
      refine wv rfl (r_assign rfl) ?_
      refine wl_nil ?_
      refine sq_n ?_
      refine wc_seq ?_
      refine wc_region ?_
      refine wv rfl (r_ldBS Try.underlying43 sz43 rfl (us := [(.int .i64 aP.n), s_aP_1.v, s_aP_2.v]) rfl hM (.tail _ (.tail _ (.tail _ (.tail _ (.tail _ (.tail _ (.head _))))))) rfl) ?_
      obtain ⟨r335, h336, hx⟩ := bind_some' hx
      refine w_call rfl rfl (hM.callO (l := []) fun X S oL hS hR hO => ct_laws_toStory _ X S aP s_aP_1 s_aP_2 hS (hR _ (.tail _ (.tail _ (.head _)))) (hR _ (.tail _ (.head _))) oL h336) ?_
      rintro _ w337 ⟨⟨s338, s339⟩, rfl, hM⟩
      replace hM : St ⟨w, X, S⟩ [oC (cSl 1 fLDPart r335.undo) s338.v, oC (cSl 1 fLDPart r335.redo) s339.v, oBox b328 #[(.int .i64 r317.1.n), s320.v, s321.v] 48, oC (cSl 1 fLDPart r317.1.undo) s320.v, oC (cSl 1 fLDPart r317.1.redo) s321.v, oC (cSl 3 fDPart r312) s315.v, oC (cSl 1 fLDPart r304.undo) s307.v, oC (cSl 1 fLDPart r304.redo) s308.v, oBox b276 #[(.int .i64 aP.n), s_aP_1.v, s_aP_2.v] 43] [rV s_aO.v (cSl 3 fDPart aO), rV s_aP_2.v (cSl 1 fLDPart aP.redo), rV s_aP_1.v (cSl 1 fLDPart aP.undo)] _ := hM
      refine w_ex rfl (x_alloc sz48 hM ?_); intro b343 w342 hR344 hM
      replace hM : St ⟨w, X, S⟩ [oBox b343 #[(.int .i64 0), (.slice none 0 0), (.slice none 0 0)] 48, oC (cSl 1 fLDPart r335.undo) s338.v, oC (cSl 1 fLDPart r335.redo) s339.v, oBox b328 #[(.int .i64 r317.1.n), s320.v, s321.v] 48, oC (cSl 1 fLDPart r317.1.undo) s320.v, oC (cSl 1 fLDPart r317.1.redo) s321.v, oC (cSl 3 fDPart r312) s315.v, oC (cSl 1 fLDPart r304.undo) s307.v, oC (cSl 1 fLDPart r304.redo) s308.v, oBox b276 #[(.int .i64 aP.n), s_aP_1.v, s_aP_2.v] 43] [rV s_aO.v (cSl 3 fDPart aO), rV s_aP_2.v (cSl 1 fLDPart aP.redo), rV s_aP_1.v (cSl 1 fLDPart aP.undo)] _ := hM
      refine w_exu (x_stB #[(.int .i64 r335.n), s338.v, s339.v] sz48 rfl rfl rfl rfl rfl rfl hM ?_); intro w346 hM
      refine wl_nil ?_
      refine sq_n ?_
      refine wc_seq ?_
      refine wc_region ?_
      refine wv rfl (r_move rfl) ?_
      obtain ⟨r349, h350, hx⟩ := bind_some' hx
      refine w_call rfl rfl (hM.callO (l := []) fun X S oL hS hR hO => ct_laws_toPartS _ X S aO s_aO hS (hR _ (.head _)) oL h350) ?_
      rintro _ w351 ⟨s352, rfl, hM⟩
      replace hM : St ⟨w, X, S⟩ [oC (cSl 3 fDPart r349) s352.v, oBox b343 #[(.int .i64 r335.n), s338.v, s339.v] 48, oC (cSl 1 fLDPart r335.undo) s338.v, oC (cSl 1 fLDPart r335.redo) s339.v, oBox b328 #[(.int .i64 r317.1.n), s320.v, s321.v] 48, oC (cSl 1 fLDPart r317.1.undo) s320.v, oC (cSl 1 fLDPart r317.1.redo) s321.v, oC (cSl 3 fDPart r312) s315.v, oC (cSl 1 fLDPart r304.undo) s307.v, oC (cSl 1 fLDPart r304.redo) s308.v, oBox b276 #[(.int .i64 aP.n), s_aP_1.v, s_aP_2.v] 43] [rV s_aO.v (cSl 3 fDPart aO), rV s_aP_2.v (cSl 1 fLDPart aP.redo), rV s_aP_1.v (cSl 1 fLDPart aP.undo)] _ := hM
      refine wv rfl (r_assign rfl) ?_
      refine wl_nil ?_
      refine sq_n ?_
      refine wc_seq ?_
      refine wc_region ?_
      refine wv rfl (r_ldBS Try.underlying48 sz48 rfl (us := [(.int .i64 r335.n), s338.v, s339.v]) rfl hM (.tail _ (.head _)) rfl) ?_
      refine wv rfl (r_move rfl) ?_
      obtain ⟨r357, h358, hx⟩ := bind_some' hx
      refine w_call rfl rfl (hM.callO (l := []) fun X S oL hS hR hO => ct_impl_PastOther _ X S r335 s338 s339 r349 s352 hS (seeA hO (.tail _ (.tail _ (.head _)))) (seeA hO (.tail _ (.tail _ (.tail _ (.head _))))) (seeA hO (.head _)) oL h358) ?_
      rintro _ w359 ⟨⟨s360, s361⟩, rfl, hM⟩
      replace hM : St ⟨w, X, S⟩ [oC (cSl 1 fLDPart r357.1.undo) s360.v, oC (cSl 1 fLDPart r357.1.redo) s361.v, oC (cSl 3 fDPart r349) s352.v, oBox b343 #[(.int .i64 r335.n), s338.v, s339.v] 48, oC (cSl 1 fLDPart r335.undo) s338.v, oC (cSl 1 fLDPart r335.redo) s339.v, oBox b328 #[(.int .i64 r317.1.n), s320.v, s321.v] 48, oC (cSl 1 fLDPart r317.1.undo) s320.v, oC (cSl 1 fLDPart r317.1.redo) s321.v, oC (cSl 3 fDPart r312) s315.v, oC (cSl 1 fLDPart r304.undo) s307.v, oC (cSl 1 fLDPart r304.redo) s308.v, oBox b276 #[(.int .i64 aP.n), s_aP_1.v, s_aP_2.v] 43] [rV s_aO.v (cSl 3 fDPart aO), rV s_aP_2.v (cSl 1 fLDPart aP.redo), rV s_aP_1.v (cSl 1 fLDPart aP.undo)] _ := hM
      refine wv rfl (r_move rfl) ?_
      refine wv rfl (r_extract rfl rfl) ?_
      refine wv rfl (r_extract rfl rfl) ?_
      refine w_ex rfl (x_alloc sz48 hM ?_); intro b368 w367 hR369 hM
      replace hM : St ⟨w, X, S⟩ [oBox b368 #[(.int .i64 0), (.slice none 0 0), (.slice none 0 0)] 48, oC (cSl 1 fLDPart r357.1.undo) s360.v, oC (cSl 1 fLDPart r357.1.redo) s361.v, oC (cSl 3 fDPart r349) s352.v, oBox b343 #[(.int .i64 r335.n), s338.v, s339.v] 48, oC (cSl 1 fLDPart r335.undo) s338.v, oC (cSl 1 fLDPart r335.redo) s339.v, oBox b328 #[(.int .i64 r317.1.n), s320.v, s321.v] 48, oC (cSl 1 fLDPart r317.1.undo) s320.v, oC (cSl 1 fLDPart r317.1.redo) s321.v, oC (cSl 3 fDPart r312) s315.v, oC (cSl 1 fLDPart r304.undo) s307.v, oC (cSl 1 fLDPart r304.redo) s308.v, oBox b276 #[(.int .i64 aP.n), s_aP_1.v, s_aP_2.v] 43] [rV s_aO.v (cSl 3 fDPart aO), rV s_aP_2.v (cSl 1 fLDPart aP.redo), rV s_aP_1.v (cSl 1 fLDPart aP.undo)] _ := hM
      refine w_exu (x_stB #[(.int .i64 r357.1.n), s360.v, s361.v] sz48 rfl rfl rfl rfl rfl rfl hM ?_); intro w371 hM
      refine wv rfl (r_assign rfl) ?_
      refine wl_nil ?_
      refine sq_n ?_
      refine wc_seq ?_
      refine wc_seq ?_
      refine wc_region ?_
      refine wv rfl (r_ldBS Try.underlying48 sz48 rfl (us := [(.int .i64 r357.1.n), s360.v, s361.v]) rfl hM (.head _) rfl) ?_
      refine wv rfl (r_ldBS Try.underlying48 sz48 rfl (us := [(.int .i64 r317.1.n), s320.v, s321.v]) rfl hM (.tail _ (.tail _ (.tail _ (.tail _ (.tail _ (.tail _ (.tail _ (.head _)))))))) rfl) ?_
      obtain ⟨r376, h377, hx⟩ := bind_some' hx
      refine w_call rfl rfl (hM.callV fun X S oL hS hR hO => ct_laws_eqStory _ X S r357.1 s360 s361 r317.1 s320 s321 hS (seeA hO (.tail _ (.head _))) (seeA hO (.tail _ (.tail _ (.head _)))) (seeA hO (.tail _ (.tail _ (.tail _ (.tail _ (.tail _ (.tail _ (.tail _ (.tail _ (.head _)))))))))) (seeA hO (.tail _ (.tail _ (.tail _ (.tail _ (.tail _ (.tail _ (.tail _ (.tail _ (.tail _ (.head _))))))))))) oL h377) ?_
      rintro _ w378 ⟨rfl, hR379⟩
      have hM := hM.call hR379
      refine wv rfl (r_not rfl) ?_
      refine wv rfl (r_move rfl) ?_
      obtain ⟨c382, hx, hx387⟩ := bind_some' hx
      refine wl_mid 4 (fun _ : Unit => [(53, (.bool c382)), (1, s_aO.v), (2, (.pointer (some ⟨b276, 0, none⟩))), (6, (.pointer (some ⟨b328, 0, none⟩))), (7, (.bool r317.2)), (8, (.pointer (some ⟨b343, 0, none⟩))), (9, s352.v), (10, (.pointer (some ⟨b368, 0, none⟩))), (11, (.bool r357.2))]) (fun _ w' => St ⟨w, X, S⟩ [oBox b368 #[(.int .i64 r357.1.n), s360.v, s361.v] 48, oC (cSl 1 fLDPart r357.1.undo) s360.v, oC (cSl 1 fLDPart r357.1.redo) s361.v, oC (cSl 3 fDPart r349) s352.v, oBox b343 #[(.int .i64 r335.n), s338.v, s339.v] 48, oC (cSl 1 fLDPart r335.undo) s338.v, oC (cSl 1 fLDPart r335.redo) s339.v, oBox b328 #[(.int .i64 r317.1.n), s320.v, s321.v] 48, oC (cSl 1 fLDPart r317.1.undo) s320.v, oC (cSl 1 fLDPart r317.1.redo) s321.v, oC (cSl 3 fDPart r312) s315.v, oC (cSl 1 fLDPart r304.undo) s307.v, oC (cSl 1 fLDPart r304.redo) s308.v, oBox b276 #[(.int .i64 aP.n), s_aP_1.v, s_aP_2.v] 43] [rV s_aO.v (cSl 3 fDPart aO), rV s_aP_2.v (cSl 1 fLDPart aP.redo), rV s_aP_1.v (cSl 1 fLDPart aP.undo)] w') ?_ ?_
      · rcases Bool.eq_false_or_eq_true (!r376) with hg383 | hg383
        · replace hx := xif_t hg383 hx
          refine gs rfl (isB_no hg383) rfl ?_
          refine gs rfl (isB_no hg383) rfl ?_
          refine gs rfl (isB_no hg383) rfl ?_
          refine wv rfl (p_t rfl hg383 rfl) ?_
          obtain rfl := Option.some.inj hx
          exact mid_nil () ⟨rfl, rfl, rfl, rfl, rfl, rfl, rfl, rfl, rfl, trivial⟩ hM
        · replace hx := xif_f hg383 hx
          refine gv rfl hg383 rfl (r_move rfl) ?_
          refine gv rfl hg383 rfl (r_move rfl) ?_
          refine gv rfl hg383 rfl (r_neqb Try.underlying4 rfl rfl) ?_
          refine wv rfl (p_f rfl hg383 rfl) ?_
          obtain rfl := Option.some.inj hx
          exact mid_nil () ⟨rfl, rfl, rfl, rfl, rfl, rfl, rfl, rfl, rfl, trivial⟩ hM
      rintro _ w391 hM
      replace hx := hx387
      refine wl_nil ?_
      refine sq_n ?_
      refine wc_cond rfl (fun hc392 => ?_) (fun hc392 => ?_)
      · replace hx := xif_t hc392 hx
        refine wc_seq ?_
        refine wc_region ?_
        refine wv rfl (r_assign rfl) ?_
        refine wl_nil ?_
        refine sq_n ?_
        refine wc_ret ?_
        refine sq_ret ?_
        obtain rfl := Option.some.inj hx
        refine fin_ret [(.bool false)] ⟨rfl, trivial⟩ ?_
        replace hM := hM.t0
        have hM := hM.fewer rsN
        exact ⟨(), rfl, hM.gives⟩
      · replace hx := xif_f hc392 hx
        refine wc_skip ?_
        refine sq_n ?_
        refine wc_seq ?_
        refine wc_seq ?_
        refine wc_draw [(0, 0), (1, 0), (2, 1), (3, 0), (4, 0)] Try_mixed (by kernel_rfl) rfl (by kernel_rfl) rfl ?_
        refine ov rfl (fun w' h' => r_ldBS Try.underlying48 sz48 rfl (us := [(.int .i64 r335.n), s338.v, s339.v]) rfl (hM.call h') (.tail _ (.tail _ (.tail _ (.tail _ (.head _))))) rfl) ?_
        refine ov rfl (fun w' h' => r_ldBS Try.underlying43 sz43 rfl (us := [(.int .i64 aP.n), s_aP_1.v, s_aP_2.v]) rfl (hM.call h') (.tail _ (.tail _ (.tail _ (.tail _ (.tail _ (.tail _ (.tail _ (.tail _ (.tail _ (.tail _ (.tail _ (.tail _ (.tail _ (.head _)))))))))))))) rfl) ?_
        obtain ⟨r396, h397, hx⟩ := bind_some' hx
        refine o_forced rfl rfl (fun w' h' => (hM.call h').callF fun X S oL hS hR hO => ct_laws_toStory _ X S aP s_aP_1 s_aP_2 hS (hR _ (.tail _ (.tail _ (.head _)))) (hR _ (.tail _ (.head _))) oL h397) ?_
        rintro w401 h402 _ w398 ⟨hR403, ⟨s399, s400⟩, rfl, hM⟩
        refine ⟨hR403, ?_⟩
        replace hM : St ⟨w, X, S⟩ [oC (cSl 1 fLDPart r396.undo) s399.v, oC (cSl 1 fLDPart r396.redo) s400.v, oBox b368 #[(.int .i64 r357.1.n), s360.v, s361.v] 48, oC (cSl 1 fLDPart r357.1.undo) s360.v, oC (cSl 1 fLDPart r357.1.redo) s361.v, oC (cSl 3 fDPart r349) s352.v, oBox b343 #[(.int .i64 r335.n), s338.v, s339.v] 48, oC (cSl 1 fLDPart r335.undo) s338.v, oC (cSl 1 fLDPart r335.redo) s339.v, oBox b328 #[(.int .i64 r317.1.n), s320.v, s321.v] 48, oC (cSl 1 fLDPart r317.1.undo) s320.v, oC (cSl 1 fLDPart r317.1.redo) s321.v, oC (cSl 3 fDPart r312) s315.v, oC (cSl 1 fLDPart r304.undo) s307.v, oC (cSl 1 fLDPart r304.redo) s308.v, oBox b276 #[(.int .i64 aP.n), s_aP_1.v, s_aP_2.v] 43] [rV s_aO.v (cSl 3 fDPart aO), rV s_aP_2.v (cSl 1 fLDPart aP.redo), rV s_aP_1.v (cSl 1 fLDPart aP.undo)] _ := hM
        obtain ⟨r406, h407, hx⟩ := bind_some' hx
        refine oc rfl rfl (fun w' h' => (hM.call h').callV fun X S oL hS hR hO => ct_laws_eqStory _ X S r335 s338 s339 r396 s399 s400 hS (seeA hO (.tail _ (.tail _ (.tail _ (.tail _ (.tail _ (.tail _ (.tail _ (.head _))))))))) (seeA hO (.tail _ (.tail _ (.tail _ (.tail _ (.tail _ (.tail _ (.tail _ (.tail _ (.head _)))))))))) (seeA hO (.head _)) (seeA hO (.tail _ (.head _))) oL h407) ?_
        refine ov rfl (fun w' h' => r_not rfl) ?_
        refine o_nil fun w410 hw411 => ?_
        have hM := hM.call hw411
        refine sq_n ?_
        refine wc_cond rfl (fun hc412 => ?_) (fun hc412 => ?_)
        · replace hx := xif_t hc412 hx
          refine wc_seq ?_
          refine wc_region ?_
          refine wv rfl (r_assign rfl) ?_
          refine wl_nil ?_
          refine sq_n ?_
          refine wc_ret ?_
          refine sq_ret ?_
          obtain rfl := Option.some.inj hx
          refine fin_ret [(.bool false)] ⟨rfl, trivial⟩ ?_
          replace hM := hM.t0
          have hM := hM.fewer rsN
          exact ⟨(), rfl, hM.gives⟩
        · replace hx := xif_f hc412 hx
          refine wc_skip ?_
          refine sq_n ?_
          refine wc_seq ?_
          refine wc_seq ?_
          refine wc_region ?_
          refine wv rfl (r_move rfl) ?_
          refine wv rfl (r_move rfl) ?_
          obtain ⟨r416, h417, hx⟩ := bind_some' hx
          refine w_call rfl rfl (hM.callO (l := []) fun X S oL hS hR hO => ct_laws_toPartS _ X S aO s_aO hS (hR _ (.head _)) oL h417) ?_
          rintro _ w418 ⟨s419, rfl, hM⟩
          replace hM : St ⟨w, X, S⟩ [oC (cSl 3 fDPart r416) s419.v, oC (cSl 1 fLDPart r396.undo) s399.v, oC (cSl 1 fLDPart r396.redo) s400.v, oBox b368 #[(.int .i64 r357.1.n), s360.v, s361.v] 48, oC (cSl 1 fLDPart r357.1.undo) s360.v, oC (cSl 1 fLDPart r357.1.redo) s361.v, oC (cSl 3 fDPart r349) s352.v, oBox b343 #[(.int .i64 r335.n), s338.v, s339.v] 48, oC (cSl 1 fLDPart r335.undo) s338.v, oC (cSl 1 fLDPart r335.redo) s339.v, oBox b328 #[(.int .i64 r317.1.n), s320.v, s321.v] 48, oC (cSl 1 fLDPart r317.1.undo) s320.v, oC (cSl 1 fLDPart r317.1.redo) s321.v, oC (cSl 3 fDPart r312) s315.v, oC (cSl 1 fLDPart r304.undo) s307.v, oC (cSl 1 fLDPart r304.redo) s308.v, oBox b276 #[(.int .i64 aP.n), s_aP_1.v, s_aP_2.v] 43] [rV s_aO.v (cSl 3 fDPart aO), rV s_aP_2.v (cSl 1 fLDPart aP.redo), rV s_aP_1.v (cSl 1 fLDPart aP.undo)] _ := hM
          obtain ⟨r421, h422, hx⟩ := bind_some' hx
          refine w_call rfl rfl (hM.callV fun X S oL hS hR hO => ct_laws_eqPartS _ X S r349 s352 r416 s419 hS (seeA hO (.tail _ (.tail _ (.tail _ (.tail _ (.tail _ (.tail _ (.head _)))))))) (seeA hO (.head _)) oL h422) ?_
          rintro _ w423 ⟨rfl, hR424⟩
          have hM := hM.call hR424
          refine wv rfl (r_not rfl) ?_
          refine wl_nil ?_
          refine sq_n ?_
          refine wc_cond rfl (fun hc426 => ?_) (fun hc426 => ?_)
          · replace hx := xif_t hc426 hx
            refine wc_seq ?_
            refine wc_region ?_
            refine wv rfl (r_assign rfl) ?_
            refine wl_nil ?_
            refine sq_n ?_
            refine wc_ret ?_
            refine sq_ret ?_
            obtain rfl := Option.some.inj hx
            refine fin_ret [(.bool false)] ⟨rfl, trivial⟩ ?_
            replace hM := hM.t0
            have hM := hM.fewer rsN
            exact ⟨(), rfl, hM.gives⟩
          · replace hx := xif_f hc426 hx
            refine wc_skip ?_
            refine sq_n ?_
            refine wc_seq ?_
            refine wc_region ?_
            refine wv rfl (r_assign rfl) ?_
            refine wl_nil ?_
            refine sq_n ?_
            refine wc_seq ?_
            refine wc_region ?_
            refine wv rfl (r_ldBS Try.underlying48 sz48 rfl (us := [(.int .i64 r335.n), s338.v, s339.v]) rfl hM (.tail _ (.tail _ (.tail _ (.tail _ (.tail _ (.tail _ (.tail _ (.head _)))))))) rfl) ?_
            refine wv rfl (r_move rfl) ?_
            replace hM := hM.p9.p9
            obtain ⟨r431, h432, hx⟩ := bind_some' hx
            refine w_call rfl rfl (hM.callO (l := [oC (cSl 1 fLDPart r335.undo) s338.v, oC (cSl 1 fLDPart r335.redo) s339.v]) fun X S oL hS hR hO => ct_laws_markStory _ X S r335 s338 s339 (1 : Int) hS  oL h432) ?_
            rintro _ w433 ⟨_, rfl, hM⟩
            replace hM : St ⟨w, X, S⟩ [oC (cSl 1 fLDPart r431.2.undo) s338.v, oC (cSl 1 fLDPart r431.2.redo) s339.v, oC (cSl 3 fDPart r416) s419.v, oC (cSl 1 fLDPart r396.undo) s399.v, oC (cSl 1 fLDPart r396.redo) s400.v, oBox b368 #[(.int .i64 r357.1.n), s360.v, s361.v] 48, oC (cSl 1 fLDPart r357.1.undo) s360.v, oC (cSl 1 fLDPart r357.1.redo) s361.v, oC (cSl 3 fDPart r349) s352.v, oBox b343 #[(.int .i64 r335.n), s338.v, s339.v] 48, oBox b328 #[(.int .i64 r317.1.n), s320.v, s321.v] 48, oC (cSl 1 fLDPart r317.1.undo) s320.v, oC (cSl 1 fLDPart r317.1.redo) s321.v, oC (cSl 3 fDPart r312) s315.v, oC (cSl 1 fLDPart r304.undo) s307.v, oC (cSl 1 fLDPart r304.redo) s308.v, oBox b276 #[(.int .i64 aP.n), s_aP_1.v, s_aP_2.v] 43] [rV s_aO.v (cSl 3 fDPart aO), rV s_aP_2.v (cSl 1 fLDPart aP.redo), rV s_aP_1.v (cSl 1 fLDPart aP.undo)] _ := hM
            refine wv rfl (r_assign rfl) ?_
            refine wl_nil ?_
            refine sq_n ?_
            refine wc_seq ?_
            refine wc_region ?_
            refine wv rfl (r_move rfl) ?_
            refine wv rfl (r_move rfl) ?_
            replace hM := hM.p8
            obtain ⟨r437, h438, hx⟩ := bind_some' hx
            refine w_call rfl rfl (hM.callO (l := [oC (cSl 3 fDPart r349) s352.v]) fun X S oL hS hR hO => ct_laws_markPartS _ X S r349 s352 r431.1 hS  oL h438) ?_
            rintro _ w439 ⟨_, rfl, hM⟩
            replace hM : St ⟨w, X, S⟩ [oC (cSl 3 fDPart r437.2) s352.v, oC (cSl 1 fLDPart r431.2.undo) s338.v, oC (cSl 1 fLDPart r431.2.redo) s339.v, oC (cSl 3 fDPart r416) s419.v, oC (cSl 1 fLDPart r396.undo) s399.v, oC (cSl 1 fLDPart r396.redo) s400.v, oBox b368 #[(.int .i64 r357.1.n), s360.v, s361.v] 48, oC (cSl 1 fLDPart r357.1.undo) s360.v, oC (cSl 1 fLDPart r357.1.redo) s361.v, oBox b343 #[(.int .i64 r335.n), s338.v, s339.v] 48, oBox b328 #[(.int .i64 r317.1.n), s320.v, s321.v] 48, oC (cSl 1 fLDPart r317.1.undo) s320.v, oC (cSl 1 fLDPart r317.1.redo) s321.v, oC (cSl 3 fDPart r312) s315.v, oC (cSl 1 fLDPart r304.undo) s307.v, oC (cSl 1 fLDPart r304.redo) s308.v, oBox b276 #[(.int .i64 aP.n), s_aP_1.v, s_aP_2.v] 43] [rV s_aO.v (cSl 3 fDPart aO), rV s_aP_2.v (cSl 1 fLDPart aP.redo), rV s_aP_1.v (cSl 1 fLDPart aP.undo)] _ := hM
            refine wv rfl (r_assign rfl) ?_
            refine wl_nil ?_
            refine sq_n ?_
            refine wc_seq ?_
            refine wc_seq ?_
            refine wc_region ?_
            refine wv rfl (r_move rfl) ?_
            refine wv rfl (r_lss rfl rfl) ?_
            refine wv rfl (r_move rfl) ?_
            obtain ⟨c444, hx, hx453⟩ := bind_some' hx
            refine wl_mid 5 (fun _ : Unit => [(77, (.bool c444)), (1, s_aO.v), (2, (.pointer (some ⟨b276, 0, none⟩))), (6, (.pointer (some ⟨b328, 0, none⟩))), (7, (.bool r317.2)), (10, (.pointer (some ⟨b368, 0, none⟩))), (11, (.bool r357.2))]) (fun _ w' => St ⟨w, X, S⟩ [oC (cSl 3 fDPart r437.2) s352.v, oC (cSl 1 fLDPart r431.2.undo) s338.v, oC (cSl 1 fLDPart r431.2.redo) s339.v, oC (cSl 3 fDPart r416) s419.v, oC (cSl 1 fLDPart r396.undo) s399.v, oC (cSl 1 fLDPart r396.redo) s400.v, oBox b368 #[(.int .i64 r357.1.n), s360.v, s361.v] 48, oC (cSl 1 fLDPart r357.1.undo) s360.v, oC (cSl 1 fLDPart r357.1.redo) s361.v, oBox b343 #[(.int .i64 r335.n), s338.v, s339.v] 48, oBox b328 #[(.int .i64 r317.1.n), s320.v, s321.v] 48, oC (cSl 1 fLDPart r317.1.undo) s320.v, oC (cSl 1 fLDPart r317.1.redo) s321.v, oC (cSl 3 fDPart r312) s315.v, oC (cSl 1 fLDPart r304.undo) s307.v, oC (cSl 1 fLDPart r304.redo) s308.v, oBox b276 #[(.int .i64 aP.n), s_aP_1.v, s_aP_2.v] 43] [rV s_aO.v (cSl 3 fDPart aO), rV s_aP_2.v (cSl 1 fLDPart aP.redo), rV s_aP_1.v (cSl 1 fLDPart aP.undo)] w') ?_ ?_
            · rcases Bool.eq_false_or_eq_true (decide (r437.1 < 0)) with hg445 | hg445
              · replace hx := xif_t hg445 hx
                refine gs rfl (isB_no hg445) rfl ?_
                refine gs rfl (isB_no hg445) rfl ?_
                refine gs rfl (isB_no hg445) rfl ?_
                refine gs rfl (isB_no hg445) rfl ?_
                refine wv rfl (p_t rfl hg445 rfl) ?_
                obtain rfl := Option.some.inj hx
                exact mid_nil () ⟨rfl, rfl, rfl, rfl, rfl, rfl, rfl, trivial⟩ hM
              · replace hx := xif_f hg445 hx
                refine gv rfl hg445 rfl (r_ldBS Try.underlying48 sz48 rfl (us := [(.int .i64 r357.1.n), s360.v, s361.v]) rfl hM (.tail _ (.tail _ (.tail _ (.tail _ (.tail _ (.tail _ (.head _))))))) rfl) ?_
                refine gv rfl hg445 rfl (r_ldBS Try.underlying48 sz48 rfl (us := [(.int .i64 r317.1.n), s320.v, s321.v]) rfl hM (.tail _ (.tail _ (.tail _ (.tail _ (.tail _ (.tail _ (.tail _ (.tail _ (.tail _ (.tail _ (.head _))))))))))) rfl) ?_
                obtain ⟨r456, h457, hx⟩ := bind_some' hx
                refine gc rfl hg445 rfl rfl (hM.callV fun X S oL hS hR hO => ct_laws_eqStory _ X S r357.1 s360 s361 r317.1 s320 s321 hS (seeA hO (.tail _ (.tail _ (.tail _ (.tail _ (.tail _ (.tail _ (.tail _ (.head _))))))))) (seeA hO (.tail _ (.tail _ (.tail _ (.tail _ (.tail _ (.tail _ (.tail _ (.tail _ (.head _)))))))))) (seeA hO (.tail _ (.tail _ (.tail _ (.tail _ (.tail _ (.tail _ (.tail _ (.tail _ (.tail _ (.tail _ (.tail _ (.head _))))))))))))) (seeA hO (.tail _ (.tail _ (.tail _ (.tail _ (.tail _ (.tail _ (.tail _ (.tail _ (.tail _ (.tail _ (.tail _ (.tail _ (.head _)))))))))))))) oL h457) ?_
                rintro _ w458 ⟨rfl, hR459⟩
                have hM := hM.call hR459
                refine gv rfl hg445 rfl (r_not rfl) ?_
                refine wv rfl (p_f rfl hg445 rfl) ?_
                obtain rfl := Option.some.inj hx
                exact mid_nil () ⟨rfl, rfl, rfl, rfl, rfl, rfl, rfl, trivial⟩ hM
            rintro _ w461 hM
            replace hx := hx453
            refine wv rfl (r_move rfl) ?_
            obtain ⟨c463, hx, hx468⟩ := bind_some' hx
            refine wl_mid 4 (fun _ : Unit => [(82, (.bool c463)), (1, s_aO.v), (2, (.pointer (some ⟨b276, 0, none⟩))), (6, (.pointer (some ⟨b328, 0, none⟩))), (7, (.bool r317.2)), (10, (.pointer (some ⟨b368, 0, none⟩)))]) (fun _ w' => St ⟨w, X, S⟩ [oC (cSl 3 fDPart r437.2) s352.v, oC (cSl 1 fLDPart r431.2.undo) s338.v, oC (cSl 1 fLDPart r431.2.redo) s339.v, oC (cSl 3 fDPart r416) s419.v, oC (cSl 1 fLDPart r396.undo) s399.v, oC (cSl 1 fLDPart r396.redo) s400.v, oBox b368 #[(.int .i64 r357.1.n), s360.v, s361.v] 48, oC (cSl 1 fLDPart r357.1.undo) s360.v, oC (cSl 1 fLDPart r357.1.redo) s361.v, oBox b343 #[(.int .i64 r335.n), s338.v, s339.v] 48, oBox b328 #[(.int .i64 r317.1.n), s320.v, s321.v] 48, oC (cSl 1 fLDPart r317.1.undo) s320.v, oC (cSl 1 fLDPart r317.1.redo) s321.v, oC (cSl 3 fDPart r312) s315.v, oC (cSl 1 fLDPart r304.undo) s307.v, oC (cSl 1 fLDPart r304.redo) s308.v, oBox b276 #[(.int .i64 aP.n), s_aP_1.v, s_aP_2.v] 43] [rV s_aO.v (cSl 3 fDPart aO), rV s_aP_2.v (cSl 1 fLDPart aP.redo), rV s_aP_1.v (cSl 1 fLDPart aP.undo)] w') ?_ ?_
            · rcases Bool.eq_false_or_eq_true c444 with hg464 | hg464
              · replace hx := xif_t hg464 hx
                refine gs rfl (isB_no hg464) rfl ?_
                refine gs rfl (isB_no hg464) rfl ?_
                refine gs rfl (isB_no hg464) rfl ?_
                refine wv rfl (p_t rfl hg464 rfl) ?_
                obtain rfl := Option.some.inj hx
                exact mid_nil () ⟨rfl, rfl, rfl, rfl, rfl, rfl, trivial⟩ hM
              · replace hx := xif_f hg464 hx
                refine gv rfl hg464 rfl (r_move rfl) ?_
                refine gv rfl hg464 rfl (r_move rfl) ?_
                refine gv rfl hg464 rfl (r_neqb Try.underlying4 rfl rfl) ?_
                refine wv rfl (p_f rfl hg464 rfl) ?_
                obtain rfl := Option.some.inj hx
                exact mid_nil () ⟨rfl, rfl, rfl, rfl, rfl, rfl, trivial⟩ hM
            rintro _ w472 hM
            replace hx := hx468
            refine wl_nil ?_
            refine sq_n ?_
            refine wc_cond rfl (fun hc473 => ?_) (fun hc473 => ?_)
            · replace hx := xif_t hc473 hx
              refine wc_seq ?_
              refine wc_region ?_
              refine wv rfl (r_assign rfl) ?_
              refine wl_nil ?_
              refine sq_n ?_
              refine wc_ret ?_
              refine sq_ret ?_
              obtain rfl := Option.some.inj hx
              refine fin_ret [(.bool false)] ⟨rfl, trivial⟩ ?_
              replace hM := hM.t0
              have hM := hM.fewer rsN
              exact ⟨(), rfl, hM.gives⟩
            · replace hx := xif_f hc473 hx
              refine wc_skip ?_
              refine sq_n ?_
              refine wc_seq ?_
              refine wc_region ?_
              refine wv rfl (r_assign rfl) ?_
              refine wl_nil ?_
              refine sq_n ?_
              refine wc_seq ?_
              refine wc_region ?_
              refine wv rfl (r_ldBS Try.underlying48 sz48 rfl (us := [(.int .i64 r357.1.n), s360.v, s361.v]) rfl hM (.tail _ (.tail _ (.tail _ (.tail _ (.tail _ (.tail _ (.head _))))))) rfl) ?_
              refine wv rfl (r_move rfl) ?_
              replace hM := hM.p8.p8
              obtain ⟨r478, h479, hx⟩ := bind_some' hx
              refine w_call rfl rfl (hM.callO (l := [oC (cSl 1 fLDPart r357.1.undo) s360.v, oC (cSl 1 fLDPart r357.1.redo) s361.v]) fun X S oL hS hR hO => ct_laws_markStory _ X S r357.1 s360 s361 (1 : Int) hS  oL h479) ?_
              rintro _ w480 ⟨_, rfl, hM⟩
              replace hM : St ⟨w, X, S⟩ [oC (cSl 1 fLDPart r478.2.undo) s360.v, oC (cSl 1 fLDPart r478.2.redo) s361.v, oC (cSl 3 fDPart r437.2) s352.v, oC (cSl 1 fLDPart r431.2.undo) s338.v, oC (cSl 1 fLDPart r431.2.redo) s339.v, oC (cSl 3 fDPart r416) s419.v, oC (cSl 1 fLDPart r396.undo) s399.v, oC (cSl 1 fLDPart r396.redo) s400.v, oBox b368 #[(.int .i64 r357.1.n), s360.v, s361.v] 48, oBox b343 #[(.int .i64 r335.n), s338.v, s339.v] 48, oBox b328 #[(.int .i64 r317.1.n), s320.v, s321.v] 48, oC (cSl 1 fLDPart r317.1.undo) s320.v, oC (cSl 1 fLDPart r317.1.redo) s321.v, oC (cSl 3 fDPart r312) s315.v, oC (cSl 1 fLDPart r304.undo) s307.v, oC (cSl 1 fLDPart r304.redo) s308.v, oBox b276 #[(.int .i64 aP.n), s_aP_1.v, s_aP_2.v] 43] [rV s_aO.v (cSl 3 fDPart aO), rV s_aP_2.v (cSl 1 fLDPart aP.redo), rV s_aP_1.v (cSl 1 fLDPart aP.undo)] _ := hM
              refine wv rfl (r_assign rfl) ?_
              refine wl_nil ?_
              refine sq_n ?_
              refine wc_seq ?_
              refine wc_region ?_
              refine wv rfl (r_assign rfl) ?_
              refine wl_nil ?_
              refine sq_n ?_
              refine wc_seq ?_
              refine wc_region ?_
              refine wv rfl (r_ldBS Try.underlying48 sz48 rfl (us := [(.int .i64 r357.1.n), s360.v, s361.v]) rfl hM (.tail _ (.tail _ (.tail _ (.tail _ (.tail _ (.tail _ (.tail _ (.tail _ (.head _))))))))) rfl) ?_
              refine wv rfl (r_move rfl) ?_
              obtain ⟨r485, h486, hx⟩ := bind_some' hx
              refine w_call rfl rfl (hM.callV fun X S oL hS hR hO => ct_laws_heldStory _ X S (⟨r357.1.n, r478.2.undo, r478.2.redo⟩ : DStory) s360 s361 (1 : Int) hS (seeA hO (.head _)) (seeA hO (.tail _ (.head _))) oL h486) ?_
              rintro _ w487 ⟨rfl, hR488⟩
              have hM := hM.call hR488
              refine wv rfl (r_assign rfl) ?_
              refine wl_nil ?_
              refine sq_n ?_
              refine wc_seq ?_
              refine wc_seq ?_
              refine wc_region ?_
              refine wv rfl (r_move rfl) ?_
              refine wv rfl (r_lss rfl rfl) ?_
              refine wl_nil ?_
              refine sq_n ?_
              refine wc_cond rfl (fun hc492 => ?_) (fun hc492 => ?_)
              · replace hx := xif_t hc492 hx
                refine wc_seq ?_
                refine wc_region ?_
                refine wv rfl (r_assign rfl) ?_
                refine wl_nil ?_
                refine sq_n ?_
                refine wc_ret ?_
                refine sq_ret ?_
                obtain rfl := Option.some.inj hx
                refine fin_ret [(.bool false)] ⟨rfl, trivial⟩ ?_
                replace hM := hM.t0
                have hM := hM.fewer rsN
                exact ⟨(), rfl, hM.gives⟩
              · replace hx := xif_f hc492 hx
                refine wc_skip ?_
                refine sq_n ?_
                refine wc_seq ?_
                refine wc_seq ?_
                refine wc_region ?_
                refine wv rfl (r_move rfl) ?_
                refine wv rfl (r_move rfl) ?_
                refine wv rfl (r_neq rfl rfl) ?_
                refine wl_nil ?_
                refine sq_n ?_
                refine wc_cond rfl (fun hc497 => ?_) (fun hc497 => ?_)
                · replace hx := xif_t hc497 hx
                  refine wc_seq ?_
                  refine wc_region ?_
                  refine wv rfl (r_assign rfl) ?_
                  refine wl_nil ?_
                  refine sq_n ?_
                  refine wc_ret ?_
                  refine sq_ret ?_
                  obtain rfl := Option.some.inj hx
                  refine fin_ret [(.bool false)] ⟨rfl, trivial⟩ ?_
                  replace hM := hM.t0
                  have hM := hM.fewer rsN
                  exact ⟨(), rfl, hM.gives⟩
                · replace hx := xif_f hc497 hx
                  refine wc_skip ?_
                  refine sq_n ?_
                  refine wc_seq ?_
                  refine wc_region ?_
                  refine wv rfl (r_ldBS Try.underlying43 sz43 rfl (us := [(.int .i64 aP.n), s_aP_1.v, s_aP_2.v]) rfl hM (.tail _ (.tail _ (.tail _ (.tail _ (.tail _ (.tail _ (.tail _ (.tail _ (.tail _ (.tail _ (.tail _ (.tail _ (.tail _ (.tail _ (.tail _ (.tail _ (.head _))))))))))))))))) rfl) ?_
                  obtain ⟨r500, h501, hx⟩ := bind_some' hx
                  refine w_call rfl rfl (hM.callO (l := []) fun X S oL hS hR hO => ct_laws_toStory _ X S aP s_aP_1 s_aP_2 hS (hR _ (.tail _ (.tail _ (.head _)))) (hR _ (.tail _ (.head _))) oL h501) ?_
                  rintro _ w502 ⟨⟨s503, s504⟩, rfl, hM⟩
                  replace hM : St ⟨w, X, S⟩ [oC (cSl 1 fLDPart r500.undo) s503.v, oC (cSl 1 fLDPart r500.redo) s504.v, oC (cSl 1 fLDPart r478.2.undo) s360.v, oC (cSl 1 fLDPart r478.2.redo) s361.v, oC (cSl 3 fDPart r437.2) s352.v, oC (cSl 1 fLDPart r431.2.undo) s338.v, oC (cSl 1 fLDPart r431.2.redo) s339.v, oC (cSl 3 fDPart r416) s419.v, oC (cSl 1 fLDPart r396.undo) s399.v, oC (cSl 1 fLDPart r396.redo) s400.v, oBox b368 #[(.int .i64 r357.1.n), s360.v, s361.v] 48, oBox b343 #[(.int .i64 r335.n), s338.v, s339.v] 48, oBox b328 #[(.int .i64 r317.1.n), s320.v, s321.v] 48, oC (cSl 1 fLDPart r317.1.undo) s320.v, oC (cSl 1 fLDPart r317.1.redo) s321.v, oC (cSl 3 fDPart r312) s315.v, oC (cSl 1 fLDPart r304.undo) s307.v, oC (cSl 1 fLDPart r304.redo) s308.v, oBox b276 #[(.int .i64 aP.n), s_aP_1.v, s_aP_2.v] 43] [rV s_aO.v (cSl 3 fDPart aO), rV s_aP_2.v (cSl 1 fLDPart aP.redo), rV s_aP_1.v (cSl 1 fLDPart aP.undo)] _ := hM
                  refine wv rfl (r_move rfl) ?_
                  obtain ⟨r508, h509, hx⟩ := bind_some' hx
                  refine w_call rfl rfl (hM.callO (l := []) fun X S oL hS hR hO => ct_laws_toPartS _ X S aO s_aO hS (hR _ (.head _)) oL h509) ?_
                  rintro _ w510 ⟨s511, rfl, hM⟩
                  replace hM : St ⟨w, X, S⟩ [oC (cSl 3 fDPart r508) s511.v, oC (cSl 1 fLDPart r500.undo) s503.v, oC (cSl 1 fLDPart r500.redo) s504.v, oC (cSl 1 fLDPart r478.2.undo) s360.v, oC (cSl 1 fLDPart r478.2.redo) s361.v, oC (cSl 3 fDPart r437.2) s352.v, oC (cSl 1 fLDPart r431.2.undo) s338.v, oC (cSl 1 fLDPart r431.2.redo) s339.v, oC (cSl 3 fDPart r416) s419.v, oC (cSl 1 fLDPart r396.undo) s399.v, oC (cSl 1 fLDPart r396.redo) s400.v, oBox b368 #[(.int .i64 r357.1.n), s360.v, s361.v] 48, oBox b343 #[(.int .i64 r335.n), s338.v, s339.v] 48, oBox b328 #[(.int .i64 r317.1.n), s320.v, s321.v] 48, oC (cSl 1 fLDPart r317.1.undo) s320.v, oC (cSl 1 fLDPart r317.1.redo) s321.v, oC (cSl 3 fDPart r312) s315.v, oC (cSl 1 fLDPart r304.undo) s307.v, oC (cSl 1 fLDPart r304.redo) s308.v, oBox b276 #[(.int .i64 aP.n), s_aP_1.v, s_aP_2.v] 43] [rV s_aO.v (cSl 3 fDPart aO), rV s_aP_2.v (cSl 1 fLDPart aP.redo), rV s_aP_1.v (cSl 1 fLDPart aP.undo)] _ := hM
                  obtain ⟨r513, h514, hx⟩ := bind_some' hx
                  refine w_call rfl rfl (hM.callO (l := []) fun X S oL hS hR hO => ct_impl_PastOther _ X S r500 s503 s504 r508 s511 hS (seeA hO (.tail _ (.head _))) (seeA hO (.tail _ (.tail _ (.head _)))) (seeA hO (.head _)) oL h514) ?_
                  rintro _ w515 ⟨⟨s516, s517⟩, rfl, hM⟩
                  replace hM : St ⟨w, X, S⟩ [oC (cSl 1 fLDPart r513.1.undo) s516.v, oC (cSl 1 fLDPart r513.1.redo) s517.v, oC (cSl 3 fDPart r508) s511.v, oC (cSl 1 fLDPart r500.undo) s503.v, oC (cSl 1 fLDPart r500.redo) s504.v, oC (cSl 1 fLDPart r478.2.undo) s360.v, oC (cSl 1 fLDPart r478.2.redo) s361.v, oC (cSl 3 fDPart r437.2) s352.v, oC (cSl 1 fLDPart r431.2.undo) s338.v, oC (cSl 1 fLDPart r431.2.redo) s339.v, oC (cSl 3 fDPart r416) s419.v, oC (cSl 1 fLDPart r396.undo) s399.v, oC (cSl 1 fLDPart r396.redo) s400.v, oBox b368 #[(.int .i64 r357.1.n), s360.v, s361.v] 48, oBox b343 #[(.int .i64 r335.n), s338.v, s339.v] 48, oBox b328 #[(.int .i64 r317.1.n), s320.v, s321.v] 48, oC (cSl 1 fLDPart r317.1.undo) s320.v, oC (cSl 1 fLDPart r317.1.redo) s321.v, oC (cSl 3 fDPart r312) s315.v, oC (cSl 1 fLDPart r304.undo) s307.v, oC (cSl 1 fLDPart r304.redo) s308.v, oBox b276 #[(.int .i64 aP.n), s_aP_1.v, s_aP_2.v] 43] [rV s_aO.v (cSl 3 fDPart aO), rV s_aP_2.v (cSl 1 fLDPart aP.redo), rV s_aP_1.v (cSl 1 fLDPart aP.undo)] _ := hM
                  refine wv rfl (r_move rfl) ?_
                  refine wv rfl (r_extract rfl rfl) ?_
                  refine wv rfl (r_extract rfl rfl) ?_
                  refine w_ex rfl (x_alloc sz48 hM ?_); intro b524 w523 hR525 hM
                  replace hM : St ⟨w, X, S⟩ [oBox b524 #[(.int .i64 0), (.slice none 0 0), (.slice none 0 0)] 48, oC (cSl 1 fLDPart r513.1.undo) s516.v, oC (cSl 1 fLDPart r513.1.redo) s517.v, oC (cSl 3 fDPart r508) s511.v, oC (cSl 1 fLDPart r500.undo) s503.v, oC (cSl 1 fLDPart r500.redo) s504.v, oC (cSl 1 fLDPart r478.2.undo) s360.v, oC (cSl 1 fLDPart r478.2.redo) s361.v, oC (cSl 3 fDPart r437.2) s352.v, oC (cSl 1 fLDPart r431.2.undo) s338.v, oC (cSl 1 fLDPart r431.2.redo) s339.v, oC (cSl 3 fDPart r416) s419.v, oC (cSl 1 fLDPart r396.undo) s399.v, oC (cSl 1 fLDPart r396.redo) s400.v, oBox b368 #[(.int .i64 r357.1.n), s360.v, s361.v] 48, oBox b343 #[(.int .i64 r335.n), s338.v, s339.v] 48, oBox b328 #[(.int .i64 r317.1.n), s320.v, s321.v] 48, oC (cSl 1 fLDPart r317.1.undo) s320.v, oC (cSl 1 fLDPart r317.1.redo) s321.v, oC (cSl 3 fDPart r312) s315.v, oC (cSl 1 fLDPart r304.undo) s307.v, oC (cSl 1 fLDPart r304.redo) s308.v, oBox b276 #[(.int .i64 aP.n), s_aP_1.v, s_aP_2.v] 43] [rV s_aO.v (cSl 3 fDPart aO), rV s_aP_2.v (cSl 1 fLDPart aP.redo), rV s_aP_1.v (cSl 1 fLDPart aP.undo)] _ := hM
                  refine w_exu (x_stB #[(.int .i64 r513.1.n), s516.v, s517.v] sz48 rfl rfl rfl rfl rfl rfl hM ?_); intro w527 hM
                  refine wv rfl (r_assign rfl) ?_
                  refine wl_nil ?_
                  refine sq_n ?_
                  refine wc_seq ?_
                  refine wc_seq ?_
                  refine wc_region ?_
                  refine wv rfl (r_ldBS Try.underlying48 sz48 rfl (us := [(.int .i64 r513.1.n), s516.v, s517.v]) rfl hM (.head _) rfl) ?_
                  refine wv rfl (r_ldBS Try.underlying48 sz48 rfl (us := [(.int .i64 r317.1.n), s320.v, s321.v]) rfl hM (.tail _ (.tail _ (.tail _ (.tail _ (.tail _ (.tail _ (.tail _ (.tail _ (.tail _ (.tail _ (.tail _ (.tail _ (.tail _ (.tail _ (.tail _ (.tail _ (.head _))))))))))))))))) rfl) ?_
                  obtain ⟨r532, h533, hx⟩ := bind_some' hx
                  refine w_call rfl rfl (hM.callV fun X S oL hS hR hO => ct_laws_eqStory _ X S r513.1 s516 s517 r317.1 s320 s321 hS (seeA hO (.tail _ (.head _))) (seeA hO (.tail _ (.tail _ (.head _)))) (seeA hO (.tail _ (.tail _ (.tail _ (.tail _ (.tail _ (.tail _ (.tail _ (.tail _ (.tail _ (.tail _ (.tail _ (.tail _ (.tail _ (.tail _ (.tail _ (.tail _ (.tail _ (.head _))))))))))))))))))) (seeA hO (.tail _ (.tail _ (.tail _ (.tail _ (.tail _ (.tail _ (.tail _ (.tail _ (.tail _ (.tail _ (.tail _ (.tail _ (.tail _ (.tail _ (.tail _ (.tail _ (.tail _ (.tail _ (.head _)))))))))))))))))))) oL h533) ?_
                  rintro _ w534 ⟨rfl, hR535⟩
                  have hM := hM.call hR535
                  refine wv rfl (r_not rfl) ?_
                  refine wv rfl (r_move rfl) ?_
                  obtain ⟨c538, hx, hx543⟩ := bind_some' hx
                  refine wl_mid 4 (fun _ : Unit => [(110, (.bool c538)), (10, (.pointer (some ⟨b368, 0, none⟩))), (13, (.int .i64 r478.1))]) (fun _ w' => St ⟨w, X, S⟩ [oBox b524 #[(.int .i64 r513.1.n), s516.v, s517.v] 48, oC (cSl 1 fLDPart r513.1.undo) s516.v, oC (cSl 1 fLDPart r513.1.redo) s517.v, oC (cSl 3 fDPart r508) s511.v, oC (cSl 1 fLDPart r500.undo) s503.v, oC (cSl 1 fLDPart r500.redo) s504.v, oC (cSl 1 fLDPart r478.2.undo) s360.v, oC (cSl 1 fLDPart r478.2.redo) s361.v, oC (cSl 3 fDPart r437.2) s352.v, oC (cSl 1 fLDPart r431.2.undo) s338.v, oC (cSl 1 fLDPart r431.2.redo) s339.v, oC (cSl 3 fDPart r416) s419.v, oC (cSl 1 fLDPart r396.undo) s399.v, oC (cSl 1 fLDPart r396.redo) s400.v, oBox b368 #[(.int .i64 r357.1.n), s360.v, s361.v] 48, oBox b343 #[(.int .i64 r335.n), s338.v, s339.v] 48, oBox b328 #[(.int .i64 r317.1.n), s320.v, s321.v] 48, oC (cSl 1 fLDPart r317.1.undo) s320.v, oC (cSl 1 fLDPart r317.1.redo) s321.v, oC (cSl 3 fDPart r312) s315.v, oC (cSl 1 fLDPart r304.undo) s307.v, oC (cSl 1 fLDPart r304.redo) s308.v, oBox b276 #[(.int .i64 aP.n), s_aP_1.v, s_aP_2.v] 43] [rV s_aO.v (cSl 3 fDPart aO), rV s_aP_2.v (cSl 1 fLDPart aP.redo), rV s_aP_1.v (cSl 1 fLDPart aP.undo)] w') ?_ ?_
                  · rcases Bool.eq_false_or_eq_true (!r532) with hg539 | hg539
                    · replace hx := xif_t hg539 hx
                      refine gs rfl (isB_no hg539) rfl ?_
                      refine gs rfl (isB_no hg539) rfl ?_
                      refine gs rfl (isB_no hg539) rfl ?_
                      refine wv rfl (p_t rfl hg539 rfl) ?_
                      obtain rfl := Option.some.inj hx
                      exact mid_nil () ⟨rfl, rfl, rfl, trivial⟩ hM
                    · replace hx := xif_f hg539 hx
                      refine gv rfl hg539 rfl (r_move rfl) ?_
                      refine gv rfl hg539 rfl (r_move rfl) ?_
                      refine gv rfl hg539 rfl (r_neqb Try.underlying4 rfl rfl) ?_
                      refine wv rfl (p_f rfl hg539 rfl) ?_
                      obtain rfl := Option.some.inj hx
                      exact mid_nil () ⟨rfl, rfl, rfl, trivial⟩ hM
                  rintro _ w547 hM
                  replace hx := hx543
                  refine wl_nil ?_
                  refine sq_n ?_
                  refine wc_cond rfl (fun hc548 => ?_) (fun hc548 => ?_)
                  · replace hx := xif_t hc548 hx
                    refine wc_seq ?_
                    refine wc_region ?_
                    refine wv rfl (r_assign rfl) ?_
                    refine wl_nil ?_
                    refine sq_n ?_
                    refine wc_ret ?_
                    refine sq_ret ?_
                    obtain rfl := Option.some.inj hx
                    refine fin_ret [(.bool false)] ⟨rfl, trivial⟩ ?_
                    replace hM := hM.t0
                    have hM := hM.fewer rsN
                    exact ⟨(), rfl, hM.gives⟩
                  · replace hx := xif_f hc548 hx
                    refine wc_skip ?_
                    refine sq_n ?_
                    refine wc_seq ?_
                    refine wc_region ?_
                    refine wv rfl (r_assign rfl) ?_
                    refine wl_nil ?_
                    refine sq_n ?_
                    refine wc_seq ?_
                    refine wc_region ?_
                    refine wv rfl (r_ldBS Try.underlying48 sz48 rfl (us := [(.int .i64 r357.1.n), s360.v, s361.v]) rfl hM (.tail _ (.tail _ (.tail _ (.tail _ (.tail _ (.tail _ (.tail _ (.tail _ (.tail _ (.tail _ (.tail _ (.tail _ (.tail _ (.tail _ (.head _))))))))))))))) rfl) ?_
                    refine wv rfl (r_move rfl) ?_
                    obtain ⟨r553, h554, hx⟩ := bind_some' hx
                    refine w_call rfl rfl (hM.callV fun X S oL hS hR hO => ct_laws_heldStory _ X S (⟨r357.1.n, r478.2.undo, r478.2.redo⟩ : DStory) s360 s361 (1 : Int) hS (seeA hO (.tail _ (.tail _ (.tail _ (.tail _ (.tail _ (.tail _ (.head _)))))))) (seeA hO (.tail _ (.tail _ (.tail _ (.tail _ (.tail _ (.tail _ (.tail _ (.head _))))))))) oL h554) ?_
                    rintro _ w555 ⟨rfl, hR556⟩
                    have hM := hM.call hR556
                    refine wv rfl (r_assign rfl) ?_
                    refine wl_nil ?_
                    refine sq_n ?_
                    refine wc_seq ?_
                    refine wc_seq ?_
                    refine wc_region ?_
                    refine wv rfl (r_move rfl) ?_
                    refine wv rfl (r_lss rfl rfl) ?_
                    refine wl_nil ?_
                    refine sq_n ?_
                    refine wc_cond rfl (fun hc560 => ?_) (fun hc560 => ?_)
                    · replace hx := xif_t hc560 hx
                      refine wc_seq ?_
                      refine wc_region ?_
                      refine wv rfl (r_assign rfl) ?_
                      refine wl_nil ?_
                      refine sq_n ?_
                      refine wc_ret ?_
                      refine sq_ret ?_
                      obtain rfl := Option.some.inj hx
                      refine fin_ret [(.bool false)] ⟨rfl, trivial⟩ ?_
                      replace hM := hM.t0
                      have hM := hM.fewer rsN
                      exact ⟨(), rfl, hM.gives⟩
                    · replace hx := xif_f hc560 hx
                      refine wc_skip ?_
                      refine sq_n ?_
                      refine wc_seq ?_
                      refine wc_seq ?_
                      refine wc_region ?_
                      refine wv rfl (r_move rfl) ?_
                      refine wv rfl (r_move rfl) ?_
                      refine wv rfl (r_neq rfl rfl) ?_
                      refine wl_nil ?_
                      refine sq_n ?_
                      refine wc_cond rfl (fun hc565 => ?_) (fun hc565 => ?_)
                      · replace hx := xif_t hc565 hx
                        refine wc_seq ?_
                        refine wc_region ?_
                        refine wv rfl (r_assign rfl) ?_
                        refine wl_nil ?_
                        refine sq_n ?_
                        refine wc_ret ?_
                        refine sq_ret ?_
                        obtain rfl := Option.some.inj hx
                        refine fin_ret [(.bool false)] ⟨rfl, trivial⟩ ?_
                        replace hM := hM.t0
                        have hM := hM.fewer rsN
                        exact ⟨(), rfl, hM.gives⟩
                      · replace hx := xif_f hc565 hx
                        refine wc_skip ?_
                        refine sq_n ?_
                        refine wc_seq ?_
                        refine wc_region ?_
                        refine wv rfl (r_assign rfl) ?_
                        refine wl_nil ?_
                        refine sq_n ?_
                        refine wc_ret ?_
                        obtain rfl := Option.some.inj hx
                        refine fin_ret [(.bool true)] ⟨rfl, trivial⟩ ?_
                        replace hM := hM.t0
                        have hM := hM.fewer rsN
                        exact ⟨(), rfl, hM.gives⟩

end Go.Proofs.Ytnpfbhejekpmaaa
