/- Walks of functions of this program (printed by a program of ours, by the rules of the layer). No condition. -/
import Derived.Test.YthfkcpdechjmnaaLS
import Derived.Test.YthfkcpdechjmnaaNs
namespace Go.Proofs.Ythfkcpdechjmnaa
open Go.RowKit

noncomputable def x_laws_szIntS (a : List Int) (left : Int) : Option Int :=
  xg (inI (left - (a.length : Int))) <| bif decide ((left - (a.length : Int)) < 0) then (some (-1)) else (some (left - (a.length : Int)))
theorem ct_laws_szIntS (w : World) (X S : Bs) (a : List Int) (s_a : Sv) (left : Int) (hS : ∀ b, S b → b < w.heap.size ∧ ¬ X b) (a_a_0 : (cSl 1 fI a).rd S w s_a.v) (oL : Sep [] X w) {r : Int} (hx : x_laws_szIntS a left = some r) :
    Ret Try.prog 138 [s_a.v, (.int .i64 left)] w (fun u w' => ∃ _ : Unit, u = (.int .i64 r) ∧ Gives X S w [] [] w') := by
  unfold x_laws_szIntS at hx
  refine enter Try.func138 rfl Try.ntmps138 (by kernel_rfl) rfl ?_
  have hM := St.enter oL hS
  have hM := hM.addE (r := rV s_a.v (cSl 1 fI a)) a_a_0
  refine wc_seq ?_
  refine wc_region ?_
  refine wv rfl (r_assign rfl) ?_
  refine wl_nil ?_
  refine sq_n ?_
  refine wc_seq ?_
  refine wc_region ?_
  refine wv rfl (r_move rfl) ?_
  refine wv rfl (r_move rfl) ?_
  refine wv rfl (r_lenC Try.underlying26 rfl (hM.seeR (.head _))) ?_
  obtain ⟨hg18, hx⟩ := xg_some hx
  refine wv rfl (r_sub rfl rfl hg18) ?_
  refine wv rfl (r_assign rfl) ?_
  refine wl_nil ?_
  refine sq_n ?_
  refine wc_seq ?_
  refine wc_seq ?_
  refine wc_region ?_
  refine wv rfl (r_move rfl) ?_
  refine wv rfl (r_lss rfl rfl) ?_
  refine wl_nil ?_
  refine sq_n ?_
  refine wc_cond rfl (fun hc22 => ?_) (fun hc22 => ?_)
  · replace hx := xif_t hc22 hx
    refine wc_seq ?_
    refine wc_region ?_
    refine wv rfl (r_assign rfl) ?_
    refine wl_nil ?_
    refine sq_n ?_
    refine wc_ret ?_
    refine sq_ret ?_
    obtain rfl := Option.some.inj hx
    refine fin_ret [(.int .i64 (-1))] ⟨rfl, trivial⟩ ?_
    replace hM := hM.t0
    have hM := hM.fewer rsN
    exact ⟨(), rfl, hM.gives⟩
  · replace hx := xif_f hc22 hx
    refine wc_skip ?_
    refine sq_n ?_
    refine wc_seq ?_
    refine wc_region ?_
    refine wv rfl (r_move rfl) ?_
    refine wv rfl (r_assign rfl) ?_
    refine wl_nil ?_
    refine sq_n ?_
    refine wc_ret ?_
    obtain rfl := Option.some.inj hx
    refine fin_ret [(.int .i64 (left - (a.length : Int)))] ⟨rfl, trivial⟩ ?_
    replace hM := hM.t0
    have hM := hM.fewer rsN
    exact ⟨(), rfl, hM.gives⟩

noncomputable def x_laws_szPart (a : DPart) (left : Int) : Option Int :=
  Option.bind (x_laws_szIntS a.signs left) fun r9 => bif decide (r9 < 0) then (some (-1)) else (some r9)
theorem ct_laws_szPart (w : World) (X S : Bs) (a : DPart) (s_a_2 : Sv) (left : Int) (hS : ∀ b, S b → b < w.heap.size ∧ ¬ X b) (a_a_2 : (cSl 1 fI a.signs).rd S w s_a_2.v) (oL : Sep [] X w) {r : Int} (hx : x_laws_szPart a left = some r) :
    Ret Try.prog 126 [(.agg #[(.int .i64 a.kind), (.int .i64 a.n), s_a_2.v]), (.int .i64 left)] w (fun u w' => ∃ _ : Unit, u = (.int .i64 r) ∧ Gives X S w [] [] w') := by
  unfold x_laws_szPart at hx
  refine enter Try.func126 rfl Try.ntmps126 (by kernel_rfl) rfl ?_
  have hM := St.enter oL hS
  have hM := hM.addE (r := rV s_a_2.v (cSl 1 fI a.signs)) a_a_2
  refine wc_seq ?_
  refine wc_region ?_
  refine w_ex rfl (x_box rfl hM ?_); intro b20 w19 hR21 hM
  replace hM : St ⟨w, X, S⟩ [oBox b20 #[(.int .i64 a.kind), (.int .i64 a.n), s_a_2.v] 137] [rV s_a_2.v (cSl 1 fI a.signs)] _ := hM
  refine wv rfl (r_assign rfl) ?_
  refine wl_nil ?_
  refine sq_n ?_
  refine wc_seq ?_
  refine wc_region ?_
  refine wv rfl (r_fld Try.underlying137 rfl rfl sz26 rfl) ?_
  refine wv rfl (r_ldB Try.underlying26 rfl rfl hM (.head _) rfl) ?_
  refine wv rfl (r_move rfl) ?_
  obtain ⟨r27, h28, hx⟩ := bind_some' hx
  refine w_call rfl rfl (hM.callV fun X S oL hS hR hO => ct_laws_szIntS _ X S a.signs s_a_2 left hS (hR _ (.head _)) oL h28) ?_
  rintro _ w29 ⟨rfl, hR30⟩
  have hM := hM.call hR30
  refine wv rfl (r_assign rfl) ?_
  refine wl_nil ?_
  refine sq_n ?_
  refine wc_seq ?_
  refine wc_seq ?_
  refine wc_region ?_
  refine wv rfl (r_move rfl) ?_
  refine wv rfl (r_lss rfl rfl) ?_
  refine wl_nil ?_
  refine sq_n ?_
  refine wc_cond rfl (fun hc34 => ?_) (fun hc34 => ?_)
  · replace hx := xif_t hc34 hx
    refine wc_seq ?_
    refine wc_region ?_
    refine wv rfl (r_assign rfl) ?_
    refine wl_nil ?_
    refine sq_n ?_
    refine wc_ret ?_
    refine sq_ret ?_
    obtain rfl := Option.some.inj hx
    refine fin_ret [(.int .i64 (-1))] ⟨rfl, trivial⟩ ?_
    replace hM := hM.t0
    have hM := hM.fewer rsN
    exact ⟨(), rfl, hM.gives⟩
  · replace hx := xif_f hc34 hx
    refine wc_skip ?_
    refine sq_n ?_
    refine wc_seq ?_
    refine wc_region ?_
    refine wv rfl (r_move rfl) ?_
    refine wv rfl (r_assign rfl) ?_
    refine wl_nil ?_
    refine sq_n ?_
    refine wc_ret ?_
    obtain rfl := Option.some.inj hx
    refine fin_ret [(.int .i64 r27)] ⟨rfl, trivial⟩ ?_
    replace hM := hM.t0
    have hM := hM.fewer rsN
    exact ⟨(), rfl, hM.gives⟩

noncomputable def x_laws_szPartS_b0 (a : List DPart) (left12 : Int) (i13 : Int) : Option (Lr (Int × Int) (Sum Int Int)) :=
  bif decide (i13 < (a.length : Int)) then (xg (0 ≤ i13 ∧ i13 < (a.length : Int)) <| Option.bind (x_laws_szPart (el a i13.toNat) left12) fun r52 => bif decide (r52 < 0) then (some (Lr.out (Sum.inr (-1)))) else (xg (inI (i13 + 1)) <| some (Lr.go (r52, i13 + 1)))) else (some (Lr.out (Sum.inl left12)))
noncomputable def x_laws_szPartS_f0 (a : List DPart) (s64 : Int × Int) : Option (Lr (Int × Int) (Sum Int Int)) := x_laws_szPartS_b0 a s64.1 s64.2
noncomputable def x_laws_szPartS (a : List DPart) (left : Int) : Option Int :=
  xg (inI (left - (a.length : Int))) <| bif decide ((left - (a.length : Int)) < 0) then (some (-1)) else (Option.bind (iter (x_laws_szPartS_f0 a) (left - (a.length : Int), 0)) fun (y65 : Sum Int Int) => Sum.elim (fun y66 => some y66) (fun y67 => some y67) y65)
theorem ct_laws_szPartS (w : World) (X S : Bs) (a : List DPart) (s_a : Sv) (left : Int) (hS : ∀ b, S b → b < w.heap.size ∧ ¬ X b) (a_a_0 : (cSl 3 fDPart a).rd S w s_a.v) (oL : Sep [] X w) {r : Int} (hx : x_laws_szPartS a left = some r) :
    Ret Try.prog 96 [s_a.v, (.int .i64 left)] w (fun u w' => ∃ _ : Unit, u = (.int .i64 r) ∧ Gives X S w [] [] w') := by
  unfold x_laws_szPartS at hx
  refine enter Try.func96 rfl Try.ntmps96 (by kernel_rfl) rfl ?_
  have hM := St.enter oL hS
  have hM := hM.addE (r := rV s_a.v (cSl 3 fDPart a)) a_a_0
  refine wc_seq ?_
  refine wc_region ?_
  refine wv rfl (r_assign rfl) ?_
  refine wl_nil ?_
  refine sq_n ?_
  refine wc_seq ?_
  refine wc_region ?_
  refine wv rfl (r_move rfl) ?_
  refine wv rfl (r_move rfl) ?_
  refine wv rfl (r_lenC Try.underlying100 rfl (hM.seeR (.head _))) ?_
  obtain ⟨hg75, hx⟩ := xg_some hx
  refine wv rfl (r_sub rfl rfl hg75) ?_
  refine wv rfl (r_assign rfl) ?_
  refine wl_nil ?_
  refine sq_n ?_
  refine wc_seq ?_
  refine wc_seq ?_
  refine wc_region ?_
  refine wv rfl (r_move rfl) ?_
  refine wv rfl (r_lss rfl rfl) ?_
  refine wl_nil ?_
  refine sq_n ?_
  refine wc_cond rfl (fun hc79 => ?_) (fun hc79 => ?_)
  · replace hx := xif_t hc79 hx
    refine wc_seq ?_
    refine wc_region ?_
    refine wv rfl (r_assign rfl) ?_
    refine wl_nil ?_
    refine sq_n ?_
    refine wc_ret ?_
    refine sq_ret ?_
    obtain rfl := Option.some.inj hx
    refine fin_ret [(.int .i64 (-1))] ⟨rfl, trivial⟩ ?_
    replace hM := hM.t0
    have hM := hM.fewer rsN
    exact ⟨(), rfl, hM.gives⟩
  · replace hx := xif_f hc79 hx
    refine wc_skip ?_
    refine sq_n ?_
    refine wc_seq ?_
    refine wc_seq ?_
    refine wc_region ?_
    refine wv rfl (r_assign rfl) ?_
    refine wl_nil ?_
    refine sq_n ?_
    refine wc_block ?_
    obtain ⟨y82, hx, hx83⟩ := bind_some' hx
    obtain ⟨m88, hx⟩ := iter_run hx
    refine wc_loop (un fun (m86 : Nat) => un fun (left84 : Int) => fun (i85 : Int) => [(0, s_a.v), (1, (.int .i64 left84)), (5, (.int .i64 i85))]) (un fun (m86 : Nat) => un fun (left84 : Int) => fun (i85 : Int) w' => St ⟨w, X, S⟩ [] [rV s_a.v (cSl 3 fDPart a)] w' ∧ iterN _ m86 (left84, i85) = some y82) (fun p => p.1) (m88, left - (a.length : Int), 0) ⟨rfl, rfl, rfl, trivial⟩ ⟨hM, hx⟩ ?_
    rintro ⟨m86, left84, i85⟩ w89 ⟨hM, hx⟩
    obtain ⟨m90, z91, rfl, hx, hx92⟩ := iterN_step hx
    unfold x_laws_szPartS_f0 x_laws_szPartS_b0 at hx
    try dsimp only at hx
    refine wc_seq ?_
    refine wc_seq ?_
    refine wc_region ?_
    refine wv rfl (r_move rfl) ?_
    refine wv rfl (r_move rfl) ?_
    refine wv rfl (r_lenC Try.underlying100 rfl (hM.seeR (.head _))) ?_
    refine wv rfl (r_lss rfl rfl) ?_
    refine wl_nil ?_
    refine sq_n ?_
    refine wc_cond rfl (fun hc97 => ?_) (fun hc97 => ?_)
    · replace hx := xif_t hc97 hx
      refine wc_skip ?_
      refine sq_n ?_
      refine wc_seq ?_
      refine wc_block ?_
      refine wc_seq ?_
      refine wc_region ?_
      refine wv rfl (r_move rfl) ?_
      refine wv rfl (r_move rfl) ?_
      obtain ⟨hg102, hx⟩ := xg_some hx
      have hi101 : i85.toNat < a.length := by omega
      refine wv rfl (r_ixC Try.underlying100 sz137 rfl rfl (hM.seeR (.head _)) hg102) ?_
      obtain ⟨s104, hM, hc105⟩ := hM.leaf (i := i85.toNat) (j := 2) (.head _) (fun _ => rfl) hi101 rfl
      refine wv rfl (r_ldC (o := i85.toNat * 3) Try.underlying137 sz137 rfl (us := [(.int .i64 ((el a i85.toNat).kind)), (.int .i64 ((el a i85.toNat).n)), s104.v]) rfl (hM.seeR (.tail _ (.head _))) hi101 ⟨(Cs.get (i := i85.toNat) (j := 0) (hM.seeR (.tail _ (.head _))) (fun _ => rfl) hi101 rfl), (Cs.get (i := i85.toNat) (j := 1) (hM.seeR (.tail _ (.head _))) (fun _ => rfl) hi101 rfl), (hc105 _ (Rel.refl _)), trivial⟩) ?_
      refine wv rfl (r_move rfl) ?_
      obtain ⟨r107, h108, hx⟩ := bind_some' hx
      refine w_call rfl rfl (hM.callV fun X S oL hS hR hO => ct_laws_szPart _ X S (el a i85.toNat) s104 left84 hS (hR _ (.head _)) oL h108) ?_
      rintro _ w109 ⟨rfl, hR110⟩
      have hM := hM.call hR110
      refine wv rfl (r_assign rfl) ?_
      refine wl_nil ?_
      refine sq_n ?_
      refine wc_seq ?_
      refine wc_region ?_
      refine wv rfl (r_move rfl) ?_
      refine wv rfl (r_lss rfl rfl) ?_
      refine wl_nil ?_
      refine sq_n ?_
      refine wc_cond rfl (fun hc114 => ?_) (fun hc114 => ?_)
      · replace hx := xif_t hc114 hx
        refine wc_seq ?_
        refine wc_region ?_
        refine wv rfl (r_assign rfl) ?_
        refine wl_nil ?_
        refine sq_n ?_
        refine wc_ret ?_
        refine bk_ret ?_
        refine sq_ret ?_
        refine lp1_ret ?_
        obtain rfl := Option.some.inj hx
        obtain rfl := Option.some.inj hx92
        replace hx := hx83
        try dsimp only [Sum.elim_inl, Sum.elim_inr] at hx
        refine bk_ret ?_
        refine sq_ret ?_
        obtain rfl := Option.some.inj hx
        refine fin_ret [(.int .i64 (-1))] ⟨rfl, trivial⟩ ?_
        replace hM := hM.t0
        have hM := hM.fewer rsN
        exact ⟨(), rfl, hM.gives⟩
      · replace hx := xif_f hc114 hx
        refine wc_skip ?_
        refine bk_n ?_
        refine sq_n ?_
        refine wc_region ?_
        refine wv rfl (r_move rfl) ?_
        obtain ⟨hg118, hx⟩ := xg_some hx
        refine wv rfl (r_add rfl rfl hg118) ?_
        refine wv rfl (r_assign rfl) ?_
        refine wl_nil ?_
        obtain rfl := Option.some.inj hx
        have hM := hM.fewer (rsC (.tail _ (.head _)) rsN)
        replace hM : St ⟨w, X, S⟩ [] [rV s_a.v (cSl 3 fDPart a)] _ := hM
        exact lp_end (m90, r107, i85 + 1) (Nat.lt_succ_self _) ⟨rfl, rfl, rfl, trivial⟩ ⟨hM, hx92⟩
    · replace hx := xif_f hc97 hx
      refine wc_exit ?_
      refine sq_exit ?_
      refine lp1_exit ?_
      obtain rfl := Option.some.inj hx
      obtain rfl := Option.some.inj hx92
      replace hx := hx83
      try dsimp only [Sum.elim_inl, Sum.elim_inr] at hx
      refine bk_here ?_
      refine sq_n ?_
      refine wc_seq ?_
      refine wc_region ?_
      refine wv rfl (r_move rfl) ?_
      refine wv rfl (r_assign rfl) ?_
      refine wl_nil ?_
      refine sq_n ?_
      refine wc_ret ?_
      obtain rfl := Option.some.inj hx
      refine fin_ret [(.int .i64 left84)] ⟨rfl, trivial⟩ ?_
      replace hM := hM.t0
      have hM := hM.fewer rsN
      exact ⟨(), rfl, hM.gives⟩

noncomputable def x_laws_szEntry (a : DEntry) (left : Int) : Option Int :=
  Option.bind (x_laws_szPartS a.o left) fun r9 => bif decide (r9 < 0) then (some (-1)) else (some r9)
theorem ct_laws_szEntry (w : World) (X S : Bs) (a : DEntry) (s_a_2 : Sv) (left : Int) (hS : ∀ b, S b → b < w.heap.size ∧ ¬ X b) (a_a_2 : (cSl 3 fDPart a.o).rd S w s_a_2.v) (oL : Sep [] X w) {r : Int} (hx : x_laws_szEntry a left = some r) :
    Ret Try.prog 69 [(.agg #[(.int .i64 a.client), (.int .i64 a.seq), s_a_2.v]), (.int .i64 left)] w (fun u w' => ∃ _ : Unit, u = (.int .i64 r) ∧ Gives X S w [] [] w') := by
  unfold x_laws_szEntry at hx
  refine enter Try.func69 rfl Try.ntmps69 (by kernel_rfl) rfl ?_
  have hM := St.enter oL hS
  have hM := hM.addE (r := rV s_a_2.v (cSl 3 fDPart a.o)) a_a_2
  refine wc_seq ?_
  refine wc_region ?_
  refine w_ex rfl (x_box rfl hM ?_); intro b20 w19 hR21 hM
  replace hM : St ⟨w, X, S⟩ [oBox b20 #[(.int .i64 a.client), (.int .i64 a.seq), s_a_2.v] 102] [rV s_a_2.v (cSl 3 fDPart a.o)] _ := hM
  refine wv rfl (r_assign rfl) ?_
  refine wl_nil ?_
  refine sq_n ?_
  refine wc_seq ?_
  refine wc_region ?_
  refine wv rfl (r_fld Try.underlying102 rfl rfl sz100 rfl) ?_
  refine wv rfl (r_ldB Try.underlying100 rfl rfl hM (.head _) rfl) ?_
  refine wv rfl (r_move rfl) ?_
  obtain ⟨r27, h28, hx⟩ := bind_some' hx
  refine w_call rfl rfl (hM.callV fun X S oL hS hR hO => ct_laws_szPartS _ X S a.o s_a_2 left hS (hR _ (.head _)) oL h28) ?_
  rintro _ w29 ⟨rfl, hR30⟩
  have hM := hM.call hR30
  refine wv rfl (r_assign rfl) ?_
  refine wl_nil ?_
  refine sq_n ?_
  refine wc_seq ?_
  refine wc_seq ?_
  refine wc_region ?_
  refine wv rfl (r_move rfl) ?_
  refine wv rfl (r_lss rfl rfl) ?_
  refine wl_nil ?_
  refine sq_n ?_
  refine wc_cond rfl (fun hc34 => ?_) (fun hc34 => ?_)
  · replace hx := xif_t hc34 hx
    refine wc_seq ?_
    refine wc_region ?_
    refine wv rfl (r_assign rfl) ?_
    refine wl_nil ?_
    refine sq_n ?_
    refine wc_ret ?_
    refine sq_ret ?_
    obtain rfl := Option.some.inj hx
    refine fin_ret [(.int .i64 (-1))] ⟨rfl, trivial⟩ ?_
    replace hM := hM.t0
    have hM := hM.fewer rsN
    exact ⟨(), rfl, hM.gives⟩
  · replace hx := xif_f hc34 hx
    refine wc_skip ?_
    refine sq_n ?_
    refine wc_seq ?_
    refine wc_region ?_
    refine wv rfl (r_move rfl) ?_
    refine wv rfl (r_assign rfl) ?_
    refine wl_nil ?_
    refine sq_n ?_
    refine wc_ret ?_
    obtain rfl := Option.some.inj hx
    refine fin_ret [(.int .i64 r27)] ⟨rfl, trivial⟩ ?_
    replace hM := hM.t0
    have hM := hM.fewer rsN
    exact ⟨(), rfl, hM.gives⟩

noncomputable def x_laws_szEntryS_b0 (a : List DEntry) (left12 : Int) (i13 : Int) : Option (Lr (Int × Int) (Sum Int Int)) :=
  bif decide (i13 < (a.length : Int)) then (xg (0 ≤ i13 ∧ i13 < (a.length : Int)) <| Option.bind (x_laws_szEntry (el a i13.toNat) left12) fun r52 => bif decide (r52 < 0) then (some (Lr.out (Sum.inr (-1)))) else (xg (inI (i13 + 1)) <| some (Lr.go (r52, i13 + 1)))) else (some (Lr.out (Sum.inl left12)))
noncomputable def x_laws_szEntryS_f0 (a : List DEntry) (s64 : Int × Int) : Option (Lr (Int × Int) (Sum Int Int)) := x_laws_szEntryS_b0 a s64.1 s64.2
noncomputable def x_laws_szEntryS (a : List DEntry) (left : Int) : Option Int :=
  xg (inI (left - (a.length : Int))) <| bif decide ((left - (a.length : Int)) < 0) then (some (-1)) else (Option.bind (iter (x_laws_szEntryS_f0 a) (left - (a.length : Int), 0)) fun (y65 : Sum Int Int) => Sum.elim (fun y66 => some y66) (fun y67 => some y67) y65)
theorem ct_laws_szEntryS (w : World) (X S : Bs) (a : List DEntry) (s_a : Sv) (left : Int) (hS : ∀ b, S b → b < w.heap.size ∧ ¬ X b) (a_a_0 : (cSl 3 fDEntry a).rd S w s_a.v) (oL : Sep [] X w) {r : Int} (hx : x_laws_szEntryS a left = some r) :
    Ret Try.prog 32 [s_a.v, (.int .i64 left)] w (fun u w' => ∃ _ : Unit, u = (.int .i64 r) ∧ Gives X S w [] [] w') := by
  unfold x_laws_szEntryS at hx
  refine enter Try.func32 rfl Try.ntmps32 (by kernel_rfl) rfl ?_
  have hM := St.enter oL hS
  have hM := hM.addE (r := rV s_a.v (cSl 3 fDEntry a)) a_a_0
  refine wc_seq ?_
  refine wc_region ?_
  refine wv rfl (r_assign rfl) ?_
  refine wl_nil ?_
  refine sq_n ?_
  refine wc_seq ?_
  refine wc_region ?_
  refine wv rfl (r_move rfl) ?_
  refine wv rfl (r_move rfl) ?_
  refine wv rfl (r_lenC Try.underlying58 rfl (hM.seeR (.head _))) ?_
  obtain ⟨hg75, hx⟩ := xg_some hx
  refine wv rfl (r_sub rfl rfl hg75) ?_
  refine wv rfl (r_assign rfl) ?_
  refine wl_nil ?_
  refine sq_n ?_
  refine wc_seq ?_
  refine wc_seq ?_
  refine wc_region ?_
  refine wv rfl (r_move rfl) ?_
  refine wv rfl (r_lss rfl rfl) ?_
  refine wl_nil ?_
  refine sq_n ?_
  refine wc_cond rfl (fun hc79 => ?_) (fun hc79 => ?_)
  · replace hx := xif_t hc79 hx
    refine wc_seq ?_
    refine wc_region ?_
    refine wv rfl (r_assign rfl) ?_
    refine wl_nil ?_
    refine sq_n ?_
    refine wc_ret ?_
    refine sq_ret ?_
    obtain rfl := Option.some.inj hx
    refine fin_ret [(.int .i64 (-1))] ⟨rfl, trivial⟩ ?_
    replace hM := hM.t0
    have hM := hM.fewer rsN
    exact ⟨(), rfl, hM.gives⟩
  · replace hx := xif_f hc79 hx
    refine wc_skip ?_
    refine sq_n ?_
    refine wc_seq ?_
    refine wc_seq ?_
    refine wc_region ?_
    refine wv rfl (r_assign rfl) ?_
    refine wl_nil ?_
    refine sq_n ?_
    refine wc_block ?_
    obtain ⟨y82, hx, hx83⟩ := bind_some' hx
    obtain ⟨m88, hx⟩ := iter_run hx
    refine wc_loop (un fun (m86 : Nat) => un fun (left84 : Int) => fun (i85 : Int) => [(0, s_a.v), (1, (.int .i64 left84)), (5, (.int .i64 i85))]) (un fun (m86 : Nat) => un fun (left84 : Int) => fun (i85 : Int) w' => St ⟨w, X, S⟩ [] [rV s_a.v (cSl 3 fDEntry a)] w' ∧ iterN _ m86 (left84, i85) = some y82) (fun p => p.1) (m88, left - (a.length : Int), 0) ⟨rfl, rfl, rfl, trivial⟩ ⟨hM, hx⟩ ?_
    rintro ⟨m86, left84, i85⟩ w89 ⟨hM, hx⟩
    obtain ⟨m90, z91, rfl, hx, hx92⟩ := iterN_step hx
    unfold x_laws_szEntryS_f0 x_laws_szEntryS_b0 at hx
    try dsimp only at hx
    refine wc_seq ?_
    refine wc_seq ?_
    refine wc_region ?_
    refine wv rfl (r_move rfl) ?_
    refine wv rfl (r_move rfl) ?_
    refine wv rfl (r_lenC Try.underlying58 rfl (hM.seeR (.head _))) ?_
    refine wv rfl (r_lss rfl rfl) ?_
    refine wl_nil ?_
    refine sq_n ?_
    refine wc_cond rfl (fun hc97 => ?_) (fun hc97 => ?_)
    · replace hx := xif_t hc97 hx
      refine wc_skip ?_
      refine sq_n ?_
      refine wc_seq ?_
      refine wc_block ?_
      refine wc_seq ?_
      refine wc_region ?_
      refine wv rfl (r_move rfl) ?_
      refine wv rfl (r_move rfl) ?_
      obtain ⟨hg102, hx⟩ := xg_some hx
      have hi101 : i85.toNat < a.length := by omega
      refine wv rfl (r_ixC Try.underlying58 sz102 rfl rfl (hM.seeR (.head _)) hg102) ?_
      obtain ⟨s104, hM, hc105⟩ := hM.leaf (i := i85.toNat) (j := 2) (.head _) (fun _ => rfl) hi101 rfl
      refine wv rfl (r_ldC (o := i85.toNat * 3) Try.underlying102 sz102 rfl (us := [(.int .i64 ((el a i85.toNat).client)), (.int .i64 ((el a i85.toNat).seq)), s104.v]) rfl (hM.seeR (.tail _ (.head _))) hi101 ⟨(Cs.get (i := i85.toNat) (j := 0) (hM.seeR (.tail _ (.head _))) (fun _ => rfl) hi101 rfl), (Cs.get (i := i85.toNat) (j := 1) (hM.seeR (.tail _ (.head _))) (fun _ => rfl) hi101 rfl), (hc105 _ (Rel.refl _)), trivial⟩) ?_
      refine wv rfl (r_move rfl) ?_
      obtain ⟨r107, h108, hx⟩ := bind_some' hx
      refine w_call rfl rfl (hM.callV fun X S oL hS hR hO => ct_laws_szEntry _ X S (el a i85.toNat) s104 left84 hS (hR _ (.head _)) oL h108) ?_
      rintro _ w109 ⟨rfl, hR110⟩
      have hM := hM.call hR110
      refine wv rfl (r_assign rfl) ?_
      refine wl_nil ?_
      refine sq_n ?_
      refine wc_seq ?_
      refine wc_region ?_
      refine wv rfl (r_move rfl) ?_
      refine wv rfl (r_lss rfl rfl) ?_
      refine wl_nil ?_
      refine sq_n ?_
      refine wc_cond rfl (fun hc114 => ?_) (fun hc114 => ?_)
      · replace hx := xif_t hc114 hx
        refine wc_seq ?_
        refine wc_region ?_
        refine wv rfl (r_assign rfl) ?_
        refine wl_nil ?_
        refine sq_n ?_
        refine wc_ret ?_
        refine bk_ret ?_
        refine sq_ret ?_
        refine lp1_ret ?_
        obtain rfl := Option.some.inj hx
        obtain rfl := Option.some.inj hx92
        replace hx := hx83
        try dsimp only [Sum.elim_inl, Sum.elim_inr] at hx
        refine bk_ret ?_
        refine sq_ret ?_
        obtain rfl := Option.some.inj hx
        refine fin_ret [(.int .i64 (-1))] ⟨rfl, trivial⟩ ?_
        replace hM := hM.t0
        have hM := hM.fewer rsN
        exact ⟨(), rfl, hM.gives⟩
      · replace hx := xif_f hc114 hx
        refine wc_skip ?_
        refine bk_n ?_
        refine sq_n ?_
        refine wc_region ?_
        refine wv rfl (r_move rfl) ?_
        obtain ⟨hg118, hx⟩ := xg_some hx
        refine wv rfl (r_add rfl rfl hg118) ?_
        refine wv rfl (r_assign rfl) ?_
        refine wl_nil ?_
        obtain rfl := Option.some.inj hx
        have hM := hM.fewer (rsC (.tail _ (.head _)) rsN)
        replace hM : St ⟨w, X, S⟩ [] [rV s_a.v (cSl 3 fDEntry a)] _ := hM
        exact lp_end (m90, r107, i85 + 1) (Nat.lt_succ_self _) ⟨rfl, rfl, rfl, trivial⟩ ⟨hM, hx92⟩
    · replace hx := xif_f hc97 hx
      refine wc_exit ?_
      refine sq_exit ?_
      refine lp1_exit ?_
      obtain rfl := Option.some.inj hx
      obtain rfl := Option.some.inj hx92
      replace hx := hx83
      try dsimp only [Sum.elim_inl, Sum.elim_inr] at hx
      refine bk_here ?_
      refine sq_n ?_
      refine wc_seq ?_
      refine wc_region ?_
      refine wv rfl (r_move rfl) ?_
      refine wv rfl (r_assign rfl) ?_
      refine wl_nil ?_
      refine sq_n ?_
      refine wc_ret ?_
      obtain rfl := Option.some.inj hx
      refine fin_ret [(.int .i64 left84)] ⟨rfl, trivial⟩ ?_
      replace hM := hM.t0
      have hM := hM.fewer rsN
      exact ⟨(), rfl, hM.gives⟩

noncomputable def x_laws_toIntS_b0 (a : List Int) (i34 : Int) (l35 : List Int) : Option (Lr (Int × List Int) (List Int)) :=
  bif decide (i34 < (a.length : Int)) then (xg (0 ≤ i34 ∧ i34 < (a.length : Int)) <| xg (0 ≤ i34 ∧ i34 < (l35.length : Int)) <| xg (inI (i34 + 1)) <| some (Lr.go (i34 + 1, l35.set i34.toNat (el a i34.toNat)))) else (some (Lr.out l35))
noncomputable def x_laws_toIntS_f0 (a : List Int) (s79 : Int × List Int) : Option (Lr (Int × List Int) (List Int)) := x_laws_toIntS_b0 a s79.1 s79.2
noncomputable def x_laws_toIntS (a : List Int) : Option (List Int) :=
  xg (0 ≤ (a.length : Int) ∧ (a.length : Int) ≤ 1099511627776) <| Option.bind (iter (x_laws_toIntS_f0 a) (0, List.replicate ((a.length : Int).toNat) 0)) fun (y80 : List Int) => some y80
theorem ct_laws_toIntS (w : World) (X S : Bs) (a : List Int) (s_a : Sv) (hS : ∀ b, S b → b < w.heap.size ∧ ¬ X b) (a_a_0 : (cSl 1 fI a).rd S w s_a.v) (oL : Sep [] X w) {r : List Int} (hx : x_laws_toIntS a = some r) :
    Ret Try.prog 141 [s_a.v] w (fun u w' => ∃ y : Sv, u = y.v ∧ Gives X S w [oC (cSl 1 fI r) y.v] [] w') := by
  unfold x_laws_toIntS at hx
  refine enter Try.func141 rfl Try.ntmps141 (by kernel_rfl) rfl ?_
  have hM := St.enter oL hS
  have hM := hM.addE (r := rV s_a.v (cSl 1 fI a)) a_a_0
  refine wc_seq ?_
  refine wc_region ?_
  refine wv rfl (r_assign rfl) ?_
  refine wl_nil ?_
  refine sq_n ?_
  refine wc_seq ?_
  refine wc_region ?_
  refine wv rfl (r_move rfl) ?_
  refine wv rfl (r_lenC Try.underlying26 rfl (hM.seeR (.head _))) ?_
  obtain ⟨hg89, hx⟩ := xg_some hx
  have hk90 : (a.length : Int) = ((a.length : Int).toNat : Int) := by omega
  refine w_ex rfl (x_make (f := fI) (k := ((a.length : Int).toNat)) 0 Try.underlying26 sz3 (fun _ => rfl) (fun _ => zP (pV _ rfl) zN) (by rw [← hk90]; rfl) (by omega) rfl hM ?_); intro s88 w87 hR91 hM
  refine wv rfl (r_assign rfl) ?_
  refine wl_nil ?_
  refine sq_n ?_
  refine wc_seq ?_
  refine wc_seq ?_
  refine wc_region ?_
  refine wv rfl (r_assign rfl) ?_
  refine wl_nil ?_
  refine sq_n ?_
  refine wc_block ?_
  obtain ⟨y95, hx, hx96⟩ := bind_some' hx
  obtain ⟨m101, hx⟩ := iter_run hx
  refine wc_loop (un fun (m99 : Nat) => un fun (i97 : Int) => fun (l98 : List Int) => [(0, s_a.v), (3, s88.v), (4, (.int .i64 i97))]) (un fun (m99 : Nat) => un fun (i97 : Int) => fun (l98 : List Int) w' => St ⟨w, X, S⟩ [oC (cSl 1 fI l98) s88.v] [rV s_a.v (cSl 1 fI a)] w' ∧ iterN _ m99 (i97, l98) = some y95) (fun p => p.1) (m101, 0, List.replicate ((a.length : Int).toNat) 0) ⟨rfl, rfl, rfl, trivial⟩ ⟨hM, hx⟩ ?_
  rintro ⟨m99, i97, l98⟩ w102 ⟨hM, hx⟩
  obtain ⟨m103, z104, rfl, hx, hx105⟩ := iterN_step hx
  unfold x_laws_toIntS_f0 x_laws_toIntS_b0 at hx
  try dsimp only at hx
  refine wc_seq ?_
  refine wc_seq ?_
  refine wc_region ?_
  refine wv rfl (r_move rfl) ?_
  refine wv rfl (r_move rfl) ?_
  refine wv rfl (r_lenC Try.underlying26 rfl (hM.seeR (.head _))) ?_
  refine wv rfl (r_lss rfl rfl) ?_
  refine wl_nil ?_
  refine sq_n ?_
  refine wc_cond rfl (fun hc110 => ?_) (fun hc110 => ?_)
  · replace hx := xif_t hc110 hx
    refine wc_skip ?_
    refine sq_n ?_
    refine wc_seq ?_
    refine wc_block ?_
    refine wc_region ?_
    refine wv rfl (r_move rfl) ?_
    refine wv rfl (r_move rfl) ?_
    refine wv rfl (r_move rfl) ?_
    refine wv rfl (r_move rfl) ?_
    obtain ⟨hg117, hx⟩ := xg_some hx
    have hi116 : i97.toNat < a.length := by omega
    refine wv rfl (r_ixC Try.underlying26 sz3 rfl rfl (hM.seeR (.head _)) hg117) ?_
    refine wv rfl (r_ld Try.underlying3 rfl rfl (Cs.get (i := i97.toNat) (j := 0) (hM.seeR (.head _)) (fun _ => rfl) hi116 rfl)) ?_
    obtain ⟨hg121, hx⟩ := xg_some hx
    have hi120 : i97.toNat < l98.length := by omega
    refine wv rfl (r_ixC Try.underlying26 sz3 rfl rfl (hM.seeO (.head _)) hg121) ?_
    refine w_exu (x_stE (f := fI) (k := 1) (L := l98) (i := i97.toNat) (j := 0) (el a i97.toNat) [cI (el a i97.toNat)] sz3 (fun _ => rfl) rfl rfl hi120 rfl rfl rfl rfl rfl (fun _ => zP (pV _ rfl) zN) hM ?_); intro w122 hM
    refine wl_nil ?_
    refine bk_n ?_
    refine sq_n ?_
    refine wc_region ?_
    refine wv rfl (r_move rfl) ?_
    obtain ⟨hg126, hx⟩ := xg_some hx
    refine wv rfl (r_add rfl rfl hg126) ?_
    refine wv rfl (r_assign rfl) ?_
    refine wl_nil ?_
    obtain rfl := Option.some.inj hx
    exact lp_end (m103, i97 + 1, l98.set i97.toNat (el a i97.toNat)) (Nat.lt_succ_self _) ⟨rfl, rfl, rfl, trivial⟩ ⟨hM, hx105⟩
  · replace hx := xif_f hc110 hx
    refine wc_exit ?_
    refine sq_exit ?_
    refine lp1_exit ?_
    obtain rfl := Option.some.inj hx
    obtain rfl := Option.some.inj hx105
    replace hx := hx96
    try dsimp only [Sum.elim_inl, Sum.elim_inr] at hx
    refine bk_here ?_
    refine sq_n ?_
    refine wc_seq ?_
    refine wc_region ?_
    refine wv rfl (r_move rfl) ?_
    refine wv rfl (r_assign rfl) ?_
    refine wl_nil ?_
    refine sq_n ?_
    refine wc_ret ?_
    obtain rfl := Option.some.inj hx
    refine fin_ret [s88.v] ⟨rfl, trivial⟩ ?_
    replace hM := hM.t1
    have hM := hM.fewer rsN
    exact ⟨s88, rfl, hM.gives⟩

noncomputable def x_laws_toPart (a : DPart) : Option DPart :=
  Option.bind (x_laws_toIntS a.signs) fun r25 => some (⟨a.kind, a.n, r25⟩ : DPart)
theorem ct_laws_toPart (w : World) (X S : Bs) (a : DPart) (s_a_2 : Sv) (hS : ∀ b, S b → b < w.heap.size ∧ ¬ X b) (a_a_2 : (cSl 1 fI a.signs).rd S w s_a_2.v) (oL : Sep [] X w) {r : DPart} (hx : x_laws_toPart a = some r) :
    Ret Try.prog 133 [(.agg #[(.int .i64 a.kind), (.int .i64 a.n), s_a_2.v])] w (fun u w' => ∃ y : Sv, u = .agg #[(.int .i64 r.kind), (.int .i64 r.n), y.v] ∧ Gives X S w [oC (cSl 1 fI r.signs) y.v] [] w') := by
  unfold x_laws_toPart at hx
  refine enter Try.func133 rfl Try.ntmps133 (by kernel_rfl) rfl ?_
  have hM := St.enter oL hS
  have hM := hM.addE (r := rV s_a_2.v (cSl 1 fI a.signs)) a_a_2
  refine wc_seq ?_
  refine wc_region ?_
  refine w_ex rfl (x_box rfl hM ?_); intro b37 w36 hR38 hM
  replace hM : St ⟨w, X, S⟩ [oBox b37 #[(.int .i64 a.kind), (.int .i64 a.n), s_a_2.v] 137] [rV s_a_2.v (cSl 1 fI a.signs)] _ := hM
  refine w_ex rfl (x_alloc sz77 hM ?_); intro b41 w40 hR42 hM
  replace hM : St ⟨w, X, S⟩ [oBox b41 #[(.int .i64 0), (.int .i64 0), (.slice none 0 0)] 77, oBox b37 #[(.int .i64 a.kind), (.int .i64 a.n), s_a_2.v] 137] [rV s_a_2.v (cSl 1 fI a.signs)] _ := hM
  refine wl_nil ?_
  refine sq_n ?_
  refine wc_seq ?_
  refine wc_region ?_
  refine w_ex rfl (x_alloc sz77 hM ?_); intro b45 w44 hR46 hM
  replace hM : St ⟨w, X, S⟩ [oBox b45 #[(.int .i64 0), (.int .i64 0), (.slice none 0 0)] 77, oBox b41 #[(.int .i64 0), (.int .i64 0), (.slice none 0 0)] 77, oBox b37 #[(.int .i64 a.kind), (.int .i64 a.n), s_a_2.v] 137] [rV s_a_2.v (cSl 1 fI a.signs)] _ := hM
  refine wl_nil ?_
  refine sq_n ?_
  refine wc_seq ?_
  refine wc_region ?_
  refine wv rfl (r_fld Try.underlying137 rfl rfl sz3 rfl) ?_
  refine wv rfl (r_ldB Try.underlying3 rfl rfl hM (.tail _ (.tail _ (.head _))) rfl) ?_
  refine wv rfl (r_fld Try.underlying77 rfl rfl sz3 rfl) ?_
  refine w_exu (x_stB #[(.int .i64 a.kind), (.int .i64 0), (.slice none 0 0)] sz3 rfl rfl rfl rfl rfl rfl hM ?_); intro w51 hM
  refine wl_nil ?_
  refine sq_n ?_
  refine wc_seq ?_
  refine wc_region ?_
  refine wv rfl (r_fld Try.underlying137 rfl rfl sz3 rfl) ?_
  refine wv rfl (r_ldB Try.underlying3 rfl rfl hM (.tail _ (.tail _ (.head _))) rfl) ?_
  refine wv rfl (r_fld Try.underlying77 rfl rfl sz3 rfl) ?_
  refine w_exu (x_stB #[(.int .i64 a.kind), (.int .i64 a.n), (.slice none 0 0)] sz3 rfl rfl rfl rfl rfl rfl hM ?_); intro w56 hM
  refine wl_nil ?_
  refine sq_n ?_
  refine wc_seq ?_
  refine wc_region ?_
  refine wv rfl (r_fld Try.underlying137 rfl rfl sz26 rfl) ?_
  refine wv rfl (r_ldB Try.underlying26 rfl rfl hM (.tail _ (.tail _ (.head _))) rfl) ?_
  obtain ⟨r60, h61, hx⟩ := bind_some' hx
  refine w_call rfl rfl (hM.callO (l := []) fun X S oL hS hR hO => ct_laws_toIntS _ X S a.signs s_a_2 hS (hR _ (.head _)) oL h61) ?_
  rintro _ w62 ⟨s63, rfl, hM⟩
  replace hM : St ⟨w, X, S⟩ [oC (cSl 1 fI r60) s63.v, oBox b45 #[(.int .i64 a.kind), (.int .i64 a.n), (.slice none 0 0)] 77, oBox b41 #[(.int .i64 0), (.int .i64 0), (.slice none 0 0)] 77, oBox b37 #[(.int .i64 a.kind), (.int .i64 a.n), s_a_2.v] 137] [rV s_a_2.v (cSl 1 fI a.signs)] _ := hM
  refine wv rfl (r_fld Try.underlying77 rfl rfl sz26 rfl) ?_
  replace hM := hM.p1
  refine w_exu (x_stB #[(.int .i64 a.kind), (.int .i64 a.n), s63.v] sz26 rfl rfl rfl rfl rfl rfl hM ?_); intro w66 hM
  refine wl_nil ?_
  refine sq_n ?_
  refine wc_seq ?_
  refine wc_region ?_
  refine wv rfl (r_ldBS Try.underlying77 sz77 rfl (us := [(.int .i64 a.kind), (.int .i64 a.n), s63.v]) rfl hM (.head _) rfl) ?_
  replace hM := hM.p2
  refine w_exu (x_stB #[(.int .i64 a.kind), (.int .i64 a.n), s63.v] sz77 rfl rfl rfl rfl rfl rfl hM ?_); intro w69 hM
  refine wl_nil ?_
  refine sq_n ?_
  refine wc_ret ?_
  obtain rfl := Option.some.inj hx
  refine fin_ret [(.agg #[(.int .i64 a.kind), (.int .i64 a.n), s63.v])] ⟨rv_box Try.underlying77 sz77 rfl rfl hM (.head _), trivial⟩ ?_
  replace hM := hM.p2
  replace hM := hM.t1
  have hM := hM.fewer rsN
  exact ⟨s63, rfl, hM.gives⟩

noncomputable def x_laws_toPartS_b0 (a : List DPart) (i41 : Int) (l42 : List DPart) : Option (Lr (Int × List DPart) (List DPart)) :=
  bif decide (i41 < (a.length : Int)) then (xg (0 ≤ i41 ∧ i41 < (a.length : Int)) <| Option.bind (x_laws_toPart (el a i41.toNat)) fun r86 => xg (0 ≤ i41 ∧ i41 < (l42.length : Int)) <| xg (inI (i41 + 1)) <| some (Lr.go (i41 + 1, l42.set i41.toNat r86))) else (some (Lr.out l42))
noncomputable def x_laws_toPartS_f0 (a : List DPart) (s100 : Int × List DPart) : Option (Lr (Int × List DPart) (List DPart)) := x_laws_toPartS_b0 a s100.1 s100.2
noncomputable def x_laws_toPartS (a : List DPart) : Option (List DPart) :=
  xg (0 ≤ (a.length : Int) ∧ (a.length : Int) ≤ 1099511627776) <| Option.bind (iter (x_laws_toPartS_f0 a) (0, List.replicate ((a.length : Int).toNat) (default : DPart))) fun (y101 : List DPart) => some y101
theorem ct_laws_toPartS (w : World) (X S : Bs) (a : List DPart) (s_a : Sv) (hS : ∀ b, S b → b < w.heap.size ∧ ¬ X b) (a_a_0 : (cSl 3 fDPart a).rd S w s_a.v) (oL : Sep [] X w) {r : List DPart} (hx : x_laws_toPartS a = some r) :
    Ret Try.prog 111 [s_a.v] w (fun u w' => ∃ y : Sv, u = y.v ∧ Gives X S w [oC (cSl 3 fDPart r) y.v] [] w') := by
  unfold x_laws_toPartS at hx
  refine enter Try.func111 rfl Try.ntmps111 (by kernel_rfl) rfl ?_
  have hM := St.enter oL hS
  have hM := hM.addE (r := rV s_a.v (cSl 3 fDPart a)) a_a_0
  refine wc_seq ?_
  refine wc_region ?_
  refine wv rfl (r_assign rfl) ?_
  refine wl_nil ?_
  refine sq_n ?_
  refine wc_seq ?_
  refine wc_region ?_
  refine wv rfl (r_move rfl) ?_
  refine wv rfl (r_lenC Try.underlying100 rfl (hM.seeR (.head _))) ?_
  obtain ⟨hg110, hx⟩ := xg_some hx
  have hk111 : (a.length : Int) = ((a.length : Int).toNat : Int) := by omega
  refine w_ex rfl (x_make (f := fDPart) (k := ((a.length : Int).toNat)) (default : DPart) Try.underlying29 sz77 (fun _ => rfl) (fun _ => zP (pV _ rfl) (zP (pV _ rfl) (zP (pN _ _) zN))) (by rw [← hk111]; rfl) (by omega) rfl hM ?_); intro s109 w108 hR112 hM
  refine wv rfl (r_assign rfl) ?_
  refine wl_nil ?_
  refine sq_n ?_
  refine wc_seq ?_
  refine wc_seq ?_
  refine wc_region ?_
  refine wv rfl (r_assign rfl) ?_
  refine wl_nil ?_
  refine sq_n ?_
  refine wc_block ?_
  obtain ⟨y116, hx, hx117⟩ := bind_some' hx
  obtain ⟨m122, hx⟩ := iter_run hx
  refine wc_loop (un fun (m120 : Nat) => un fun (i118 : Int) => fun (l119 : List DPart) => [(0, s_a.v), (3, s109.v), (4, (.int .i64 i118))]) (un fun (m120 : Nat) => un fun (i118 : Int) => fun (l119 : List DPart) w' => St ⟨w, X, S⟩ [oC (cSl 3 fDPart l119) s109.v] [rV s_a.v (cSl 3 fDPart a)] w' ∧ iterN _ m120 (i118, l119) = some y116) (fun p => p.1) (m122, 0, List.replicate ((a.length : Int).toNat) (default : DPart)) ⟨rfl, rfl, rfl, trivial⟩ ⟨hM, hx⟩ ?_
  rintro ⟨m120, i118, l119⟩ w123 ⟨hM, hx⟩
  obtain ⟨m124, z125, rfl, hx, hx126⟩ := iterN_step hx
  unfold x_laws_toPartS_f0 x_laws_toPartS_b0 at hx
  try dsimp only at hx
  refine wc_seq ?_
  refine wc_seq ?_
  refine wc_region ?_
  refine wv rfl (r_move rfl) ?_
  refine wv rfl (r_move rfl) ?_
  refine wv rfl (r_lenC Try.underlying100 rfl (hM.seeR (.head _))) ?_
  refine wv rfl (r_lss rfl rfl) ?_
  refine wl_nil ?_
  refine sq_n ?_
  refine wc_cond rfl (fun hc131 => ?_) (fun hc131 => ?_)
  · replace hx := xif_t hc131 hx
    refine wc_skip ?_
    refine sq_n ?_
    refine wc_seq ?_
    refine wc_block ?_
    refine wc_region ?_
    refine wv rfl (r_move rfl) ?_
    refine wv rfl (r_move rfl) ?_
    refine wv rfl (r_move rfl) ?_
    refine wv rfl (r_move rfl) ?_
    obtain ⟨hg138, hx⟩ := xg_some hx
    have hi137 : i118.toNat < a.length := by omega
    refine wv rfl (r_ixC Try.underlying100 sz137 rfl rfl (hM.seeR (.head _)) hg138) ?_
    obtain ⟨s140, hM, hc141⟩ := hM.leaf (i := i118.toNat) (j := 2) (.head _) (fun _ => rfl) hi137 rfl
    refine wv rfl (r_ldC (o := i118.toNat * 3) Try.underlying137 sz137 rfl (us := [(.int .i64 ((el a i118.toNat).kind)), (.int .i64 ((el a i118.toNat).n)), s140.v]) rfl (hM.seeR (.tail _ (.head _))) hi137 ⟨(Cs.get (i := i118.toNat) (j := 0) (hM.seeR (.tail _ (.head _))) (fun _ => rfl) hi137 rfl), (Cs.get (i := i118.toNat) (j := 1) (hM.seeR (.tail _ (.head _))) (fun _ => rfl) hi137 rfl), (hc141 _ (Rel.refl _)), trivial⟩) ?_
    obtain ⟨r142, h143, hx⟩ := bind_some' hx
    refine w_call rfl rfl (hM.callO (l := []) fun X S oL hS hR hO => ct_laws_toPart _ X S (el a i118.toNat) s140 hS (hR _ (.head _)) oL h143) ?_
    rintro _ w144 ⟨s145, rfl, hM⟩
    replace hM : St ⟨w, X, S⟩ [oC (cSl 1 fI r142.signs) s145.v, oC (cSl 3 fDPart l119) s109.v] [rV s140.v (cSl 1 fI ((el a i118.toNat).signs)), rV s_a.v (cSl 3 fDPart a)] _ := hM
    obtain ⟨hg149, hx⟩ := xg_some hx
    have hi148 : i118.toNat < l119.length := by omega
    refine wv rfl (r_ixC Try.underlying29 sz77 rfl rfl (hM.seeO (.tail _ (.head _))) hg149) ?_
    replace hM := hM.p1
    refine w_exu (x_stE (f := fDPart) (k := 3) (L := l119) (i := i118.toNat) (j := 0) r142 [cI r142.kind, cI r142.n, cSl 1 fI r142.signs] sz77 (fun _ => rfl) rfl rfl hi148 rfl rfl rfl rfl rfl (fun _ => zP (pV _ rfl) (zP (pV _ rfl) (zO zN))) hM ?_); intro w150 hM
    refine wl_nil ?_
    refine bk_n ?_
    refine sq_n ?_
    refine wc_region ?_
    refine wv rfl (r_move rfl) ?_
    obtain ⟨hg154, hx⟩ := xg_some hx
    refine wv rfl (r_add rfl rfl hg154) ?_
    refine wv rfl (r_assign rfl) ?_
    refine wl_nil ?_
    obtain rfl := Option.some.inj hx
    have hM := hM.fewer (rsC (.tail _ (.head _)) rsN)
    replace hM : St ⟨w, X, S⟩ [oC (cSl 3 fDPart (l119.set i118.toNat r142)) s109.v] [rV s_a.v (cSl 3 fDPart a)] _ := hM
    exact lp_end (m124, i118 + 1, l119.set i118.toNat r142) (Nat.lt_succ_self _) ⟨rfl, rfl, rfl, trivial⟩ ⟨hM, hx126⟩
  · replace hx := xif_f hc131 hx
    refine wc_exit ?_
    refine sq_exit ?_
    refine lp1_exit ?_
    obtain rfl := Option.some.inj hx
    obtain rfl := Option.some.inj hx126
    replace hx := hx117
    try dsimp only [Sum.elim_inl, Sum.elim_inr] at hx
    refine bk_here ?_
    refine sq_n ?_
    refine wc_seq ?_
    refine wc_region ?_
    refine wv rfl (r_move rfl) ?_
    refine wv rfl (r_assign rfl) ?_
    refine wl_nil ?_
    refine sq_n ?_
    refine wc_ret ?_
    obtain rfl := Option.some.inj hx
    refine fin_ret [s109.v] ⟨rfl, trivial⟩ ?_
    replace hM := hM.t1
    have hM := hM.fewer rsN
    exact ⟨s109, rfl, hM.gives⟩

noncomputable def x_laws_toEntry (a : DEntry) : Option DEntry :=
  Option.bind (x_laws_toPartS a.o) fun r25 => some (⟨a.client, a.seq, r25⟩ : DEntry)
theorem ct_laws_toEntry (w : World) (X S : Bs) (a : DEntry) (s_a_2 : Sv) (hS : ∀ b, S b → b < w.heap.size ∧ ¬ X b) (a_a_2 : (cSl 3 fDPart a.o).rd S w s_a_2.v) (oL : Sep [] X w) {r : DEntry} (hx : x_laws_toEntry a = some r) :
    Ret Try.prog 73 [(.agg #[(.int .i64 a.client), (.int .i64 a.seq), s_a_2.v])] w (fun u w' => ∃ y : Sv, u = .agg #[(.int .i64 r.client), (.int .i64 r.seq), y.v] ∧ Gives X S w [oC (cSl 3 fDPart r.o) y.v] [] w') := by
  unfold x_laws_toEntry at hx
  refine enter Try.func73 rfl Try.ntmps73 (by kernel_rfl) rfl ?_
  have hM := St.enter oL hS
  have hM := hM.addE (r := rV s_a_2.v (cSl 3 fDPart a.o)) a_a_2
  refine wc_seq ?_
  refine wc_region ?_
  refine w_ex rfl (x_box rfl hM ?_); intro b37 w36 hR38 hM
  replace hM : St ⟨w, X, S⟩ [oBox b37 #[(.int .i64 a.client), (.int .i64 a.seq), s_a_2.v] 102] [rV s_a_2.v (cSl 3 fDPart a.o)] _ := hM
  refine w_ex rfl (x_alloc sz104 hM ?_); intro b41 w40 hR42 hM
  replace hM : St ⟨w, X, S⟩ [oBox b41 #[(.int .i64 0), (.int .i64 0), (.slice none 0 0)] 104, oBox b37 #[(.int .i64 a.client), (.int .i64 a.seq), s_a_2.v] 102] [rV s_a_2.v (cSl 3 fDPart a.o)] _ := hM
  refine wl_nil ?_
  refine sq_n ?_
  refine wc_seq ?_
  refine wc_region ?_
  refine w_ex rfl (x_alloc sz104 hM ?_); intro b45 w44 hR46 hM
  replace hM : St ⟨w, X, S⟩ [oBox b45 #[(.int .i64 0), (.int .i64 0), (.slice none 0 0)] 104, oBox b41 #[(.int .i64 0), (.int .i64 0), (.slice none 0 0)] 104, oBox b37 #[(.int .i64 a.client), (.int .i64 a.seq), s_a_2.v] 102] [rV s_a_2.v (cSl 3 fDPart a.o)] _ := hM
  refine wl_nil ?_
  refine sq_n ?_
  refine wc_seq ?_
  refine wc_region ?_
  refine wv rfl (r_fld Try.underlying102 rfl rfl sz3 rfl) ?_
  refine wv rfl (r_ldB Try.underlying3 rfl rfl hM (.tail _ (.tail _ (.head _))) rfl) ?_
  refine wv rfl (r_fld Try.underlying104 rfl rfl sz3 rfl) ?_
  refine w_exu (x_stB #[(.int .i64 a.client), (.int .i64 0), (.slice none 0 0)] sz3 rfl rfl rfl rfl rfl rfl hM ?_); intro w51 hM
  refine wl_nil ?_
  refine sq_n ?_
  refine wc_seq ?_
  refine wc_region ?_
  refine wv rfl (r_fld Try.underlying102 rfl rfl sz3 rfl) ?_
  refine wv rfl (r_ldB Try.underlying3 rfl rfl hM (.tail _ (.tail _ (.head _))) rfl) ?_
  refine wv rfl (r_fld Try.underlying104 rfl rfl sz3 rfl) ?_
  refine w_exu (x_stB #[(.int .i64 a.client), (.int .i64 a.seq), (.slice none 0 0)] sz3 rfl rfl rfl rfl rfl rfl hM ?_); intro w56 hM
  refine wl_nil ?_
  refine sq_n ?_
  refine wc_seq ?_
  refine wc_region ?_
  refine wv rfl (r_fld Try.underlying102 rfl rfl sz100 rfl) ?_
  refine wv rfl (r_ldB Try.underlying100 rfl rfl hM (.tail _ (.tail _ (.head _))) rfl) ?_
  obtain ⟨r60, h61, hx⟩ := bind_some' hx
  refine w_call rfl rfl (hM.callO (l := []) fun X S oL hS hR hO => ct_laws_toPartS _ X S a.o s_a_2 hS (hR _ (.head _)) oL h61) ?_
  rintro _ w62 ⟨s63, rfl, hM⟩
  replace hM : St ⟨w, X, S⟩ [oC (cSl 3 fDPart r60) s63.v, oBox b45 #[(.int .i64 a.client), (.int .i64 a.seq), (.slice none 0 0)] 104, oBox b41 #[(.int .i64 0), (.int .i64 0), (.slice none 0 0)] 104, oBox b37 #[(.int .i64 a.client), (.int .i64 a.seq), s_a_2.v] 102] [rV s_a_2.v (cSl 3 fDPart a.o)] _ := hM
  refine wv rfl (r_fld Try.underlying104 rfl rfl sz29 rfl) ?_
  replace hM := hM.p1
  refine w_exu (x_stB #[(.int .i64 a.client), (.int .i64 a.seq), s63.v] sz29 rfl rfl rfl rfl rfl rfl hM ?_); intro w66 hM
  refine wl_nil ?_
  refine sq_n ?_
  refine wc_seq ?_
  refine wc_region ?_
  refine wv rfl (r_ldBS Try.underlying104 sz104 rfl (us := [(.int .i64 a.client), (.int .i64 a.seq), s63.v]) rfl hM (.head _) rfl) ?_
  replace hM := hM.p2
  refine w_exu (x_stB #[(.int .i64 a.client), (.int .i64 a.seq), s63.v] sz104 rfl rfl rfl rfl rfl rfl hM ?_); intro w69 hM
  refine wl_nil ?_
  refine sq_n ?_
  refine wc_ret ?_
  obtain rfl := Option.some.inj hx
  refine fin_ret [(.agg #[(.int .i64 a.client), (.int .i64 a.seq), s63.v])] ⟨rv_box Try.underlying104 sz104 rfl rfl hM (.head _), trivial⟩ ?_
  replace hM := hM.p2
  replace hM := hM.t1
  have hM := hM.fewer rsN
  exact ⟨s63, rfl, hM.gives⟩

noncomputable def x_laws_toEntryS_b0 (a : List DEntry) (i41 : Int) (l42 : List DEntry) : Option (Lr (Int × List DEntry) (List DEntry)) :=
  bif decide (i41 < (a.length : Int)) then (xg (0 ≤ i41 ∧ i41 < (a.length : Int)) <| Option.bind (x_laws_toEntry (el a i41.toNat)) fun r86 => xg (0 ≤ i41 ∧ i41 < (l42.length : Int)) <| xg (inI (i41 + 1)) <| some (Lr.go (i41 + 1, l42.set i41.toNat r86))) else (some (Lr.out l42))
noncomputable def x_laws_toEntryS_f0 (a : List DEntry) (s100 : Int × List DEntry) : Option (Lr (Int × List DEntry) (List DEntry)) := x_laws_toEntryS_b0 a s100.1 s100.2
noncomputable def x_laws_toEntryS (a : List DEntry) : Option (List DEntry) :=
  xg (0 ≤ (a.length : Int) ∧ (a.length : Int) ≤ 1099511627776) <| Option.bind (iter (x_laws_toEntryS_f0 a) (0, List.replicate ((a.length : Int).toNat) (default : DEntry))) fun (y101 : List DEntry) => some y101
theorem ct_laws_toEntryS (w : World) (X S : Bs) (a : List DEntry) (s_a : Sv) (hS : ∀ b, S b → b < w.heap.size ∧ ¬ X b) (a_a_0 : (cSl 3 fDEntry a).rd S w s_a.v) (oL : Sep [] X w) {r : List DEntry} (hx : x_laws_toEntryS a = some r) :
    Ret Try.prog 34 [s_a.v] w (fun u w' => ∃ y : Sv, u = y.v ∧ Gives X S w [oC (cSl 3 fDEntry r) y.v] [] w') := by
  unfold x_laws_toEntryS at hx
  refine enter Try.func34 rfl Try.ntmps34 (by kernel_rfl) rfl ?_
  have hM := St.enter oL hS
  have hM := hM.addE (r := rV s_a.v (cSl 3 fDEntry a)) a_a_0
  refine wc_seq ?_
  refine wc_region ?_
  refine wv rfl (r_assign rfl) ?_
  refine wl_nil ?_
  refine sq_n ?_
  refine wc_seq ?_
  refine wc_region ?_
  refine wv rfl (r_move rfl) ?_
  refine wv rfl (r_lenC Try.underlying58 rfl (hM.seeR (.head _))) ?_
  obtain ⟨hg110, hx⟩ := xg_some hx
  have hk111 : (a.length : Int) = ((a.length : Int).toNat : Int) := by omega
  refine w_ex rfl (x_make (f := fDEntry) (k := ((a.length : Int).toNat)) (default : DEntry) Try.underlying60 sz104 (fun _ => rfl) (fun _ => zP (pV _ rfl) (zP (pV _ rfl) (zP (pN _ _) zN))) (by rw [← hk111]; rfl) (by omega) rfl hM ?_); intro s109 w108 hR112 hM
  refine wv rfl (r_assign rfl) ?_
  refine wl_nil ?_
  refine sq_n ?_
  refine wc_seq ?_
  refine wc_seq ?_
  refine wc_region ?_
  refine wv rfl (r_assign rfl) ?_
  refine wl_nil ?_
  refine sq_n ?_
  refine wc_block ?_
  obtain ⟨y116, hx, hx117⟩ := bind_some' hx
  obtain ⟨m122, hx⟩ := iter_run hx
  refine wc_loop (un fun (m120 : Nat) => un fun (i118 : Int) => fun (l119 : List DEntry) => [(0, s_a.v), (3, s109.v), (4, (.int .i64 i118))]) (un fun (m120 : Nat) => un fun (i118 : Int) => fun (l119 : List DEntry) w' => St ⟨w, X, S⟩ [oC (cSl 3 fDEntry l119) s109.v] [rV s_a.v (cSl 3 fDEntry a)] w' ∧ iterN _ m120 (i118, l119) = some y116) (fun p => p.1) (m122, 0, List.replicate ((a.length : Int).toNat) (default : DEntry)) ⟨rfl, rfl, rfl, trivial⟩ ⟨hM, hx⟩ ?_
  rintro ⟨m120, i118, l119⟩ w123 ⟨hM, hx⟩
  obtain ⟨m124, z125, rfl, hx, hx126⟩ := iterN_step hx
  unfold x_laws_toEntryS_f0 x_laws_toEntryS_b0 at hx
  try dsimp only at hx
  refine wc_seq ?_
  refine wc_seq ?_
  refine wc_region ?_
  refine wv rfl (r_move rfl) ?_
  refine wv rfl (r_move rfl) ?_
  refine wv rfl (r_lenC Try.underlying58 rfl (hM.seeR (.head _))) ?_
  refine wv rfl (r_lss rfl rfl) ?_
  refine wl_nil ?_
  refine sq_n ?_
  refine wc_cond rfl (fun hc131 => ?_) (fun hc131 => ?_)
  · replace hx := xif_t hc131 hx
    refine wc_skip ?_
    refine sq_n ?_
    refine wc_seq ?_
    refine wc_block ?_
    refine wc_region ?_
    refine wv rfl (r_move rfl) ?_
    refine wv rfl (r_move rfl) ?_
    refine wv rfl (r_move rfl) ?_
    refine wv rfl (r_move rfl) ?_
    obtain ⟨hg138, hx⟩ := xg_some hx
    have hi137 : i118.toNat < a.length := by omega
    refine wv rfl (r_ixC Try.underlying58 sz102 rfl rfl (hM.seeR (.head _)) hg138) ?_
    obtain ⟨s140, hM, hc141⟩ := hM.leaf (i := i118.toNat) (j := 2) (.head _) (fun _ => rfl) hi137 rfl
    refine wv rfl (r_ldC (o := i118.toNat * 3) Try.underlying102 sz102 rfl (us := [(.int .i64 ((el a i118.toNat).client)), (.int .i64 ((el a i118.toNat).seq)), s140.v]) rfl (hM.seeR (.tail _ (.head _))) hi137 ⟨(Cs.get (i := i118.toNat) (j := 0) (hM.seeR (.tail _ (.head _))) (fun _ => rfl) hi137 rfl), (Cs.get (i := i118.toNat) (j := 1) (hM.seeR (.tail _ (.head _))) (fun _ => rfl) hi137 rfl), (hc141 _ (Rel.refl _)), trivial⟩) ?_
    obtain ⟨r142, h143, hx⟩ := bind_some' hx
    refine w_call rfl rfl (hM.callO (l := []) fun X S oL hS hR hO => ct_laws_toEntry _ X S (el a i118.toNat) s140 hS (hR _ (.head _)) oL h143) ?_
    rintro _ w144 ⟨s145, rfl, hM⟩
    replace hM : St ⟨w, X, S⟩ [oC (cSl 3 fDPart r142.o) s145.v, oC (cSl 3 fDEntry l119) s109.v] [rV s140.v (cSl 3 fDPart ((el a i118.toNat).o)), rV s_a.v (cSl 3 fDEntry a)] _ := hM
    obtain ⟨hg149, hx⟩ := xg_some hx
    have hi148 : i118.toNat < l119.length := by omega
    refine wv rfl (r_ixC Try.underlying60 sz104 rfl rfl (hM.seeO (.tail _ (.head _))) hg149) ?_
    replace hM := hM.p1
    refine w_exu (x_stE (f := fDEntry) (k := 3) (L := l119) (i := i118.toNat) (j := 0) r142 [cI r142.client, cI r142.seq, cSl 3 fDPart r142.o] sz104 (fun _ => rfl) rfl rfl hi148 rfl rfl rfl rfl rfl (fun _ => zP (pV _ rfl) (zP (pV _ rfl) (zO zN))) hM ?_); intro w150 hM
    refine wl_nil ?_
    refine bk_n ?_
    refine sq_n ?_
    refine wc_region ?_
    refine wv rfl (r_move rfl) ?_
    obtain ⟨hg154, hx⟩ := xg_some hx
    refine wv rfl (r_add rfl rfl hg154) ?_
    refine wv rfl (r_assign rfl) ?_
    refine wl_nil ?_
    obtain rfl := Option.some.inj hx
    have hM := hM.fewer (rsC (.tail _ (.head _)) rsN)
    replace hM : St ⟨w, X, S⟩ [oC (cSl 3 fDEntry (l119.set i118.toNat r142)) s109.v] [rV s_a.v (cSl 3 fDEntry a)] _ := hM
    exact lp_end (m124, i118 + 1, l119.set i118.toNat r142) (Nat.lt_succ_self _) ⟨rfl, rfl, rfl, trivial⟩ ⟨hM, hx126⟩
  · replace hx := xif_f hc131 hx
    refine wc_exit ?_
    refine sq_exit ?_
    refine lp1_exit ?_
    obtain rfl := Option.some.inj hx
    obtain rfl := Option.some.inj hx126
    replace hx := hx117
    try dsimp only [Sum.elim_inl, Sum.elim_inr] at hx
    refine bk_here ?_
    refine sq_n ?_
    refine wc_seq ?_
    refine wc_region ?_
    refine wv rfl (r_move rfl) ?_
    refine wv rfl (r_assign rfl) ?_
    refine wl_nil ?_
    refine sq_n ?_
    refine wc_ret ?_
    obtain rfl := Option.some.inj hx
    refine fin_ret [s109.v] ⟨rfl, trivial⟩ ?_
    replace hM := hM.t1
    have hM := hM.fewer rsN
    exact ⟨s109, rfl, hM.gives⟩

noncomputable def x_laws_eqIntS_b0 (a : List Int) (b : List Int) (i9 : Int) : Option (Lr Int (Sum Unit Unit)) :=
  bif decide (i9 < (a.length : Int)) then (xg (0 ≤ i9 ∧ i9 < (a.length : Int)) <| xg (0 ≤ i9 ∧ i9 < (b.length : Int)) <| bif !decide ((el a i9.toNat) = (el b i9.toNat)) then (some (Lr.out (Sum.inr (())))) else (xg (inI (i9 + 1)) <| some (Lr.go (i9 + 1)))) else (some (Lr.out (Sum.inl ())))
noncomputable def x_laws_eqIntS_f0 (a : List Int) (b : List Int) (s58 : Int) : Option (Lr Int (Sum Unit Unit)) := x_laws_eqIntS_b0 a b s58
noncomputable def x_laws_eqIntS (a : List Int) (b : List Int) : Option Bool :=
  bif !decide ((a.length : Int) = (b.length : Int)) then (some false) else (Option.bind (iter (x_laws_eqIntS_f0 a b) 0) fun (y59 : Sum Unit Unit) => Sum.elim (fun _y60 => some true) (fun _y61 => some false) y59)
theorem ct_laws_eqIntS (w : World) (X S : Bs) (a : List Int) (s_a : Sv) (b : List Int) (s_b : Sv) (hS : ∀ b, S b → b < w.heap.size ∧ ¬ X b) (a_a_0 : (cSl 1 fI a).rd S w s_a.v) (a_b_0 : (cSl 1 fI b).rd S w s_b.v) (oL : Sep [] X w) {r : Bool} (hx : x_laws_eqIntS a b = some r) :
    Ret Try.prog 142 [s_a.v, s_b.v] w (fun u w' => ∃ _ : Unit, u = (.bool r) ∧ Gives X S w [] [] w') := by
  unfold x_laws_eqIntS at hx
  refine enter Try.func142 rfl Try.ntmps142 (by kernel_rfl) rfl ?_
  have hM := St.enter oL hS
  have hM := hM.addE (r := rV s_a.v (cSl 1 fI a)) a_a_0
  have hM := hM.addE (r := rV s_b.v (cSl 1 fI b)) a_b_0
  refine wc_seq ?_
  refine wc_region ?_
  refine wv rfl (r_assign rfl) ?_
  refine wl_nil ?_
  refine sq_n ?_
  refine wc_seq ?_
  refine wc_seq ?_
  refine wc_region ?_
  refine wv rfl (r_move rfl) ?_
  refine wv rfl (r_lenC Try.underlying26 rfl (hM.seeR (.tail _ (.head _)))) ?_
  refine wv rfl (r_move rfl) ?_
  refine wv rfl (r_lenC Try.underlying26 rfl (hM.seeR (.head _))) ?_
  refine wv rfl (r_neq rfl rfl) ?_
  refine wl_nil ?_
  refine sq_n ?_
  refine wc_cond rfl (fun hc69 => ?_) (fun hc69 => ?_)
  · replace hx := xif_t hc69 hx
    refine wc_seq ?_
    refine wc_region ?_
    refine wv rfl (r_assign rfl) ?_
    refine wl_nil ?_
    refine sq_n ?_
    refine wc_ret ?_
    refine sq_ret ?_
    obtain rfl := Option.some.inj hx
    refine fin_ret [(.bool false)] ⟨rfl, trivial⟩ ?_
    replace hM := hM.t0
    have hM := hM.fewer rsN
    exact ⟨(), rfl, hM.gives⟩
  · replace hx := xif_f hc69 hx
    refine wc_skip ?_
    refine sq_n ?_
    refine wc_seq ?_
    refine wc_seq ?_
    refine wc_region ?_
    refine wv rfl (r_assign rfl) ?_
    refine wl_nil ?_
    refine sq_n ?_
    refine wc_block ?_
    obtain ⟨y72, hx, hx73⟩ := bind_some' hx
    have hM := hM.fewer (rsC (.tail _ (.head _)) (rsC (.head _) rsN))
    replace hM : St ⟨w, X, S⟩ [] [rV s_a.v (cSl 1 fI a), rV s_b.v (cSl 1 fI b)] _ := hM
    obtain ⟨m77, hx⟩ := iter_run hx
    refine wc_loop (un fun (m75 : Nat) => fun (i74 : Int) => [(0, s_a.v), (1, s_b.v), (5, (.int .i64 i74))]) (un fun (m75 : Nat) => fun (i74 : Int) w' => St ⟨w, X, S⟩ [] [rV s_a.v (cSl 1 fI a), rV s_b.v (cSl 1 fI b)] w' ∧ iterN _ m75 i74 = some y72) (fun p => p.1) (m77, 0) ⟨rfl, rfl, rfl, trivial⟩ ⟨hM, hx⟩ ?_
    rintro ⟨m75, i74⟩ w78 ⟨hM, hx⟩
    obtain ⟨m79, z80, rfl, hx, hx81⟩ := iterN_step hx
    unfold x_laws_eqIntS_f0 x_laws_eqIntS_b0 at hx
    try dsimp only at hx
    refine wc_seq ?_
    refine wc_seq ?_
    refine wc_region ?_
    refine wv rfl (r_move rfl) ?_
    refine wv rfl (r_move rfl) ?_
    refine wv rfl (r_lenC Try.underlying26 rfl (hM.seeR (.head _))) ?_
    refine wv rfl (r_lss rfl rfl) ?_
    refine wl_nil ?_
    refine sq_n ?_
    refine wc_cond rfl (fun hc86 => ?_) (fun hc86 => ?_)
    · replace hx := xif_t hc86 hx
      refine wc_skip ?_
      refine sq_n ?_
      refine wc_seq ?_
      refine wc_block ?_
      refine wc_seq ?_
      refine wc_draw [(0, 0), (1, 0), (2, 0), (3, 0), (4, 0), (5, 0), (6, 0), (7, 0), (8, 0)] Try_mixed (by kernel_rfl) rfl (by kernel_rfl) rfl ?_
      refine ov rfl (fun w' h' => r_move rfl) ?_
      refine ov rfl (fun w' h' => r_move rfl) ?_
      obtain ⟨hg91, hx⟩ := xg_some hx
      have hi90 : i74.toNat < a.length := by omega
      refine ov rfl (fun w' h' => r_ixC Try.underlying26 sz3 rfl rfl ((hM.call h').seeR (.head _)) hg91) ?_
      refine ov rfl (fun w' h' => r_ld Try.underlying3 rfl rfl (Cs.get (i := i74.toNat) (j := 0) ((hM.call h').seeR (.head _)) (fun _ => rfl) hi90 rfl)) ?_
      refine ov rfl (fun w' h' => r_move rfl) ?_
      refine ov rfl (fun w' h' => r_move rfl) ?_
      obtain ⟨hg97, hx⟩ := xg_some hx
      have hi96 : i74.toNat < b.length := by omega
      refine ov rfl (fun w' h' => r_ixC Try.underlying26 sz3 rfl rfl ((hM.call h').seeR (.tail _ (.head _))) hg97) ?_
      refine ov rfl (fun w' h' => r_ld Try.underlying3 rfl rfl (Cs.get (i := i74.toNat) (j := 0) ((hM.call h').seeR (.tail _ (.head _))) (fun _ => rfl) hi96 rfl)) ?_
      refine ov rfl (fun w' h' => r_neq rfl rfl) ?_
      refine o_nil fun w100 hw101 => ?_
      have hM := hM.call hw101
      refine sq_n ?_
      refine wc_cond rfl (fun hc102 => ?_) (fun hc102 => ?_)
      · replace hx := xif_t hc102 hx
        refine wc_seq ?_
        refine wc_region ?_
        refine wv rfl (r_assign rfl) ?_
        refine wl_nil ?_
        refine sq_n ?_
        refine wc_ret ?_
        refine bk_ret ?_
        refine sq_ret ?_
        refine lp1_ret ?_
        obtain rfl := Option.some.inj hx
        obtain rfl := Option.some.inj hx81
        replace hx := hx73
        try dsimp only [Sum.elim_inl, Sum.elim_inr] at hx
        refine bk_ret ?_
        refine sq_ret ?_
        obtain rfl := Option.some.inj hx
        refine fin_ret [(.bool false)] ⟨rfl, trivial⟩ ?_
        replace hM := hM.t0
        have hM := hM.fewer rsN
        exact ⟨(), rfl, hM.gives⟩
      · replace hx := xif_f hc102 hx
        refine wc_skip ?_
        refine bk_n ?_
        refine sq_n ?_
        refine wc_region ?_
        refine wv rfl (r_move rfl) ?_
        obtain ⟨hg106, hx⟩ := xg_some hx
        refine wv rfl (r_add rfl rfl hg106) ?_
        refine wv rfl (r_assign rfl) ?_
        refine wl_nil ?_
        obtain rfl := Option.some.inj hx
        exact lp_end (m79, i74 + 1) (Nat.lt_succ_self _) ⟨rfl, rfl, rfl, trivial⟩ ⟨hM, hx81⟩
    · replace hx := xif_f hc86 hx
      refine wc_exit ?_
      refine sq_exit ?_
      refine lp1_exit ?_
      obtain rfl := Option.some.inj hx
      obtain rfl := Option.some.inj hx81
      replace hx := hx73
      try dsimp only [Sum.elim_inl, Sum.elim_inr] at hx
      refine bk_here ?_
      refine sq_n ?_
      refine wc_seq ?_
      refine wc_region ?_
      refine wv rfl (r_assign rfl) ?_
      refine wl_nil ?_
      refine sq_n ?_
      refine wc_ret ?_
      obtain rfl := Option.some.inj hx
      refine fin_ret [(.bool true)] ⟨rfl, trivial⟩ ?_
      replace hM := hM.t0
      have hM := hM.fewer rsN
      exact ⟨(), rfl, hM.gives⟩

noncomputable def x_laws_eqPart (a : DPart) (b : DPart) : Option Bool :=
  bif !decide (a.kind = b.kind) then (some false) else (bif !decide (a.n = b.n) then (some false) else (Option.bind (x_laws_eqIntS a.signs b.signs) fun r26 => bif !r26 then (some false) else (some true)))
theorem ct_laws_eqPart (w : World) (X S : Bs) (a : DPart) (s_a_2 : Sv) (b : DPart) (s_b_2 : Sv) (hS : ∀ b, S b → b < w.heap.size ∧ ¬ X b) (a_a_2 : (cSl 1 fI a.signs).rd S w s_a_2.v) (a_b_2 : (cSl 1 fI b.signs).rd S w s_b_2.v) (oL : Sep [] X w) {r : Bool} (hx : x_laws_eqPart a b = some r) :
    Ret Try.prog 134 [(.agg #[(.int .i64 a.kind), (.int .i64 a.n), s_a_2.v]), (.agg #[(.int .i64 b.kind), (.int .i64 b.n), s_b_2.v])] w (fun u w' => ∃ _ : Unit, u = (.bool r) ∧ Gives X S w [] [] w') := by
  unfold x_laws_eqPart at hx
  refine enter Try.func134 rfl Try.ntmps134 (by kernel_rfl) rfl ?_
  have hM := St.enter oL hS
  have hM := hM.addE (r := rV s_a_2.v (cSl 1 fI a.signs)) a_a_2
  have hM := hM.addE (r := rV s_b_2.v (cSl 1 fI b.signs)) a_b_2
  refine wc_seq ?_
  refine wc_region ?_
  refine w_ex rfl (x_box rfl hM ?_); intro b34 w33 hR35 hM
  replace hM : St ⟨w, X, S⟩ [oBox b34 #[(.int .i64 a.kind), (.int .i64 a.n), s_a_2.v] 77] [rV s_b_2.v (cSl 1 fI b.signs), rV s_a_2.v (cSl 1 fI a.signs)] _ := hM
  refine w_ex rfl (x_box rfl hM ?_); intro b38 w37 hR39 hM
  replace hM : St ⟨w, X, S⟩ [oBox b38 #[(.int .i64 b.kind), (.int .i64 b.n), s_b_2.v] 77, oBox b34 #[(.int .i64 a.kind), (.int .i64 a.n), s_a_2.v] 77] [rV s_b_2.v (cSl 1 fI b.signs), rV s_a_2.v (cSl 1 fI a.signs)] _ := hM
  refine wv rfl (r_assign rfl) ?_
  refine wl_nil ?_
  refine sq_n ?_
  refine wc_seq ?_
  refine wc_seq ?_
  refine wc_region ?_
  refine wv rfl (r_fld Try.underlying77 rfl rfl sz3 rfl) ?_
  refine wv rfl (r_ldB Try.underlying3 rfl rfl hM (.tail _ (.head _)) rfl) ?_
  refine wv rfl (r_fld Try.underlying77 rfl rfl sz3 rfl) ?_
  refine wv rfl (r_ldB Try.underlying3 rfl rfl hM (.head _) rfl) ?_
  refine wv rfl (r_neq rfl rfl) ?_
  refine wl_nil ?_
  refine sq_n ?_
  refine wc_cond rfl (fun hc47 => ?_) (fun hc47 => ?_)
  · replace hx := xif_t hc47 hx
    refine wc_seq ?_
    refine wc_region ?_
    refine wv rfl (r_assign rfl) ?_
    refine wl_nil ?_
    refine sq_n ?_
    refine wc_ret ?_
    refine sq_ret ?_
    obtain rfl := Option.some.inj hx
    refine fin_ret [(.bool false)] ⟨rfl, trivial⟩ ?_
    replace hM := hM.t0
    have hM := hM.fewer rsN
    exact ⟨(), rfl, hM.gives⟩
  · replace hx := xif_f hc47 hx
    refine wc_skip ?_
    refine sq_n ?_
    refine wc_seq ?_
    refine wc_seq ?_
    refine wc_region ?_
    refine wv rfl (r_fld Try.underlying77 rfl rfl sz3 rfl) ?_
    refine wv rfl (r_ldB Try.underlying3 rfl rfl hM (.tail _ (.head _)) rfl) ?_
    refine wv rfl (r_fld Try.underlying77 rfl rfl sz3 rfl) ?_
    refine wv rfl (r_ldB Try.underlying3 rfl rfl hM (.head _) rfl) ?_
    refine wv rfl (r_neq rfl rfl) ?_
    refine wl_nil ?_
    refine sq_n ?_
    refine wc_cond rfl (fun hc54 => ?_) (fun hc54 => ?_)
    · replace hx := xif_t hc54 hx
      refine wc_seq ?_
      refine wc_region ?_
      refine wv rfl (r_assign rfl) ?_
      refine wl_nil ?_
      refine sq_n ?_
      refine wc_ret ?_
      refine sq_ret ?_
      obtain rfl := Option.some.inj hx
      refine fin_ret [(.bool false)] ⟨rfl, trivial⟩ ?_
      replace hM := hM.t0
      have hM := hM.fewer rsN
      exact ⟨(), rfl, hM.gives⟩
    · replace hx := xif_f hc54 hx
      refine wc_skip ?_
      refine sq_n ?_
      refine wc_seq ?_
      refine wc_seq ?_
      refine wc_region ?_
      refine wv rfl (r_fld Try.underlying77 rfl rfl sz26 rfl) ?_
      refine wv rfl (r_ldB Try.underlying26 rfl rfl hM (.tail _ (.head _)) rfl) ?_
      refine wv rfl (r_fld Try.underlying77 rfl rfl sz26 rfl) ?_
      refine wv rfl (r_ldB Try.underlying26 rfl rfl hM (.head _) rfl) ?_
      obtain ⟨r60, h61, hx⟩ := bind_some' hx
      refine w_call rfl rfl (hM.callV fun X S oL hS hR hO => ct_laws_eqIntS _ X S a.signs s_a_2 b.signs s_b_2 hS (hR _ (.tail _ (.head _))) (hR _ (.head _)) oL h61) ?_
      rintro _ w62 ⟨rfl, hR63⟩
      have hM := hM.call hR63
      refine wv rfl (r_not rfl) ?_
      refine wl_nil ?_
      refine sq_n ?_
      refine wc_cond rfl (fun hc65 => ?_) (fun hc65 => ?_)
      · replace hx := xif_t hc65 hx
        refine wc_seq ?_
        refine wc_region ?_
        refine wv rfl (r_assign rfl) ?_
        refine wl_nil ?_
        refine sq_n ?_
        refine wc_ret ?_
        refine sq_ret ?_
        obtain rfl := Option.some.inj hx
        refine fin_ret [(.bool false)] ⟨rfl, trivial⟩ ?_
        replace hM := hM.t0
        have hM := hM.fewer rsN
        exact ⟨(), rfl, hM.gives⟩
      · replace hx := xif_f hc65 hx
        refine wc_skip ?_
        refine sq_n ?_
        refine wc_seq ?_
        refine wc_region ?_
        refine wv rfl (r_assign rfl) ?_
        refine wl_nil ?_
        refine sq_n ?_
        refine wc_ret ?_
        obtain rfl := Option.some.inj hx
        refine fin_ret [(.bool true)] ⟨rfl, trivial⟩ ?_
        replace hM := hM.t0
        have hM := hM.fewer rsN
        exact ⟨(), rfl, hM.gives⟩

noncomputable def x_laws_eqPartS_b0 (a : List DPart) (b : List DPart) (i9 : Int) : Option (Lr Int (Sum Unit Unit)) :=
  bif decide (i9 < (a.length : Int)) then (xg (0 ≤ i9 ∧ i9 < (a.length : Int)) <| xg (0 ≤ i9 ∧ i9 < (b.length : Int)) <| Option.bind (x_laws_eqPart (el a i9.toNat) (el b i9.toNat)) fun r61 => bif !r61 then (some (Lr.out (Sum.inr (())))) else (xg (inI (i9 + 1)) <| some (Lr.go (i9 + 1)))) else (some (Lr.out (Sum.inl ())))
noncomputable def x_laws_eqPartS_f0 (a : List DPart) (b : List DPart) (s72 : Int) : Option (Lr Int (Sum Unit Unit)) := x_laws_eqPartS_b0 a b s72
noncomputable def x_laws_eqPartS (a : List DPart) (b : List DPart) : Option Bool :=
  bif !decide ((a.length : Int) = (b.length : Int)) then (some false) else (Option.bind (iter (x_laws_eqPartS_f0 a b) 0) fun (y73 : Sum Unit Unit) => Sum.elim (fun _y74 => some true) (fun _y75 => some false) y73)
theorem ct_laws_eqPartS (w : World) (X S : Bs) (a : List DPart) (s_a : Sv) (b : List DPart) (s_b : Sv) (hS : ∀ b, S b → b < w.heap.size ∧ ¬ X b) (a_a_0 : (cSl 3 fDPart a).rd S w s_a.v) (a_b_0 : (cSl 3 fDPart b).rd S w s_b.v) (oL : Sep [] X w) {r : Bool} (hx : x_laws_eqPartS a b = some r) :
    Ret Try.prog 112 [s_a.v, s_b.v] w (fun u w' => ∃ _ : Unit, u = (.bool r) ∧ Gives X S w [] [] w') := by
  unfold x_laws_eqPartS at hx
  refine enter Try.func112 rfl Try.ntmps112 (by kernel_rfl) rfl ?_
  have hM := St.enter oL hS
  have hM := hM.addE (r := rV s_a.v (cSl 3 fDPart a)) a_a_0
  have hM := hM.addE (r := rV s_b.v (cSl 3 fDPart b)) a_b_0
  refine wc_seq ?_
  refine wc_region ?_
  refine wv rfl (r_assign rfl) ?_
  refine wl_nil ?_
  refine sq_n ?_
  refine wc_seq ?_
  refine wc_seq ?_
  refine wc_region ?_
  refine wv rfl (r_move rfl) ?_
  refine wv rfl (r_lenC Try.underlying29 rfl (hM.seeR (.tail _ (.head _)))) ?_
  refine wv rfl (r_move rfl) ?_
  refine wv rfl (r_lenC Try.underlying29 rfl (hM.seeR (.head _))) ?_
  refine wv rfl (r_neq rfl rfl) ?_
  refine wl_nil ?_
  refine sq_n ?_
  refine wc_cond rfl (fun hc83 => ?_) (fun hc83 => ?_)
  · replace hx := xif_t hc83 hx
    refine wc_seq ?_
    refine wc_region ?_
    refine wv rfl (r_assign rfl) ?_
    refine wl_nil ?_
    refine sq_n ?_
    refine wc_ret ?_
    refine sq_ret ?_
    obtain rfl := Option.some.inj hx
    refine fin_ret [(.bool false)] ⟨rfl, trivial⟩ ?_
    replace hM := hM.t0
    have hM := hM.fewer rsN
    exact ⟨(), rfl, hM.gives⟩
  · replace hx := xif_f hc83 hx
    refine wc_skip ?_
    refine sq_n ?_
    refine wc_seq ?_
    refine wc_seq ?_
    refine wc_region ?_
    refine wv rfl (r_assign rfl) ?_
    refine wl_nil ?_
    refine sq_n ?_
    refine wc_block ?_
    obtain ⟨y86, hx, hx87⟩ := bind_some' hx
    have hM := hM.fewer (rsC (.tail _ (.head _)) (rsC (.head _) rsN))
    replace hM : St ⟨w, X, S⟩ [] [rV s_a.v (cSl 3 fDPart a), rV s_b.v (cSl 3 fDPart b)] _ := hM
    obtain ⟨m91, hx⟩ := iter_run hx
    refine wc_loop (un fun (m89 : Nat) => fun (i88 : Int) => [(0, s_a.v), (1, s_b.v), (5, (.int .i64 i88))]) (un fun (m89 : Nat) => fun (i88 : Int) w' => St ⟨w, X, S⟩ [] [rV s_a.v (cSl 3 fDPart a), rV s_b.v (cSl 3 fDPart b)] w' ∧ iterN _ m89 i88 = some y86) (fun p => p.1) (m91, 0) ⟨rfl, rfl, rfl, trivial⟩ ⟨hM, hx⟩ ?_
    rintro ⟨m89, i88⟩ w92 ⟨hM, hx⟩
    obtain ⟨m93, z94, rfl, hx, hx95⟩ := iterN_step hx
    unfold x_laws_eqPartS_f0 x_laws_eqPartS_b0 at hx
    try dsimp only at hx
    refine wc_seq ?_
    refine wc_seq ?_
    refine wc_region ?_
    refine wv rfl (r_move rfl) ?_
    refine wv rfl (r_move rfl) ?_
    refine wv rfl (r_lenC Try.underlying29 rfl (hM.seeR (.head _))) ?_
    refine wv rfl (r_lss rfl rfl) ?_
    refine wl_nil ?_
    refine sq_n ?_
    refine wc_cond rfl (fun hc100 => ?_) (fun hc100 => ?_)
    · replace hx := xif_t hc100 hx
      refine wc_skip ?_
      refine sq_n ?_
      refine wc_seq ?_
      refine wc_block ?_
      refine wc_seq ?_
      refine wc_draw [(0, 0), (1, 0), (2, 0), (3, 0), (4, 0), (5, 0), (6, 0), (7, 0), (8, 0), (9, 0)] Try_mixed (by kernel_rfl) rfl (by kernel_rfl) rfl ?_
      refine ov rfl (fun w' h' => r_move rfl) ?_
      refine ov rfl (fun w' h' => r_move rfl) ?_
      obtain ⟨hg105, hx⟩ := xg_some hx
      have hi104 : i88.toNat < a.length := by omega
      refine ov rfl (fun w' h' => r_ixC Try.underlying29 sz77 rfl rfl ((hM.call h').seeR (.head _)) hg105) ?_
      obtain ⟨s107, hM, hc108⟩ := hM.leaf (i := i88.toNat) (j := 2) (.head _) (fun _ => rfl) hi104 rfl
      refine ov rfl (fun w' h' => r_ldC (o := i88.toNat * 3) Try.underlying77 sz77 rfl (us := [(.int .i64 ((el a i88.toNat).kind)), (.int .i64 ((el a i88.toNat).n)), s107.v]) rfl ((hM.call h').seeR (.tail _ (.head _))) hi104 ⟨(Cs.get (i := i88.toNat) (j := 0) ((hM.call h').seeR (.tail _ (.head _))) (fun _ => rfl) hi104 rfl), (Cs.get (i := i88.toNat) (j := 1) ((hM.call h').seeR (.tail _ (.head _))) (fun _ => rfl) hi104 rfl), (hc108 w' h'), trivial⟩) ?_
      refine ov rfl (fun w' h' => r_move rfl) ?_
      refine ov rfl (fun w' h' => r_move rfl) ?_
      obtain ⟨hg113, hx⟩ := xg_some hx
      have hi112 : i88.toNat < b.length := by omega
      refine ov rfl (fun w' h' => r_ixC Try.underlying29 sz77 rfl rfl ((hM.call h').seeR (.tail _ (.tail _ (.head _)))) hg113) ?_
      obtain ⟨s115, hM, hc116⟩ := hM.leaf (i := i88.toNat) (j := 2) (.tail _ (.tail _ (.head _))) (fun _ => rfl) hi112 rfl
      refine ov rfl (fun w' h' => r_ldC (o := i88.toNat * 3) Try.underlying77 sz77 rfl (us := [(.int .i64 ((el b i88.toNat).kind)), (.int .i64 ((el b i88.toNat).n)), s115.v]) rfl ((hM.call h').seeR (.tail _ (.tail _ (.tail _ (.head _))))) hi112 ⟨(Cs.get (i := i88.toNat) (j := 0) ((hM.call h').seeR (.tail _ (.tail _ (.tail _ (.head _))))) (fun _ => rfl) hi112 rfl), (Cs.get (i := i88.toNat) (j := 1) ((hM.call h').seeR (.tail _ (.tail _ (.tail _ (.head _))))) (fun _ => rfl) hi112 rfl), (hc116 w' h'), trivial⟩) ?_
      obtain ⟨r117, h118, hx⟩ := bind_some' hx
      refine oc rfl rfl (fun w' h' => (hM.call h').callV fun X S oL hS hR hO => ct_laws_eqPart _ X S (el a i88.toNat) s107 (el b i88.toNat) s115 hS (hR _ (.tail _ (.head _))) (hR _ (.head _)) oL h118) ?_
      refine ov rfl (fun w' h' => r_not rfl) ?_
      refine o_nil fun w121 hw122 => ?_
      have hM := hM.call hw122
      refine sq_n ?_
      refine wc_cond rfl (fun hc123 => ?_) (fun hc123 => ?_)
      · replace hx := xif_t hc123 hx
        refine wc_seq ?_
        refine wc_region ?_
        refine wv rfl (r_assign rfl) ?_
        refine wl_nil ?_
        refine sq_n ?_
        refine wc_ret ?_
        refine bk_ret ?_
        refine sq_ret ?_
        refine lp1_ret ?_
        obtain rfl := Option.some.inj hx
        obtain rfl := Option.some.inj hx95
        replace hx := hx87
        try dsimp only [Sum.elim_inl, Sum.elim_inr] at hx
        refine bk_ret ?_
        refine sq_ret ?_
        obtain rfl := Option.some.inj hx
        refine fin_ret [(.bool false)] ⟨rfl, trivial⟩ ?_
        replace hM := hM.t0
        have hM := hM.fewer rsN
        exact ⟨(), rfl, hM.gives⟩
      · replace hx := xif_f hc123 hx
        refine wc_skip ?_
        refine bk_n ?_
        refine sq_n ?_
        refine wc_region ?_
        refine wv rfl (r_move rfl) ?_
        obtain ⟨hg127, hx⟩ := xg_some hx
        refine wv rfl (r_add rfl rfl hg127) ?_
        refine wv rfl (r_assign rfl) ?_
        refine wl_nil ?_
        obtain rfl := Option.some.inj hx
        have hM := hM.fewer (rsC (.tail _ (.tail _ (.head _))) (rsC (.tail _ (.tail _ (.tail _ (.head _)))) rsN))
        replace hM : St ⟨w, X, S⟩ [] [rV s_a.v (cSl 3 fDPart a), rV s_b.v (cSl 3 fDPart b)] _ := hM
        exact lp_end (m93, i88 + 1) (Nat.lt_succ_self _) ⟨rfl, rfl, rfl, trivial⟩ ⟨hM, hx95⟩
    · replace hx := xif_f hc100 hx
      refine wc_exit ?_
      refine sq_exit ?_
      refine lp1_exit ?_
      obtain rfl := Option.some.inj hx
      obtain rfl := Option.some.inj hx95
      replace hx := hx87
      try dsimp only [Sum.elim_inl, Sum.elim_inr] at hx
      refine bk_here ?_
      refine sq_n ?_
      refine wc_seq ?_
      refine wc_region ?_
      refine wv rfl (r_assign rfl) ?_
      refine wl_nil ?_
      refine sq_n ?_
      refine wc_ret ?_
      obtain rfl := Option.some.inj hx
      refine fin_ret [(.bool true)] ⟨rfl, trivial⟩ ?_
      replace hM := hM.t0
      have hM := hM.fewer rsN
      exact ⟨(), rfl, hM.gives⟩

noncomputable def x_laws_eqEntry (a : DEntry) (b : DEntry) : Option Bool :=
  bif !decide (a.client = b.client) then (some false) else (bif !decide (a.seq = b.seq) then (some false) else (Option.bind (x_laws_eqPartS a.o b.o) fun r26 => bif !r26 then (some false) else (some true)))
theorem ct_laws_eqEntry (w : World) (X S : Bs) (a : DEntry) (s_a_2 : Sv) (b : DEntry) (s_b_2 : Sv) (hS : ∀ b, S b → b < w.heap.size ∧ ¬ X b) (a_a_2 : (cSl 3 fDPart a.o).rd S w s_a_2.v) (a_b_2 : (cSl 3 fDPart b.o).rd S w s_b_2.v) (oL : Sep [] X w) {r : Bool} (hx : x_laws_eqEntry a b = some r) :
    Ret Try.prog 76 [(.agg #[(.int .i64 a.client), (.int .i64 a.seq), s_a_2.v]), (.agg #[(.int .i64 b.client), (.int .i64 b.seq), s_b_2.v])] w (fun u w' => ∃ _ : Unit, u = (.bool r) ∧ Gives X S w [] [] w') := by
  unfold x_laws_eqEntry at hx
  refine enter Try.func76 rfl Try.ntmps76 (by kernel_rfl) rfl ?_
  have hM := St.enter oL hS
  have hM := hM.addE (r := rV s_a_2.v (cSl 3 fDPart a.o)) a_a_2
  have hM := hM.addE (r := rV s_b_2.v (cSl 3 fDPart b.o)) a_b_2
  refine wc_seq ?_
  refine wc_region ?_
  refine w_ex rfl (x_box rfl hM ?_); intro b34 w33 hR35 hM
  replace hM : St ⟨w, X, S⟩ [oBox b34 #[(.int .i64 a.client), (.int .i64 a.seq), s_a_2.v] 104] [rV s_b_2.v (cSl 3 fDPart b.o), rV s_a_2.v (cSl 3 fDPart a.o)] _ := hM
  refine w_ex rfl (x_box rfl hM ?_); intro b38 w37 hR39 hM
  replace hM : St ⟨w, X, S⟩ [oBox b38 #[(.int .i64 b.client), (.int .i64 b.seq), s_b_2.v] 104, oBox b34 #[(.int .i64 a.client), (.int .i64 a.seq), s_a_2.v] 104] [rV s_b_2.v (cSl 3 fDPart b.o), rV s_a_2.v (cSl 3 fDPart a.o)] _ := hM
  refine wv rfl (r_assign rfl) ?_
  refine wl_nil ?_
  refine sq_n ?_
  refine wc_seq ?_
  refine wc_seq ?_
  refine wc_region ?_
  refine wv rfl (r_fld Try.underlying104 rfl rfl sz3 rfl) ?_
  refine wv rfl (r_ldB Try.underlying3 rfl rfl hM (.tail _ (.head _)) rfl) ?_
  refine wv rfl (r_fld Try.underlying104 rfl rfl sz3 rfl) ?_
  refine wv rfl (r_ldB Try.underlying3 rfl rfl hM (.head _) rfl) ?_
  refine wv rfl (r_neq rfl rfl) ?_
  refine wl_nil ?_
  refine sq_n ?_
  refine wc_cond rfl (fun hc47 => ?_) (fun hc47 => ?_)
  · replace hx := xif_t hc47 hx
    refine wc_seq ?_
    refine wc_region ?_
    refine wv rfl (r_assign rfl) ?_
    refine wl_nil ?_
    refine sq_n ?_
    refine wc_ret ?_
    refine sq_ret ?_
    obtain rfl := Option.some.inj hx
    refine fin_ret [(.bool false)] ⟨rfl, trivial⟩ ?_
    replace hM := hM.t0
    have hM := hM.fewer rsN
    exact ⟨(), rfl, hM.gives⟩
  · replace hx := xif_f hc47 hx
    refine wc_skip ?_
    refine sq_n ?_
    refine wc_seq ?_
    refine wc_seq ?_
    refine wc_region ?_
    refine wv rfl (r_fld Try.underlying104 rfl rfl sz3 rfl) ?_
    refine wv rfl (r_ldB Try.underlying3 rfl rfl hM (.tail _ (.head _)) rfl) ?_
    refine wv rfl (r_fld Try.underlying104 rfl rfl sz3 rfl) ?_
    refine wv rfl (r_ldB Try.underlying3 rfl rfl hM (.head _) rfl) ?_
    refine wv rfl (r_neq rfl rfl) ?_
    refine wl_nil ?_
    refine sq_n ?_
    refine wc_cond rfl (fun hc54 => ?_) (fun hc54 => ?_)
    · replace hx := xif_t hc54 hx
      refine wc_seq ?_
      refine wc_region ?_
      refine wv rfl (r_assign rfl) ?_
      refine wl_nil ?_
      refine sq_n ?_
      refine wc_ret ?_
      refine sq_ret ?_
      obtain rfl := Option.some.inj hx
      refine fin_ret [(.bool false)] ⟨rfl, trivial⟩ ?_
      replace hM := hM.t0
      have hM := hM.fewer rsN
      exact ⟨(), rfl, hM.gives⟩
    · replace hx := xif_f hc54 hx
      refine wc_skip ?_
      refine sq_n ?_
      refine wc_seq ?_
      refine wc_seq ?_
      refine wc_region ?_
      refine wv rfl (r_fld Try.underlying104 rfl rfl sz29 rfl) ?_
      refine wv rfl (r_ldB Try.underlying29 rfl rfl hM (.tail _ (.head _)) rfl) ?_
      refine wv rfl (r_fld Try.underlying104 rfl rfl sz29 rfl) ?_
      refine wv rfl (r_ldB Try.underlying29 rfl rfl hM (.head _) rfl) ?_
      obtain ⟨r60, h61, hx⟩ := bind_some' hx
      refine w_call rfl rfl (hM.callV fun X S oL hS hR hO => ct_laws_eqPartS _ X S a.o s_a_2 b.o s_b_2 hS (hR _ (.tail _ (.head _))) (hR _ (.head _)) oL h61) ?_
      rintro _ w62 ⟨rfl, hR63⟩
      have hM := hM.call hR63
      refine wv rfl (r_not rfl) ?_
      refine wl_nil ?_
      refine sq_n ?_
      refine wc_cond rfl (fun hc65 => ?_) (fun hc65 => ?_)
      · replace hx := xif_t hc65 hx
        refine wc_seq ?_
        refine wc_region ?_
        refine wv rfl (r_assign rfl) ?_
        refine wl_nil ?_
        refine sq_n ?_
        refine wc_ret ?_
        refine sq_ret ?_
        obtain rfl := Option.some.inj hx
        refine fin_ret [(.bool false)] ⟨rfl, trivial⟩ ?_
        replace hM := hM.t0
        have hM := hM.fewer rsN
        exact ⟨(), rfl, hM.gives⟩
      · replace hx := xif_f hc65 hx
        refine wc_skip ?_
        refine sq_n ?_
        refine wc_seq ?_
        refine wc_region ?_
        refine wv rfl (r_assign rfl) ?_
        refine wl_nil ?_
        refine sq_n ?_
        refine wc_ret ?_
        obtain rfl := Option.some.inj hx
        refine fin_ret [(.bool true)] ⟨rfl, trivial⟩ ?_
        replace hM := hM.t0
        have hM := hM.fewer rsN
        exact ⟨(), rfl, hM.gives⟩

noncomputable def x_laws_eqEntryS_b0 (a : List DEntry) (b : List DEntry) (i9 : Int) : Option (Lr Int (Sum Unit Unit)) :=
  bif decide (i9 < (a.length : Int)) then (xg (0 ≤ i9 ∧ i9 < (a.length : Int)) <| xg (0 ≤ i9 ∧ i9 < (b.length : Int)) <| Option.bind (x_laws_eqEntry (el a i9.toNat) (el b i9.toNat)) fun r61 => bif !r61 then (some (Lr.out (Sum.inr (())))) else (xg (inI (i9 + 1)) <| some (Lr.go (i9 + 1)))) else (some (Lr.out (Sum.inl ())))
noncomputable def x_laws_eqEntryS_f0 (a : List DEntry) (b : List DEntry) (s72 : Int) : Option (Lr Int (Sum Unit Unit)) := x_laws_eqEntryS_b0 a b s72
noncomputable def x_laws_eqEntryS (a : List DEntry) (b : List DEntry) : Option Bool :=
  bif !decide ((a.length : Int) = (b.length : Int)) then (some false) else (Option.bind (iter (x_laws_eqEntryS_f0 a b) 0) fun (y73 : Sum Unit Unit) => Sum.elim (fun _y74 => some true) (fun _y75 => some false) y73)
theorem ct_laws_eqEntryS (w : World) (X S : Bs) (a : List DEntry) (s_a : Sv) (b : List DEntry) (s_b : Sv) (hS : ∀ b, S b → b < w.heap.size ∧ ¬ X b) (a_a_0 : (cSl 3 fDEntry a).rd S w s_a.v) (a_b_0 : (cSl 3 fDEntry b).rd S w s_b.v) (oL : Sep [] X w) {r : Bool} (hx : x_laws_eqEntryS a b = some r) :
    Ret Try.prog 36 [s_a.v, s_b.v] w (fun u w' => ∃ _ : Unit, u = (.bool r) ∧ Gives X S w [] [] w') := by
  unfold x_laws_eqEntryS at hx
  refine enter Try.func36 rfl Try.ntmps36 (by kernel_rfl) rfl ?_
  have hM := St.enter oL hS
  have hM := hM.addE (r := rV s_a.v (cSl 3 fDEntry a)) a_a_0
  have hM := hM.addE (r := rV s_b.v (cSl 3 fDEntry b)) a_b_0
  refine wc_seq ?_
  refine wc_region ?_
  refine wv rfl (r_assign rfl) ?_
  refine wl_nil ?_
  refine sq_n ?_
  refine wc_seq ?_
  refine wc_seq ?_
  refine wc_region ?_
  refine wv rfl (r_move rfl) ?_
  refine wv rfl (r_lenC Try.underlying60 rfl (hM.seeR (.tail _ (.head _)))) ?_
  refine wv rfl (r_move rfl) ?_
  refine wv rfl (r_lenC Try.underlying60 rfl (hM.seeR (.head _))) ?_
  refine wv rfl (r_neq rfl rfl) ?_
  refine wl_nil ?_
  refine sq_n ?_
  refine wc_cond rfl (fun hc83 => ?_) (fun hc83 => ?_)
  · replace hx := xif_t hc83 hx
    refine wc_seq ?_
    refine wc_region ?_
    refine wv rfl (r_assign rfl) ?_
    refine wl_nil ?_
    refine sq_n ?_
    refine wc_ret ?_
    refine sq_ret ?_
    obtain rfl := Option.some.inj hx
    refine fin_ret [(.bool false)] ⟨rfl, trivial⟩ ?_
    replace hM := hM.t0
    have hM := hM.fewer rsN
    exact ⟨(), rfl, hM.gives⟩
  · replace hx := xif_f hc83 hx
    refine wc_skip ?_
    refine sq_n ?_
    refine wc_seq ?_
    refine wc_seq ?_
    refine wc_region ?_
    refine wv rfl (r_assign rfl) ?_
    refine wl_nil ?_
    refine sq_n ?_
    refine wc_block ?_
    obtain ⟨y86, hx, hx87⟩ := bind_some' hx
    have hM := hM.fewer (rsC (.tail _ (.head _)) (rsC (.head _) rsN))
    replace hM : St ⟨w, X, S⟩ [] [rV s_a.v (cSl 3 fDEntry a), rV s_b.v (cSl 3 fDEntry b)] _ := hM
    obtain ⟨m91, hx⟩ := iter_run hx
    refine wc_loop (un fun (m89 : Nat) => fun (i88 : Int) => [(0, s_a.v), (1, s_b.v), (5, (.int .i64 i88))]) (un fun (m89 : Nat) => fun (i88 : Int) w' => St ⟨w, X, S⟩ [] [rV s_a.v (cSl 3 fDEntry a), rV s_b.v (cSl 3 fDEntry b)] w' ∧ iterN _ m89 i88 = some y86) (fun p => p.1) (m91, 0) ⟨rfl, rfl, rfl, trivial⟩ ⟨hM, hx⟩ ?_
    rintro ⟨m89, i88⟩ w92 ⟨hM, hx⟩
    obtain ⟨m93, z94, rfl, hx, hx95⟩ := iterN_step hx
    unfold x_laws_eqEntryS_f0 x_laws_eqEntryS_b0 at hx
    try dsimp only at hx
    refine wc_seq ?_
    refine wc_seq ?_
    refine wc_region ?_
    refine wv rfl (r_move rfl) ?_
    refine wv rfl (r_move rfl) ?_
    refine wv rfl (r_lenC Try.underlying60 rfl (hM.seeR (.head _))) ?_
    refine wv rfl (r_lss rfl rfl) ?_
    refine wl_nil ?_
    refine sq_n ?_
    refine wc_cond rfl (fun hc100 => ?_) (fun hc100 => ?_)
    · replace hx := xif_t hc100 hx
      refine wc_skip ?_
      refine sq_n ?_
      refine wc_seq ?_
      refine wc_block ?_
      refine wc_seq ?_
      refine wc_draw [(0, 0), (1, 0), (2, 0), (3, 0), (4, 0), (5, 0), (6, 0), (7, 0), (8, 0), (9, 0)] Try_mixed (by kernel_rfl) rfl (by kernel_rfl) rfl ?_
      refine ov rfl (fun w' h' => r_move rfl) ?_
      refine ov rfl (fun w' h' => r_move rfl) ?_
      obtain ⟨hg105, hx⟩ := xg_some hx
      have hi104 : i88.toNat < a.length := by omega
      refine ov rfl (fun w' h' => r_ixC Try.underlying60 sz104 rfl rfl ((hM.call h').seeR (.head _)) hg105) ?_
      obtain ⟨s107, hM, hc108⟩ := hM.leaf (i := i88.toNat) (j := 2) (.head _) (fun _ => rfl) hi104 rfl
      refine ov rfl (fun w' h' => r_ldC (o := i88.toNat * 3) Try.underlying104 sz104 rfl (us := [(.int .i64 ((el a i88.toNat).client)), (.int .i64 ((el a i88.toNat).seq)), s107.v]) rfl ((hM.call h').seeR (.tail _ (.head _))) hi104 ⟨(Cs.get (i := i88.toNat) (j := 0) ((hM.call h').seeR (.tail _ (.head _))) (fun _ => rfl) hi104 rfl), (Cs.get (i := i88.toNat) (j := 1) ((hM.call h').seeR (.tail _ (.head _))) (fun _ => rfl) hi104 rfl), (hc108 w' h'), trivial⟩) ?_
      refine ov rfl (fun w' h' => r_move rfl) ?_
      refine ov rfl (fun w' h' => r_move rfl) ?_
      obtain ⟨hg113, hx⟩ := xg_some hx
      have hi112 : i88.toNat < b.length := by omega
      refine ov rfl (fun w' h' => r_ixC Try.underlying60 sz104 rfl rfl ((hM.call h').seeR (.tail _ (.tail _ (.head _)))) hg113) ?_
      obtain ⟨s115, hM, hc116⟩ := hM.leaf (i := i88.toNat) (j := 2) (.tail _ (.tail _ (.head _))) (fun _ => rfl) hi112 rfl
      refine ov rfl (fun w' h' => r_ldC (o := i88.toNat * 3) Try.underlying104 sz104 rfl (us := [(.int .i64 ((el b i88.toNat).client)), (.int .i64 ((el b i88.toNat).seq)), s115.v]) rfl ((hM.call h').seeR (.tail _ (.tail _ (.tail _ (.head _))))) hi112 ⟨(Cs.get (i := i88.toNat) (j := 0) ((hM.call h').seeR (.tail _ (.tail _ (.tail _ (.head _))))) (fun _ => rfl) hi112 rfl), (Cs.get (i := i88.toNat) (j := 1) ((hM.call h').seeR (.tail _ (.tail _ (.tail _ (.head _))))) (fun _ => rfl) hi112 rfl), (hc116 w' h'), trivial⟩) ?_
      obtain ⟨r117, h118, hx⟩ := bind_some' hx
      refine oc rfl rfl (fun w' h' => (hM.call h').callV fun X S oL hS hR hO => ct_laws_eqEntry _ X S (el a i88.toNat) s107 (el b i88.toNat) s115 hS (hR _ (.tail _ (.head _))) (hR _ (.head _)) oL h118) ?_
      refine ov rfl (fun w' h' => r_not rfl) ?_
      refine o_nil fun w121 hw122 => ?_
      have hM := hM.call hw122
      refine sq_n ?_
      refine wc_cond rfl (fun hc123 => ?_) (fun hc123 => ?_)
      · replace hx := xif_t hc123 hx
        refine wc_seq ?_
        refine wc_region ?_
        refine wv rfl (r_assign rfl) ?_
        refine wl_nil ?_
        refine sq_n ?_
        refine wc_ret ?_
        refine bk_ret ?_
        refine sq_ret ?_
        refine lp1_ret ?_
        obtain rfl := Option.some.inj hx
        obtain rfl := Option.some.inj hx95
        replace hx := hx87
        try dsimp only [Sum.elim_inl, Sum.elim_inr] at hx
        refine bk_ret ?_
        refine sq_ret ?_
        obtain rfl := Option.some.inj hx
        refine fin_ret [(.bool false)] ⟨rfl, trivial⟩ ?_
        replace hM := hM.t0
        have hM := hM.fewer rsN
        exact ⟨(), rfl, hM.gives⟩
      · replace hx := xif_f hc123 hx
        refine wc_skip ?_
        refine bk_n ?_
        refine sq_n ?_
        refine wc_region ?_
        refine wv rfl (r_move rfl) ?_
        obtain ⟨hg127, hx⟩ := xg_some hx
        refine wv rfl (r_add rfl rfl hg127) ?_
        refine wv rfl (r_assign rfl) ?_
        refine wl_nil ?_
        obtain rfl := Option.some.inj hx
        have hM := hM.fewer (rsC (.tail _ (.tail _ (.head _))) (rsC (.tail _ (.tail _ (.tail _ (.head _)))) rsN))
        replace hM : St ⟨w, X, S⟩ [] [rV s_a.v (cSl 3 fDEntry a), rV s_b.v (cSl 3 fDEntry b)] _ := hM
        exact lp_end (m93, i88 + 1) (Nat.lt_succ_self _) ⟨rfl, rfl, rfl, trivial⟩ ⟨hM, hx95⟩
    · replace hx := xif_f hc100 hx
      refine wc_exit ?_
      refine sq_exit ?_
      refine lp1_exit ?_
      obtain rfl := Option.some.inj hx
      obtain rfl := Option.some.inj hx95
      replace hx := hx87
      try dsimp only [Sum.elim_inl, Sum.elim_inr] at hx
      refine bk_here ?_
      refine sq_n ?_
      refine wc_seq ?_
      refine wc_region ?_
      refine wv rfl (r_assign rfl) ?_
      refine wl_nil ?_
      refine sq_n ?_
      refine wc_ret ?_
      obtain rfl := Option.some.inj hx
      refine fin_ret [(.bool true)] ⟨rfl, trivial⟩ ?_
      replace hM := hM.t0
      have hM := hM.fewer rsN
      exact ⟨(), rfl, hM.gives⟩

noncomputable def x_laws_markIntS_b0 (k26 : Int) (i27 : Int) (l28 : List Int) : Option (Lr (Int × Int × List Int) (Int × List Int)) :=
  bif decide (i27 < (l28.length : Int)) then (xg (0 ≤ i27 ∧ i27 < (l28.length : Int)) <| xg (inI (k26 + 1)) <| xg (inI (i27 + 1)) <| some (Lr.go (k26 + 1, i27 + 1, l28.set i27.toNat k26))) else (some (Lr.out (k26, l28)))
noncomputable def x_laws_markIntS_f0 (s70 : Int × Int × List Int) : Option (Lr (Int × Int × List Int) (Int × List Int)) := x_laws_markIntS_b0 s70.1 s70.2.1 s70.2.2
noncomputable def x_laws_markIntS (a : List Int) (k : Int) : Option (Int × List Int) :=
  Option.bind (iter (x_laws_markIntS_f0) (k, 0, a)) fun (y71 : Int × List Int) => some (y71.1, y71.2)
theorem ct_laws_markIntS (w : World) (X S : Bs) (a : List Int) (s_a : Sv) (k : Int) (hS : ∀ b, S b → b < w.heap.size ∧ ¬ X b)  (oL : Sep [oC (cSl 1 fI a) s_a.v] X w) {r : Int × List Int} (hx : x_laws_markIntS a k = some r) :
    Ret Try.prog 113 [s_a.v, (.int .i64 k)] w (fun u w' => ∃ _ : Unit, u = (.int .i64 r.1) ∧ Gives X S w [oC (cSl 1 fI r.2) s_a.v] [] w') := by
  unfold x_laws_markIntS at hx
  refine enter Try.func113 rfl Try.ntmps113 (by kernel_rfl) rfl ?_
  have hM := St.enter oL hS
  refine wc_seq ?_
  refine wc_region ?_
  refine wv rfl (r_assign rfl) ?_
  refine wl_nil ?_
  refine sq_n ?_
  refine wc_seq ?_
  refine wc_seq ?_
  refine wc_region ?_
  refine wv rfl (r_assign rfl) ?_
  refine wl_nil ?_
  refine sq_n ?_
  refine wc_block ?_
  obtain ⟨y77, hx, hx78⟩ := bind_some' hx
  obtain ⟨m84, hx⟩ := iter_run hx
  refine wc_loop (un fun (m82 : Nat) => un fun (k79 : Int) => un fun (i80 : Int) => fun (l81 : List Int) => [(0, s_a.v), (1, (.int .i64 k79)), (5, (.int .i64 i80))]) (un fun (m82 : Nat) => un fun (k79 : Int) => un fun (i80 : Int) => fun (l81 : List Int) w' => St ⟨w, X, S⟩ [oC (cSl 1 fI l81) s_a.v] [] w' ∧ iterN _ m82 (k79, i80, l81) = some y77) (fun p => p.1) (m84, k, 0, a) ⟨rfl, rfl, rfl, trivial⟩ ⟨hM, hx⟩ ?_
  rintro ⟨m82, k79, i80, l81⟩ w85 ⟨hM, hx⟩
  obtain ⟨m86, z87, rfl, hx, hx88⟩ := iterN_step hx
  unfold x_laws_markIntS_f0 x_laws_markIntS_b0 at hx
  try dsimp only at hx
  refine wc_seq ?_
  refine wc_seq ?_
  refine wc_region ?_
  refine wv rfl (r_move rfl) ?_
  refine wv rfl (r_move rfl) ?_
  refine wv rfl (r_lenC Try.underlying26 rfl (hM.seeO (.head _))) ?_
  refine wv rfl (r_lss rfl rfl) ?_
  refine wl_nil ?_
  refine sq_n ?_
  refine wc_cond rfl (fun hc93 => ?_) (fun hc93 => ?_)
  · replace hx := xif_t hc93 hx
    refine wc_skip ?_
    refine sq_n ?_
    refine wc_seq ?_
    refine wc_block ?_
    refine wc_seq ?_
    refine wc_region ?_
    refine wv rfl (r_move rfl) ?_
    refine wv rfl (r_move rfl) ?_
    refine wv rfl (r_move rfl) ?_
    obtain ⟨hg99, hx⟩ := xg_some hx
    have hi98 : i80.toNat < l81.length := by omega
    refine wv rfl (r_ixC Try.underlying26 sz3 rfl rfl (hM.seeO (.head _)) hg99) ?_
    refine w_exu (x_stE (f := fI) (k := 1) (L := l81) (i := i80.toNat) (j := 0) k79 [cI k79] sz3 (fun _ => rfl) rfl rfl hi98 rfl rfl rfl rfl rfl (fun _ => zP (pV _ rfl) zN) hM ?_); intro w100 hM
    refine wl_nil ?_
    refine sq_n ?_
    refine wc_region ?_
    refine wv rfl (r_move rfl) ?_
    obtain ⟨hg104, hx⟩ := xg_some hx
    refine wv rfl (r_add rfl rfl hg104) ?_
    refine wv rfl (r_assign rfl) ?_
    refine wl_nil ?_
    refine bk_n ?_
    refine sq_n ?_
    refine wc_region ?_
    refine wv rfl (r_move rfl) ?_
    obtain ⟨hg108, hx⟩ := xg_some hx
    refine wv rfl (r_add rfl rfl hg108) ?_
    refine wv rfl (r_assign rfl) ?_
    refine wl_nil ?_
    obtain rfl := Option.some.inj hx
    exact lp_end (m86, k79 + 1, i80 + 1, l81.set i80.toNat k79) (Nat.lt_succ_self _) ⟨rfl, rfl, rfl, trivial⟩ ⟨hM, hx88⟩
  · replace hx := xif_f hc93 hx
    refine wc_exit ?_
    refine sq_exit ?_
    refine lp1_exit ?_
    obtain rfl := Option.some.inj hx
    obtain rfl := Option.some.inj hx88
    replace hx := hx78
    try dsimp only [Sum.elim_inl, Sum.elim_inr] at hx
    refine bk_here ?_
    refine sq_n ?_
    refine wc_seq ?_
    refine wc_region ?_
    refine wv rfl (r_move rfl) ?_
    refine wv rfl (r_assign rfl) ?_
    refine wl_nil ?_
    refine sq_n ?_
    refine wc_ret ?_
    obtain rfl := Option.some.inj hx
    refine fin_ret [(.int .i64 k79)] ⟨rfl, trivial⟩ ?_
    replace hM := hM.t1
    have hM := hM.fewer rsN
    exact ⟨(), rfl, hM.gives⟩

noncomputable def x_laws_markPartS_b0 (k56 : Int) (i57 : Int) (l58 : List DPart) : Option (Lr (Int × Int × List DPart) (Int × List DPart)) :=
  bif decide (i57 < (l58.length : Int)) then (xg (0 ≤ i57 ∧ i57 < (l58.length : Int)) <| xg (inI (k56 + 1)) <| xg (0 ≤ i57 ∧ i57 < ((l58.set i57.toNat (⟨k56, (el l58 i57.toNat).n, (el l58 i57.toNat).signs⟩ : DPart)).length : Int)) <| xg (inI ((k56 + 1) + 1)) <| xg (0 ≤ i57 ∧ i57 < (((l58.set i57.toNat (⟨k56, (el l58 i57.toNat).n, (el l58 i57.toNat).signs⟩ : DPart)).set i57.toNat (⟨(el (l58.set i57.toNat (⟨k56, (el l58 i57.toNat).n, (el l58 i57.toNat).signs⟩ : DPart)) i57.toNat).kind, k56 + 1, (el (l58.set i57.toNat (⟨k56, (el l58 i57.toNat).n, (el l58 i57.toNat).signs⟩ : DPart)) i57.toNat).signs⟩ : DPart)).length : Int)) <| Option.bind (x_laws_markIntS ((el ((l58.set i57.toNat (⟨k56, (el l58 i57.toNat).n, (el l58 i57.toNat).signs⟩ : DPart)).set i57.toNat (⟨(el (l58.set i57.toNat (⟨k56, (el l58 i57.toNat).n, (el l58 i57.toNat).signs⟩ : DPart)) i57.toNat).kind, k56 + 1, (el (l58.set i57.toNat (⟨k56, (el l58 i57.toNat).n, (el l58 i57.toNat).signs⟩ : DPart)) i57.toNat).signs⟩ : DPart)) i57.toNat).signs) ((k56 + 1) + 1)) fun r152 => xg (inI (i57 + 1)) <| some (Lr.go (r152.1, i57 + 1, ((l58.set i57.toNat (⟨k56, (el l58 i57.toNat).n, (el l58 i57.toNat).signs⟩ : DPart)).set i57.toNat (⟨(el (l58.set i57.toNat (⟨k56, (el l58 i57.toNat).n, (el l58 i57.toNat).signs⟩ : DPart)) i57.toNat).kind, k56 + 1, (el (l58.set i57.toNat (⟨k56, (el l58 i57.toNat).n, (el l58 i57.toNat).signs⟩ : DPart)) i57.toNat).signs⟩ : DPart)).set i57.toNat (⟨(el ((l58.set i57.toNat (⟨k56, (el l58 i57.toNat).n, (el l58 i57.toNat).signs⟩ : DPart)).set i57.toNat (⟨(el (l58.set i57.toNat (⟨k56, (el l58 i57.toNat).n, (el l58 i57.toNat).signs⟩ : DPart)) i57.toNat).kind, k56 + 1, (el (l58.set i57.toNat (⟨k56, (el l58 i57.toNat).n, (el l58 i57.toNat).signs⟩ : DPart)) i57.toNat).signs⟩ : DPart)) i57.toNat).kind, (el ((l58.set i57.toNat (⟨k56, (el l58 i57.toNat).n, (el l58 i57.toNat).signs⟩ : DPart)).set i57.toNat (⟨(el (l58.set i57.toNat (⟨k56, (el l58 i57.toNat).n, (el l58 i57.toNat).signs⟩ : DPart)) i57.toNat).kind, k56 + 1, (el (l58.set i57.toNat (⟨k56, (el l58 i57.toNat).n, (el l58 i57.toNat).signs⟩ : DPart)) i57.toNat).signs⟩ : DPart)) i57.toNat).n, r152.2⟩ : DPart)))) else (some (Lr.out (k56, l58)))
noncomputable def x_laws_markPartS_f0 (s160 : Int × Int × List DPart) : Option (Lr (Int × Int × List DPart) (Int × List DPart)) := x_laws_markPartS_b0 s160.1 s160.2.1 s160.2.2
noncomputable def x_laws_markPartS (a : List DPart) (k : Int) : Option (Int × List DPart) :=
  Option.bind (iter (x_laws_markPartS_f0) (k, 0, a)) fun (y161 : Int × List DPart) => some (y161.1, y161.2)
theorem ct_laws_markPartS (w : World) (X S : Bs) (a : List DPart) (s_a : Sv) (k : Int) (hS : ∀ b, S b → b < w.heap.size ∧ ¬ X b)  (oL : Sep [oC (cSl 3 fDPart a) s_a.v] X w) {r : Int × List DPart} (hx : x_laws_markPartS a k = some r) :
    Ret Try.prog 77 [s_a.v, (.int .i64 k)] w (fun u w' => ∃ _ : Unit, u = (.int .i64 r.1) ∧ Gives X S w [oC (cSl 3 fDPart r.2) s_a.v] [] w') := by
  unfold x_laws_markPartS at hx
  refine enter Try.func77 rfl Try.ntmps77 (by kernel_rfl) rfl ?_
  have hM := St.enter oL hS
  refine wc_seq ?_
  refine wc_region ?_
  refine wv rfl (r_assign rfl) ?_
  refine wl_nil ?_
  refine sq_n ?_
  refine wc_seq ?_
  refine wc_seq ?_
  refine wc_region ?_
  refine wv rfl (r_assign rfl) ?_
  refine wl_nil ?_
  refine sq_n ?_
  refine wc_block ?_
  obtain ⟨y167, hx, hx168⟩ := bind_some' hx
  obtain ⟨m174, hx⟩ := iter_run hx
  refine wc_loop (un fun (m172 : Nat) => un fun (k169 : Int) => un fun (i170 : Int) => fun (l171 : List DPart) => [(0, s_a.v), (1, (.int .i64 k169)), (5, (.int .i64 i170))]) (un fun (m172 : Nat) => un fun (k169 : Int) => un fun (i170 : Int) => fun (l171 : List DPart) w' => St ⟨w, X, S⟩ [oC (cSl 3 fDPart l171) s_a.v] [] w' ∧ iterN _ m172 (k169, i170, l171) = some y167) (fun p => p.1) (m174, k, 0, a) ⟨rfl, rfl, rfl, trivial⟩ ⟨hM, hx⟩ ?_
  rintro ⟨m172, k169, i170, l171⟩ w175 ⟨hM, hx⟩
  obtain ⟨m176, z177, rfl, hx, hx178⟩ := iterN_step hx
  unfold x_laws_markPartS_f0 x_laws_markPartS_b0 at hx
  try dsimp only at hx
  refine wc_seq ?_
  refine wc_seq ?_
  refine wc_region ?_
  refine wv rfl (r_move rfl) ?_
  refine wv rfl (r_move rfl) ?_
  refine wv rfl (r_lenC Try.underlying29 rfl (hM.seeO (.head _))) ?_
  refine wv rfl (r_lss rfl rfl) ?_
  refine wl_nil ?_
  refine sq_n ?_
  refine wc_cond rfl (fun hc183 => ?_) (fun hc183 => ?_)
  · replace hx := xif_t hc183 hx
    refine wc_skip ?_
    refine sq_n ?_
    refine wc_seq ?_
    refine wc_block ?_
    refine wc_seq ?_
    refine wc_region ?_
    refine wv rfl (r_move rfl) ?_
    refine wv rfl (r_move rfl) ?_
    refine wv rfl (r_move rfl) ?_
    obtain ⟨hg189, hx⟩ := xg_some hx
    have hi188 : i170.toNat < l171.length := by omega
    refine wv rfl (r_ixC Try.underlying29 sz77 rfl rfl (hM.seeO (.head _)) hg189) ?_
    refine wv rfl (r_fldC (i := i170.toNat) Try.underlying77 rfl rfl sz3 rfl (hM.seeO (.head _)) hi188) ?_
    refine w_exu (x_stE (f := fDPart) (k := 3) (L := l171) (i := i170.toNat) (j := 0) (⟨k169, (el l171 i170.toNat).n, (el l171 i170.toNat).signs⟩ : DPart) [cI k169] sz3 (fun _ => rfl) rfl rfl hi188 rfl rfl rfl rfl rfl (fun _ => zP (pV _ rfl) zN) hM ?_); intro w191 hM
    refine wl_nil ?_
    refine sq_n ?_
    refine wc_seq ?_
    refine wc_region ?_
    refine wv rfl (r_move rfl) ?_
    obtain ⟨hg195, hx⟩ := xg_some hx
    refine wv rfl (r_add rfl rfl hg195) ?_
    refine wv rfl (r_assign rfl) ?_
    refine wl_nil ?_
    refine sq_n ?_
    refine wc_seq ?_
    refine wc_region ?_
    refine wv rfl (r_move rfl) ?_
    refine wv rfl (r_move rfl) ?_
    refine wv rfl (r_move rfl) ?_
    obtain ⟨hg202, hx⟩ := xg_some hx
    have hi201 : i170.toNat < (l171.set i170.toNat (⟨k169, (el l171 i170.toNat).n, (el l171 i170.toNat).signs⟩ : DPart)).length := by omega
    refine wv rfl (r_ixC Try.underlying29 sz77 rfl rfl (hM.seeO (.head _)) hg202) ?_
    refine wv rfl (r_fldC (i := i170.toNat) Try.underlying77 rfl rfl sz3 rfl (hM.seeO (.head _)) hi201) ?_
    refine w_exu (x_stE (f := fDPart) (k := 3) (L := (l171.set i170.toNat (⟨k169, (el l171 i170.toNat).n, (el l171 i170.toNat).signs⟩ : DPart))) (i := i170.toNat) (j := 1) (⟨(el (l171.set i170.toNat (⟨k169, (el l171 i170.toNat).n, (el l171 i170.toNat).signs⟩ : DPart)) i170.toNat).kind, k169 + 1, (el (l171.set i170.toNat (⟨k169, (el l171 i170.toNat).n, (el l171 i170.toNat).signs⟩ : DPart)) i170.toNat).signs⟩ : DPart) [cI (k169 + 1)] sz3 (fun _ => rfl) rfl rfl hi201 rfl rfl rfl rfl rfl (fun _ => zP (pV _ rfl) zN) hM ?_); intro w204 hM
    refine wl_nil ?_
    refine sq_n ?_
    refine wc_seq ?_
    refine wc_region ?_
    refine wv rfl (r_move rfl) ?_
    obtain ⟨hg208, hx⟩ := xg_some hx
    refine wv rfl (r_add rfl rfl hg208) ?_
    refine wv rfl (r_assign rfl) ?_
    refine wl_nil ?_
    refine sq_n ?_
    refine wc_region ?_
    refine wv rfl (r_move rfl) ?_
    refine wv rfl (r_move rfl) ?_
    obtain ⟨hg214, hx⟩ := xg_some hx
    have hi213 : i170.toNat < ((l171.set i170.toNat (⟨k169, (el l171 i170.toNat).n, (el l171 i170.toNat).signs⟩ : DPart)).set i170.toNat (⟨(el (l171.set i170.toNat (⟨k169, (el l171 i170.toNat).n, (el l171 i170.toNat).signs⟩ : DPart)) i170.toNat).kind, k169 + 1, (el (l171.set i170.toNat (⟨k169, (el l171 i170.toNat).n, (el l171 i170.toNat).signs⟩ : DPart)) i170.toNat).signs⟩ : DPart)).length := by omega
    refine wv rfl (r_ixC Try.underlying29 sz77 rfl rfl (hM.seeO (.head _)) hg214) ?_
    refine wv rfl (r_fldC (i := i170.toNat) Try.underlying77 rfl rfl sz26 rfl (hM.seeO (.head _)) hi213) ?_
    obtain ⟨s217, hM, hc218⟩ := hM.leafO (i := i170.toNat) (j := 2) (fun _ => rfl) hi213 rfl
    refine wv rfl (r_ld Try.underlying26 rfl rfl (hc218 _ (Rel.refl _))) ?_
    refine wv rfl (r_move rfl) ?_
    have hM := hM.open (i := i170.toNat) (j := 2) (.tail _ (.head _)) (fun _ => rfl) hi213 rfl
    obtain ⟨r222, h223, hx⟩ := bind_some' hx
    refine w_call rfl rfl (hM.callO (l := [oC (cSl 1 fI ((el ((l171.set i170.toNat (⟨k169, (el l171 i170.toNat).n, (el l171 i170.toNat).signs⟩ : DPart)).set i170.toNat (⟨(el (l171.set i170.toNat (⟨k169, (el l171 i170.toNat).n, (el l171 i170.toNat).signs⟩ : DPart)) i170.toNat).kind, k169 + 1, (el (l171.set i170.toNat (⟨k169, (el l171 i170.toNat).n, (el l171 i170.toNat).signs⟩ : DPart)) i170.toNat).signs⟩ : DPart)) i170.toNat).signs)) s217.v]) fun X S oL hS hR hO => ct_laws_markIntS _ X S ((el ((l171.set i170.toNat (⟨k169, (el l171 i170.toNat).n, (el l171 i170.toNat).signs⟩ : DPart)).set i170.toNat (⟨(el (l171.set i170.toNat (⟨k169, (el l171 i170.toNat).n, (el l171 i170.toNat).signs⟩ : DPart)) i170.toNat).kind, k169 + 1, (el (l171.set i170.toNat (⟨k169, (el l171 i170.toNat).n, (el l171 i170.toNat).signs⟩ : DPart)) i170.toNat).signs⟩ : DPart)) i170.toNat).signs) s217 ((k169 + 1) + 1) hS  oL h223) ?_
    rintro _ w224 ⟨_, rfl, hM⟩
    replace hM : St ⟨w, X, S⟩ [oC (cSl 1 fI r222.2) s217.v, oHo 3 fDPart ((l171.set i170.toNat (⟨k169, (el l171 i170.toNat).n, (el l171 i170.toNat).signs⟩ : DPart)).set i170.toNat (⟨(el (l171.set i170.toNat (⟨k169, (el l171 i170.toNat).n, (el l171 i170.toNat).signs⟩ : DPart)) i170.toNat).kind, k169 + 1, (el (l171.set i170.toNat (⟨k169, (el l171 i170.toNat).n, (el l171 i170.toNat).signs⟩ : DPart)) i170.toNat).signs⟩ : DPart)) s_a.v (i170.toNat * 3 + 2) s217.v] [] _ := hM
    have hM := hM.close (i := i170.toNat) (j := 2) (⟨(el ((l171.set i170.toNat (⟨k169, (el l171 i170.toNat).n, (el l171 i170.toNat).signs⟩ : DPart)).set i170.toNat (⟨(el (l171.set i170.toNat (⟨k169, (el l171 i170.toNat).n, (el l171 i170.toNat).signs⟩ : DPart)) i170.toNat).kind, k169 + 1, (el (l171.set i170.toNat (⟨k169, (el l171 i170.toNat).n, (el l171 i170.toNat).signs⟩ : DPart)) i170.toNat).signs⟩ : DPart)) i170.toNat).kind, (el ((l171.set i170.toNat (⟨k169, (el l171 i170.toNat).n, (el l171 i170.toNat).signs⟩ : DPart)).set i170.toNat (⟨(el (l171.set i170.toNat (⟨k169, (el l171 i170.toNat).n, (el l171 i170.toNat).signs⟩ : DPart)) i170.toNat).kind, k169 + 1, (el (l171.set i170.toNat (⟨k169, (el l171 i170.toNat).n, (el l171 i170.toNat).signs⟩ : DPart)) i170.toNat).signs⟩ : DPart)) i170.toNat).n, r222.2⟩ : DPart) (fun _ => rfl) hi213 rfl rfl
    refine wv rfl (r_assign rfl) ?_
    refine wl_nil ?_
    refine bk_n ?_
    refine sq_n ?_
    refine wc_region ?_
    refine wv rfl (r_move rfl) ?_
    obtain ⟨hg228, hx⟩ := xg_some hx
    refine wv rfl (r_add rfl rfl hg228) ?_
    refine wv rfl (r_assign rfl) ?_
    refine wl_nil ?_
    obtain rfl := Option.some.inj hx
    exact lp_end (m176, r222.1, i170 + 1, ((l171.set i170.toNat (⟨k169, (el l171 i170.toNat).n, (el l171 i170.toNat).signs⟩ : DPart)).set i170.toNat (⟨(el (l171.set i170.toNat (⟨k169, (el l171 i170.toNat).n, (el l171 i170.toNat).signs⟩ : DPart)) i170.toNat).kind, k169 + 1, (el (l171.set i170.toNat (⟨k169, (el l171 i170.toNat).n, (el l171 i170.toNat).signs⟩ : DPart)) i170.toNat).signs⟩ : DPart)).set i170.toNat (⟨(el ((l171.set i170.toNat (⟨k169, (el l171 i170.toNat).n, (el l171 i170.toNat).signs⟩ : DPart)).set i170.toNat (⟨(el (l171.set i170.toNat (⟨k169, (el l171 i170.toNat).n, (el l171 i170.toNat).signs⟩ : DPart)) i170.toNat).kind, k169 + 1, (el (l171.set i170.toNat (⟨k169, (el l171 i170.toNat).n, (el l171 i170.toNat).signs⟩ : DPart)) i170.toNat).signs⟩ : DPart)) i170.toNat).kind, (el ((l171.set i170.toNat (⟨k169, (el l171 i170.toNat).n, (el l171 i170.toNat).signs⟩ : DPart)).set i170.toNat (⟨(el (l171.set i170.toNat (⟨k169, (el l171 i170.toNat).n, (el l171 i170.toNat).signs⟩ : DPart)) i170.toNat).kind, k169 + 1, (el (l171.set i170.toNat (⟨k169, (el l171 i170.toNat).n, (el l171 i170.toNat).signs⟩ : DPart)) i170.toNat).signs⟩ : DPart)) i170.toNat).n, r222.2⟩ : DPart)) (Nat.lt_succ_self _) ⟨rfl, rfl, rfl, trivial⟩ ⟨hM, hx178⟩
  · replace hx := xif_f hc183 hx
    refine wc_exit ?_
    refine sq_exit ?_
    refine lp1_exit ?_
    obtain rfl := Option.some.inj hx
    obtain rfl := Option.some.inj hx178
    replace hx := hx168
    try dsimp only [Sum.elim_inl, Sum.elim_inr] at hx
    refine bk_here ?_
    refine sq_n ?_
    refine wc_seq ?_
    refine wc_region ?_
    refine wv rfl (r_move rfl) ?_
    refine wv rfl (r_assign rfl) ?_
    refine wl_nil ?_
    refine sq_n ?_
    refine wc_ret ?_
    obtain rfl := Option.some.inj hx
    refine fin_ret [(.int .i64 k169)] ⟨rfl, trivial⟩ ?_
    replace hM := hM.t1
    have hM := hM.fewer rsN
    exact ⟨(), rfl, hM.gives⟩

noncomputable def x_laws_markEntryS_b0 (k56 : Int) (i57 : Int) (l58 : List DEntry) : Option (Lr (Int × Int × List DEntry) (Int × List DEntry)) :=
  bif decide (i57 < (l58.length : Int)) then (xg (0 ≤ i57 ∧ i57 < (l58.length : Int)) <| xg (inI (k56 + 1)) <| xg (0 ≤ i57 ∧ i57 < ((l58.set i57.toNat (⟨k56, (el l58 i57.toNat).seq, (el l58 i57.toNat).o⟩ : DEntry)).length : Int)) <| xg (inI ((k56 + 1) + 1)) <| xg (0 ≤ i57 ∧ i57 < (((l58.set i57.toNat (⟨k56, (el l58 i57.toNat).seq, (el l58 i57.toNat).o⟩ : DEntry)).set i57.toNat (⟨(el (l58.set i57.toNat (⟨k56, (el l58 i57.toNat).seq, (el l58 i57.toNat).o⟩ : DEntry)) i57.toNat).client, k56 + 1, (el (l58.set i57.toNat (⟨k56, (el l58 i57.toNat).seq, (el l58 i57.toNat).o⟩ : DEntry)) i57.toNat).o⟩ : DEntry)).length : Int)) <| Option.bind (x_laws_markPartS ((el ((l58.set i57.toNat (⟨k56, (el l58 i57.toNat).seq, (el l58 i57.toNat).o⟩ : DEntry)).set i57.toNat (⟨(el (l58.set i57.toNat (⟨k56, (el l58 i57.toNat).seq, (el l58 i57.toNat).o⟩ : DEntry)) i57.toNat).client, k56 + 1, (el (l58.set i57.toNat (⟨k56, (el l58 i57.toNat).seq, (el l58 i57.toNat).o⟩ : DEntry)) i57.toNat).o⟩ : DEntry)) i57.toNat).o) ((k56 + 1) + 1)) fun r152 => xg (inI (i57 + 1)) <| some (Lr.go (r152.1, i57 + 1, ((l58.set i57.toNat (⟨k56, (el l58 i57.toNat).seq, (el l58 i57.toNat).o⟩ : DEntry)).set i57.toNat (⟨(el (l58.set i57.toNat (⟨k56, (el l58 i57.toNat).seq, (el l58 i57.toNat).o⟩ : DEntry)) i57.toNat).client, k56 + 1, (el (l58.set i57.toNat (⟨k56, (el l58 i57.toNat).seq, (el l58 i57.toNat).o⟩ : DEntry)) i57.toNat).o⟩ : DEntry)).set i57.toNat (⟨(el ((l58.set i57.toNat (⟨k56, (el l58 i57.toNat).seq, (el l58 i57.toNat).o⟩ : DEntry)).set i57.toNat (⟨(el (l58.set i57.toNat (⟨k56, (el l58 i57.toNat).seq, (el l58 i57.toNat).o⟩ : DEntry)) i57.toNat).client, k56 + 1, (el (l58.set i57.toNat (⟨k56, (el l58 i57.toNat).seq, (el l58 i57.toNat).o⟩ : DEntry)) i57.toNat).o⟩ : DEntry)) i57.toNat).client, (el ((l58.set i57.toNat (⟨k56, (el l58 i57.toNat).seq, (el l58 i57.toNat).o⟩ : DEntry)).set i57.toNat (⟨(el (l58.set i57.toNat (⟨k56, (el l58 i57.toNat).seq, (el l58 i57.toNat).o⟩ : DEntry)) i57.toNat).client, k56 + 1, (el (l58.set i57.toNat (⟨k56, (el l58 i57.toNat).seq, (el l58 i57.toNat).o⟩ : DEntry)) i57.toNat).o⟩ : DEntry)) i57.toNat).seq, r152.2⟩ : DEntry)))) else (some (Lr.out (k56, l58)))
noncomputable def x_laws_markEntryS_f0 (s160 : Int × Int × List DEntry) : Option (Lr (Int × Int × List DEntry) (Int × List DEntry)) := x_laws_markEntryS_b0 s160.1 s160.2.1 s160.2.2
noncomputable def x_laws_markEntryS (a : List DEntry) (k : Int) : Option (Int × List DEntry) :=
  Option.bind (iter (x_laws_markEntryS_f0) (k, 0, a)) fun (y161 : Int × List DEntry) => some (y161.1, y161.2)
theorem ct_laws_markEntryS (w : World) (X S : Bs) (a : List DEntry) (s_a : Sv) (k : Int) (hS : ∀ b, S b → b < w.heap.size ∧ ¬ X b)  (oL : Sep [oC (cSl 3 fDEntry a) s_a.v] X w) {r : Int × List DEntry} (hx : x_laws_markEntryS a k = some r) :
    Ret Try.prog 37 [s_a.v, (.int .i64 k)] w (fun u w' => ∃ _ : Unit, u = (.int .i64 r.1) ∧ Gives X S w [oC (cSl 3 fDEntry r.2) s_a.v] [] w') := by
  unfold x_laws_markEntryS at hx
  refine enter Try.func37 rfl Try.ntmps37 (by kernel_rfl) rfl ?_
  have hM := St.enter oL hS
  refine wc_seq ?_
  refine wc_region ?_
  refine wv rfl (r_assign rfl) ?_
  refine wl_nil ?_
  refine sq_n ?_
  refine wc_seq ?_
  refine wc_seq ?_
  refine wc_region ?_
  refine wv rfl (r_assign rfl) ?_
  refine wl_nil ?_
  refine sq_n ?_
  refine wc_block ?_
  obtain ⟨y167, hx, hx168⟩ := bind_some' hx
  obtain ⟨m174, hx⟩ := iter_run hx
  refine wc_loop (un fun (m172 : Nat) => un fun (k169 : Int) => un fun (i170 : Int) => fun (l171 : List DEntry) => [(0, s_a.v), (1, (.int .i64 k169)), (5, (.int .i64 i170))]) (un fun (m172 : Nat) => un fun (k169 : Int) => un fun (i170 : Int) => fun (l171 : List DEntry) w' => St ⟨w, X, S⟩ [oC (cSl 3 fDEntry l171) s_a.v] [] w' ∧ iterN _ m172 (k169, i170, l171) = some y167) (fun p => p.1) (m174, k, 0, a) ⟨rfl, rfl, rfl, trivial⟩ ⟨hM, hx⟩ ?_
  rintro ⟨m172, k169, i170, l171⟩ w175 ⟨hM, hx⟩
  obtain ⟨m176, z177, rfl, hx, hx178⟩ := iterN_step hx
  unfold x_laws_markEntryS_f0 x_laws_markEntryS_b0 at hx
  try dsimp only at hx
  refine wc_seq ?_
  refine wc_seq ?_
  refine wc_region ?_
  refine wv rfl (r_move rfl) ?_
  refine wv rfl (r_move rfl) ?_
  refine wv rfl (r_lenC Try.underlying60 rfl (hM.seeO (.head _))) ?_
  refine wv rfl (r_lss rfl rfl) ?_
  refine wl_nil ?_
  refine sq_n ?_
  refine wc_cond rfl (fun hc183 => ?_) (fun hc183 => ?_)
  · replace hx := xif_t hc183 hx
    refine wc_skip ?_
    refine sq_n ?_
    refine wc_seq ?_
    refine wc_block ?_
    refine wc_seq ?_
    refine wc_region ?_
    refine wv rfl (r_move rfl) ?_
    refine wv rfl (r_move rfl) ?_
    refine wv rfl (r_move rfl) ?_
    obtain ⟨hg189, hx⟩ := xg_some hx
    have hi188 : i170.toNat < l171.length := by omega
    refine wv rfl (r_ixC Try.underlying60 sz104 rfl rfl (hM.seeO (.head _)) hg189) ?_
    refine wv rfl (r_fldC (i := i170.toNat) Try.underlying104 rfl rfl sz3 rfl (hM.seeO (.head _)) hi188) ?_
    refine w_exu (x_stE (f := fDEntry) (k := 3) (L := l171) (i := i170.toNat) (j := 0) (⟨k169, (el l171 i170.toNat).seq, (el l171 i170.toNat).o⟩ : DEntry) [cI k169] sz3 (fun _ => rfl) rfl rfl hi188 rfl rfl rfl rfl rfl (fun _ => zP (pV _ rfl) zN) hM ?_); intro w191 hM
    refine wl_nil ?_
    refine sq_n ?_
    refine wc_seq ?_
    refine wc_region ?_
    refine wv rfl (r_move rfl) ?_
    obtain ⟨hg195, hx⟩ := xg_some hx
    refine wv rfl (r_add rfl rfl hg195) ?_
    refine wv rfl (r_assign rfl) ?_
    refine wl_nil ?_
    refine sq_n ?_
    refine wc_seq ?_
    refine wc_region ?_
    refine wv rfl (r_move rfl) ?_
    refine wv rfl (r_move rfl) ?_
    refine wv rfl (r_move rfl) ?_
    obtain ⟨hg202, hx⟩ := xg_some hx
    have hi201 : i170.toNat < (l171.set i170.toNat (⟨k169, (el l171 i170.toNat).seq, (el l171 i170.toNat).o⟩ : DEntry)).length := by omega
    refine wv rfl (r_ixC Try.underlying60 sz104 rfl rfl (hM.seeO (.head _)) hg202) ?_
    refine wv rfl (r_fldC (i := i170.toNat) Try.underlying104 rfl rfl sz3 rfl (hM.seeO (.head _)) hi201) ?_
    refine w_exu (x_stE (f := fDEntry) (k := 3) (L := (l171.set i170.toNat (⟨k169, (el l171 i170.toNat).seq, (el l171 i170.toNat).o⟩ : DEntry))) (i := i170.toNat) (j := 1) (⟨(el (l171.set i170.toNat (⟨k169, (el l171 i170.toNat).seq, (el l171 i170.toNat).o⟩ : DEntry)) i170.toNat).client, k169 + 1, (el (l171.set i170.toNat (⟨k169, (el l171 i170.toNat).seq, (el l171 i170.toNat).o⟩ : DEntry)) i170.toNat).o⟩ : DEntry) [cI (k169 + 1)] sz3 (fun _ => rfl) rfl rfl hi201 rfl rfl rfl rfl rfl (fun _ => zP (pV _ rfl) zN) hM ?_); intro w204 hM
    refine wl_nil ?_
    refine sq_n ?_
    refine wc_seq ?_
    refine wc_region ?_
    refine wv rfl (r_move rfl) ?_
    obtain ⟨hg208, hx⟩ := xg_some hx
    refine wv rfl (r_add rfl rfl hg208) ?_
    refine wv rfl (r_assign rfl) ?_
    refine wl_nil ?_
    refine sq_n ?_
    refine wc_region ?_
    refine wv rfl (r_move rfl) ?_
    refine wv rfl (r_move rfl) ?_
    obtain ⟨hg214, hx⟩ := xg_some hx
    have hi213 : i170.toNat < ((l171.set i170.toNat (⟨k169, (el l171 i170.toNat).seq, (el l171 i170.toNat).o⟩ : DEntry)).set i170.toNat (⟨(el (l171.set i170.toNat (⟨k169, (el l171 i170.toNat).seq, (el l171 i170.toNat).o⟩ : DEntry)) i170.toNat).client, k169 + 1, (el (l171.set i170.toNat (⟨k169, (el l171 i170.toNat).seq, (el l171 i170.toNat).o⟩ : DEntry)) i170.toNat).o⟩ : DEntry)).length := by omega
    refine wv rfl (r_ixC Try.underlying60 sz104 rfl rfl (hM.seeO (.head _)) hg214) ?_
    refine wv rfl (r_fldC (i := i170.toNat) Try.underlying104 rfl rfl sz29 rfl (hM.seeO (.head _)) hi213) ?_
    obtain ⟨s217, hM, hc218⟩ := hM.leafO (i := i170.toNat) (j := 2) (fun _ => rfl) hi213 rfl
    refine wv rfl (r_ld Try.underlying29 rfl rfl (hc218 _ (Rel.refl _))) ?_
    refine wv rfl (r_move rfl) ?_
    have hM := hM.open (i := i170.toNat) (j := 2) (.tail _ (.head _)) (fun _ => rfl) hi213 rfl
    obtain ⟨r222, h223, hx⟩ := bind_some' hx
    refine w_call rfl rfl (hM.callO (l := [oC (cSl 3 fDPart ((el ((l171.set i170.toNat (⟨k169, (el l171 i170.toNat).seq, (el l171 i170.toNat).o⟩ : DEntry)).set i170.toNat (⟨(el (l171.set i170.toNat (⟨k169, (el l171 i170.toNat).seq, (el l171 i170.toNat).o⟩ : DEntry)) i170.toNat).client, k169 + 1, (el (l171.set i170.toNat (⟨k169, (el l171 i170.toNat).seq, (el l171 i170.toNat).o⟩ : DEntry)) i170.toNat).o⟩ : DEntry)) i170.toNat).o)) s217.v]) fun X S oL hS hR hO => ct_laws_markPartS _ X S ((el ((l171.set i170.toNat (⟨k169, (el l171 i170.toNat).seq, (el l171 i170.toNat).o⟩ : DEntry)).set i170.toNat (⟨(el (l171.set i170.toNat (⟨k169, (el l171 i170.toNat).seq, (el l171 i170.toNat).o⟩ : DEntry)) i170.toNat).client, k169 + 1, (el (l171.set i170.toNat (⟨k169, (el l171 i170.toNat).seq, (el l171 i170.toNat).o⟩ : DEntry)) i170.toNat).o⟩ : DEntry)) i170.toNat).o) s217 ((k169 + 1) + 1) hS  oL h223) ?_
    rintro _ w224 ⟨_, rfl, hM⟩
    replace hM : St ⟨w, X, S⟩ [oC (cSl 3 fDPart r222.2) s217.v, oHo 3 fDEntry ((l171.set i170.toNat (⟨k169, (el l171 i170.toNat).seq, (el l171 i170.toNat).o⟩ : DEntry)).set i170.toNat (⟨(el (l171.set i170.toNat (⟨k169, (el l171 i170.toNat).seq, (el l171 i170.toNat).o⟩ : DEntry)) i170.toNat).client, k169 + 1, (el (l171.set i170.toNat (⟨k169, (el l171 i170.toNat).seq, (el l171 i170.toNat).o⟩ : DEntry)) i170.toNat).o⟩ : DEntry)) s_a.v (i170.toNat * 3 + 2) s217.v] [] _ := hM
    have hM := hM.close (i := i170.toNat) (j := 2) (⟨(el ((l171.set i170.toNat (⟨k169, (el l171 i170.toNat).seq, (el l171 i170.toNat).o⟩ : DEntry)).set i170.toNat (⟨(el (l171.set i170.toNat (⟨k169, (el l171 i170.toNat).seq, (el l171 i170.toNat).o⟩ : DEntry)) i170.toNat).client, k169 + 1, (el (l171.set i170.toNat (⟨k169, (el l171 i170.toNat).seq, (el l171 i170.toNat).o⟩ : DEntry)) i170.toNat).o⟩ : DEntry)) i170.toNat).client, (el ((l171.set i170.toNat (⟨k169, (el l171 i170.toNat).seq, (el l171 i170.toNat).o⟩ : DEntry)).set i170.toNat (⟨(el (l171.set i170.toNat (⟨k169, (el l171 i170.toNat).seq, (el l171 i170.toNat).o⟩ : DEntry)) i170.toNat).client, k169 + 1, (el (l171.set i170.toNat (⟨k169, (el l171 i170.toNat).seq, (el l171 i170.toNat).o⟩ : DEntry)) i170.toNat).o⟩ : DEntry)) i170.toNat).seq, r222.2⟩ : DEntry) (fun _ => rfl) hi213 rfl rfl
    refine wv rfl (r_assign rfl) ?_
    refine wl_nil ?_
    refine bk_n ?_
    refine sq_n ?_
    refine wc_region ?_
    refine wv rfl (r_move rfl) ?_
    obtain ⟨hg228, hx⟩ := xg_some hx
    refine wv rfl (r_add rfl rfl hg228) ?_
    refine wv rfl (r_assign rfl) ?_
    refine wl_nil ?_
    obtain rfl := Option.some.inj hx
    exact lp_end (m176, r222.1, i170 + 1, ((l171.set i170.toNat (⟨k169, (el l171 i170.toNat).seq, (el l171 i170.toNat).o⟩ : DEntry)).set i170.toNat (⟨(el (l171.set i170.toNat (⟨k169, (el l171 i170.toNat).seq, (el l171 i170.toNat).o⟩ : DEntry)) i170.toNat).client, k169 + 1, (el (l171.set i170.toNat (⟨k169, (el l171 i170.toNat).seq, (el l171 i170.toNat).o⟩ : DEntry)) i170.toNat).o⟩ : DEntry)).set i170.toNat (⟨(el ((l171.set i170.toNat (⟨k169, (el l171 i170.toNat).seq, (el l171 i170.toNat).o⟩ : DEntry)).set i170.toNat (⟨(el (l171.set i170.toNat (⟨k169, (el l171 i170.toNat).seq, (el l171 i170.toNat).o⟩ : DEntry)) i170.toNat).client, k169 + 1, (el (l171.set i170.toNat (⟨k169, (el l171 i170.toNat).seq, (el l171 i170.toNat).o⟩ : DEntry)) i170.toNat).o⟩ : DEntry)) i170.toNat).client, (el ((l171.set i170.toNat (⟨k169, (el l171 i170.toNat).seq, (el l171 i170.toNat).o⟩ : DEntry)).set i170.toNat (⟨(el (l171.set i170.toNat (⟨k169, (el l171 i170.toNat).seq, (el l171 i170.toNat).o⟩ : DEntry)) i170.toNat).client, k169 + 1, (el (l171.set i170.toNat (⟨k169, (el l171 i170.toNat).seq, (el l171 i170.toNat).o⟩ : DEntry)) i170.toNat).o⟩ : DEntry)) i170.toNat).seq, r222.2⟩ : DEntry)) (Nat.lt_succ_self _) ⟨rfl, rfl, rfl, trivial⟩ ⟨hM, hx178⟩
  · replace hx := xif_f hc183 hx
    refine wc_exit ?_
    refine sq_exit ?_
    refine lp1_exit ?_
    obtain rfl := Option.some.inj hx
    obtain rfl := Option.some.inj hx178
    replace hx := hx168
    try dsimp only [Sum.elim_inl, Sum.elim_inr] at hx
    refine bk_here ?_
    refine sq_n ?_
    refine wc_seq ?_
    refine wc_region ?_
    refine wv rfl (r_move rfl) ?_
    refine wv rfl (r_assign rfl) ?_
    refine wl_nil ?_
    refine sq_n ?_
    refine wc_ret ?_
    obtain rfl := Option.some.inj hx
    refine fin_ret [(.int .i64 k169)] ⟨rfl, trivial⟩ ?_
    replace hM := hM.t1
    have hM := hM.fewer rsN
    exact ⟨(), rfl, hM.gives⟩

noncomputable def x_laws_heldIntS_b0 (a : List Int) (k3 : Int) (i4 : Int) : Option (Lr (Int × Int) (Sum Int Int)) :=
  bif decide (i4 < (a.length : Int)) then (xg (0 ≤ i4 ∧ i4 < (a.length : Int)) <| bif !decide ((el a i4.toNat) = k3) then (some (Lr.out (Sum.inr (-1)))) else (xg (inI (k3 + 1)) <| xg (inI (i4 + 1)) <| some (Lr.go (k3 + 1, i4 + 1)))) else (some (Lr.out (Sum.inl k3)))
noncomputable def x_laws_heldIntS_f0 (a : List Int) (s47 : Int × Int) : Option (Lr (Int × Int) (Sum Int Int)) := x_laws_heldIntS_b0 a s47.1 s47.2
noncomputable def x_laws_heldIntS (a : List Int) (k : Int) : Option Int :=
  Option.bind (iter (x_laws_heldIntS_f0 a) (k, 0)) fun (y48 : Sum Int Int) => Sum.elim (fun y49 => some y49) (fun y50 => some y50) y48
theorem ct_laws_heldIntS (w : World) (X S : Bs) (a : List Int) (s_a : Sv) (k : Int) (hS : ∀ b, S b → b < w.heap.size ∧ ¬ X b) (a_a_0 : (cSl 1 fI a).rd S w s_a.v) (oL : Sep [] X w) {r : Int} (hx : x_laws_heldIntS a k = some r) :
    Ret Try.prog 114 [s_a.v, (.int .i64 k)] w (fun u w' => ∃ _ : Unit, u = (.int .i64 r) ∧ Gives X S w [] [] w') := by
  unfold x_laws_heldIntS at hx
  refine enter Try.func114 rfl Try.ntmps114 (by kernel_rfl) rfl ?_
  have hM := St.enter oL hS
  have hM := hM.addE (r := rV s_a.v (cSl 1 fI a)) a_a_0
  refine wc_seq ?_
  refine wc_region ?_
  refine wv rfl (r_assign rfl) ?_
  refine wl_nil ?_
  refine sq_n ?_
  refine wc_seq ?_
  refine wc_seq ?_
  refine wc_region ?_
  refine wv rfl (r_assign rfl) ?_
  refine wl_nil ?_
  refine sq_n ?_
  refine wc_block ?_
  obtain ⟨y55, hx, hx56⟩ := bind_some' hx
  obtain ⟨m61, hx⟩ := iter_run hx
  refine wc_loop (un fun (m59 : Nat) => un fun (k57 : Int) => fun (i58 : Int) => [(0, s_a.v), (1, (.int .i64 k57)), (5, (.int .i64 i58))]) (un fun (m59 : Nat) => un fun (k57 : Int) => fun (i58 : Int) w' => St ⟨w, X, S⟩ [] [rV s_a.v (cSl 1 fI a)] w' ∧ iterN _ m59 (k57, i58) = some y55) (fun p => p.1) (m61, k, 0) ⟨rfl, rfl, rfl, trivial⟩ ⟨hM, hx⟩ ?_
  rintro ⟨m59, k57, i58⟩ w62 ⟨hM, hx⟩
  obtain ⟨m63, z64, rfl, hx, hx65⟩ := iterN_step hx
  unfold x_laws_heldIntS_f0 x_laws_heldIntS_b0 at hx
  try dsimp only at hx
  refine wc_seq ?_
  refine wc_seq ?_
  refine wc_region ?_
  refine wv rfl (r_move rfl) ?_
  refine wv rfl (r_move rfl) ?_
  refine wv rfl (r_lenC Try.underlying26 rfl (hM.seeR (.head _))) ?_
  refine wv rfl (r_lss rfl rfl) ?_
  refine wl_nil ?_
  refine sq_n ?_
  refine wc_cond rfl (fun hc70 => ?_) (fun hc70 => ?_)
  · replace hx := xif_t hc70 hx
    refine wc_skip ?_
    refine sq_n ?_
    refine wc_seq ?_
    refine wc_block ?_
    refine wc_seq ?_
    refine wc_seq ?_
    refine wc_region ?_
    refine wv rfl (r_move rfl) ?_
    refine wv rfl (r_move rfl) ?_
    obtain ⟨hg75, hx⟩ := xg_some hx
    have hi74 : i58.toNat < a.length := by omega
    refine wv rfl (r_ixC Try.underlying26 sz3 rfl rfl (hM.seeR (.head _)) hg75) ?_
    refine wv rfl (r_ld Try.underlying3 rfl rfl (Cs.get (i := i58.toNat) (j := 0) (hM.seeR (.head _)) (fun _ => rfl) hi74 rfl)) ?_
    refine wv rfl (r_move rfl) ?_
    refine wv rfl (r_neq rfl rfl) ?_
    refine wl_nil ?_
    refine sq_n ?_
    refine wc_cond rfl (fun hc79 => ?_) (fun hc79 => ?_)
    · replace hx := xif_t hc79 hx
      refine wc_seq ?_
      refine wc_region ?_
      refine wv rfl (r_assign rfl) ?_
      refine wl_nil ?_
      refine sq_n ?_
      refine wc_ret ?_
      refine sq_ret ?_
      refine bk_ret ?_
      refine sq_ret ?_
      refine lp1_ret ?_
      obtain rfl := Option.some.inj hx
      obtain rfl := Option.some.inj hx65
      replace hx := hx56
      try dsimp only [Sum.elim_inl, Sum.elim_inr] at hx
      refine bk_ret ?_
      refine sq_ret ?_
      obtain rfl := Option.some.inj hx
      refine fin_ret [(.int .i64 (-1))] ⟨rfl, trivial⟩ ?_
      replace hM := hM.t0
      have hM := hM.fewer rsN
      exact ⟨(), rfl, hM.gives⟩
    · replace hx := xif_f hc79 hx
      refine wc_skip ?_
      refine sq_n ?_
      refine wc_region ?_
      refine wv rfl (r_move rfl) ?_
      obtain ⟨hg83, hx⟩ := xg_some hx
      refine wv rfl (r_add rfl rfl hg83) ?_
      refine wv rfl (r_assign rfl) ?_
      refine wl_nil ?_
      refine bk_n ?_
      refine sq_n ?_
      refine wc_region ?_
      refine wv rfl (r_move rfl) ?_
      obtain ⟨hg87, hx⟩ := xg_some hx
      refine wv rfl (r_add rfl rfl hg87) ?_
      refine wv rfl (r_assign rfl) ?_
      refine wl_nil ?_
      obtain rfl := Option.some.inj hx
      exact lp_end (m63, k57 + 1, i58 + 1) (Nat.lt_succ_self _) ⟨rfl, rfl, rfl, trivial⟩ ⟨hM, hx65⟩
  · replace hx := xif_f hc70 hx
    refine wc_exit ?_
    refine sq_exit ?_
    refine lp1_exit ?_
    obtain rfl := Option.some.inj hx
    obtain rfl := Option.some.inj hx65
    replace hx := hx56
    try dsimp only [Sum.elim_inl, Sum.elim_inr] at hx
    refine bk_here ?_
    refine sq_n ?_
    refine wc_seq ?_
    refine wc_region ?_
    refine wv rfl (r_move rfl) ?_
    refine wv rfl (r_assign rfl) ?_
    refine wl_nil ?_
    refine sq_n ?_
    refine wc_ret ?_
    obtain rfl := Option.some.inj hx
    refine fin_ret [(.int .i64 k57)] ⟨rfl, trivial⟩ ?_
    replace hM := hM.t0
    have hM := hM.fewer rsN
    exact ⟨(), rfl, hM.gives⟩

noncomputable def x_laws_heldPartS_b0 (a : List DPart) (k3 : Int) (i4 : Int) : Option (Lr (Int × Int) (Sum Int Int)) :=
  bif decide (i4 < (a.length : Int)) then (xg (0 ≤ i4 ∧ i4 < (a.length : Int)) <| bif !decide (((el a i4.toNat).kind) = k3) then (some (Lr.out (Sum.inr (-1)))) else (xg (inI (k3 + 1)) <| xg (0 ≤ i4 ∧ i4 < (a.length : Int)) <| bif !decide (((el a i4.toNat).n) = (k3 + 1)) then (some (Lr.out (Sum.inr (-1)))) else (xg (inI ((k3 + 1) + 1)) <| xg (0 ≤ i4 ∧ i4 < (a.length : Int)) <| Option.bind (x_laws_heldIntS ((el a i4.toNat).signs) ((k3 + 1) + 1)) fun r101 => bif decide (r101 < 0) then (some (Lr.out (Sum.inr (-1)))) else (xg (inI (i4 + 1)) <| some (Lr.go (r101, i4 + 1)))))) else (some (Lr.out (Sum.inl k3)))
noncomputable def x_laws_heldPartS_f0 (a : List DPart) (s113 : Int × Int) : Option (Lr (Int × Int) (Sum Int Int)) := x_laws_heldPartS_b0 a s113.1 s113.2
noncomputable def x_laws_heldPartS (a : List DPart) (k : Int) : Option Int :=
  Option.bind (iter (x_laws_heldPartS_f0 a) (k, 0)) fun (y114 : Sum Int Int) => Sum.elim (fun y115 => some y115) (fun y116 => some y116) y114
theorem ct_laws_heldPartS (w : World) (X S : Bs) (a : List DPart) (s_a : Sv) (k : Int) (hS : ∀ b, S b → b < w.heap.size ∧ ¬ X b) (a_a_0 : (cSl 3 fDPart a).rd S w s_a.v) (oL : Sep [] X w) {r : Int} (hx : x_laws_heldPartS a k = some r) :
    Ret Try.prog 78 [s_a.v, (.int .i64 k)] w (fun u w' => ∃ _ : Unit, u = (.int .i64 r) ∧ Gives X S w [] [] w') := by
  unfold x_laws_heldPartS at hx
  refine enter Try.func78 rfl Try.ntmps78 (by kernel_rfl) rfl ?_
  have hM := St.enter oL hS
  have hM := hM.addE (r := rV s_a.v (cSl 3 fDPart a)) a_a_0
  refine wc_seq ?_
  refine wc_region ?_
  refine wv rfl (r_assign rfl) ?_
  refine wl_nil ?_
  refine sq_n ?_
  refine wc_seq ?_
  refine wc_seq ?_
  refine wc_region ?_
  refine wv rfl (r_assign rfl) ?_
  refine wl_nil ?_
  refine sq_n ?_
  refine wc_block ?_
  obtain ⟨y121, hx, hx122⟩ := bind_some' hx
  obtain ⟨m127, hx⟩ := iter_run hx
  refine wc_loop (un fun (m125 : Nat) => un fun (k123 : Int) => fun (i124 : Int) => [(0, s_a.v), (1, (.int .i64 k123)), (5, (.int .i64 i124))]) (un fun (m125 : Nat) => un fun (k123 : Int) => fun (i124 : Int) w' => St ⟨w, X, S⟩ [] [rV s_a.v (cSl 3 fDPart a)] w' ∧ iterN _ m125 (k123, i124) = some y121) (fun p => p.1) (m127, k, 0) ⟨rfl, rfl, rfl, trivial⟩ ⟨hM, hx⟩ ?_
  rintro ⟨m125, k123, i124⟩ w128 ⟨hM, hx⟩
  obtain ⟨m129, z130, rfl, hx, hx131⟩ := iterN_step hx
  unfold x_laws_heldPartS_f0 x_laws_heldPartS_b0 at hx
  try dsimp only at hx
  refine wc_seq ?_
  refine wc_seq ?_
  refine wc_region ?_
  refine wv rfl (r_move rfl) ?_
  refine wv rfl (r_move rfl) ?_
  refine wv rfl (r_lenC Try.underlying29 rfl (hM.seeR (.head _))) ?_
  refine wv rfl (r_lss rfl rfl) ?_
  refine wl_nil ?_
  refine sq_n ?_
  refine wc_cond rfl (fun hc136 => ?_) (fun hc136 => ?_)
  · replace hx := xif_t hc136 hx
    refine wc_skip ?_
    refine sq_n ?_
    refine wc_seq ?_
    refine wc_block ?_
    refine wc_seq ?_
    refine wc_seq ?_
    refine wc_region ?_
    refine wv rfl (r_move rfl) ?_
    refine wv rfl (r_move rfl) ?_
    obtain ⟨hg141, hx⟩ := xg_some hx
    have hi140 : i124.toNat < a.length := by omega
    refine wv rfl (r_ixC Try.underlying29 sz77 rfl rfl (hM.seeR (.head _)) hg141) ?_
    refine wv rfl (r_fldC (i := i124.toNat) Try.underlying77 rfl rfl sz3 rfl (hM.seeR (.head _)) hi140) ?_
    refine wv rfl (r_ld Try.underlying3 rfl rfl (Cs.get (i := i124.toNat) (j := 0) (hM.seeR (.head _)) (fun _ => rfl) hi140 rfl)) ?_
    refine wv rfl (r_move rfl) ?_
    refine wv rfl (r_neq rfl rfl) ?_
    refine wl_nil ?_
    refine sq_n ?_
    refine wc_cond rfl (fun hc146 => ?_) (fun hc146 => ?_)
    · replace hx := xif_t hc146 hx
      refine wc_seq ?_
      refine wc_region ?_
      refine wv rfl (r_assign rfl) ?_
      refine wl_nil ?_
      refine sq_n ?_
      refine wc_ret ?_
      refine sq_ret ?_
      refine bk_ret ?_
      refine sq_ret ?_
      refine lp1_ret ?_
      obtain rfl := Option.some.inj hx
      obtain rfl := Option.some.inj hx131
      replace hx := hx122
      try dsimp only [Sum.elim_inl, Sum.elim_inr] at hx
      refine bk_ret ?_
      refine sq_ret ?_
      obtain rfl := Option.some.inj hx
      refine fin_ret [(.int .i64 (-1))] ⟨rfl, trivial⟩ ?_
      replace hM := hM.t0
      have hM := hM.fewer rsN
      exact ⟨(), rfl, hM.gives⟩
    · replace hx := xif_f hc146 hx
      refine wc_skip ?_
      refine sq_n ?_
      refine wc_seq ?_
      refine wc_region ?_
      refine wv rfl (r_move rfl) ?_
      obtain ⟨hg150, hx⟩ := xg_some hx
      refine wv rfl (r_add rfl rfl hg150) ?_
      refine wv rfl (r_assign rfl) ?_
      refine wl_nil ?_
      refine sq_n ?_
      refine wc_seq ?_
      refine wc_seq ?_
      refine wc_region ?_
      refine wv rfl (r_move rfl) ?_
      refine wv rfl (r_move rfl) ?_
      obtain ⟨hg156, hx⟩ := xg_some hx
      have hi155 : i124.toNat < a.length := by omega
      refine wv rfl (r_ixC Try.underlying29 sz77 rfl rfl (hM.seeR (.head _)) hg156) ?_
      refine wv rfl (r_fldC (i := i124.toNat) Try.underlying77 rfl rfl sz3 rfl (hM.seeR (.head _)) hi155) ?_
      refine wv rfl (r_ld Try.underlying3 rfl rfl (Cs.get (i := i124.toNat) (j := 1) (hM.seeR (.head _)) (fun _ => rfl) hi155 rfl)) ?_
      refine wv rfl (r_move rfl) ?_
      refine wv rfl (r_neq rfl rfl) ?_
      refine wl_nil ?_
      refine sq_n ?_
      refine wc_cond rfl (fun hc161 => ?_) (fun hc161 => ?_)
      · replace hx := xif_t hc161 hx
        refine wc_seq ?_
        refine wc_region ?_
        refine wv rfl (r_assign rfl) ?_
        refine wl_nil ?_
        refine sq_n ?_
        refine wc_ret ?_
        refine sq_ret ?_
        refine bk_ret ?_
        refine sq_ret ?_
        refine lp1_ret ?_
        obtain rfl := Option.some.inj hx
        obtain rfl := Option.some.inj hx131
        replace hx := hx122
        try dsimp only [Sum.elim_inl, Sum.elim_inr] at hx
        refine bk_ret ?_
        refine sq_ret ?_
        obtain rfl := Option.some.inj hx
        refine fin_ret [(.int .i64 (-1))] ⟨rfl, trivial⟩ ?_
        replace hM := hM.t0
        have hM := hM.fewer rsN
        exact ⟨(), rfl, hM.gives⟩
      · replace hx := xif_f hc161 hx
        refine wc_skip ?_
        refine sq_n ?_
        refine wc_seq ?_
        refine wc_region ?_
        refine wv rfl (r_move rfl) ?_
        obtain ⟨hg165, hx⟩ := xg_some hx
        refine wv rfl (r_add rfl rfl hg165) ?_
        refine wv rfl (r_assign rfl) ?_
        refine wl_nil ?_
        refine sq_n ?_
        refine wc_seq ?_
        refine wc_region ?_
        refine wv rfl (r_move rfl) ?_
        refine wv rfl (r_move rfl) ?_
        obtain ⟨hg171, hx⟩ := xg_some hx
        have hi170 : i124.toNat < a.length := by omega
        refine wv rfl (r_ixC Try.underlying29 sz77 rfl rfl (hM.seeR (.head _)) hg171) ?_
        refine wv rfl (r_fldC (i := i124.toNat) Try.underlying77 rfl rfl sz26 rfl (hM.seeR (.head _)) hi170) ?_
        obtain ⟨s174, hM, hc175⟩ := hM.leaf (i := i124.toNat) (j := 2) (.head _) (fun _ => rfl) hi170 rfl
        refine wv rfl (r_ld Try.underlying26 rfl rfl (hc175 _ (Rel.refl _))) ?_
        refine wv rfl (r_move rfl) ?_
        obtain ⟨r177, h178, hx⟩ := bind_some' hx
        refine w_call rfl rfl (hM.callV fun X S oL hS hR hO => ct_laws_heldIntS _ X S ((el a i124.toNat).signs) s174 ((k123 + 1) + 1) hS (hR _ (.head _)) oL h178) ?_
        rintro _ w179 ⟨rfl, hR180⟩
        have hM := hM.call hR180
        refine wv rfl (r_assign rfl) ?_
        refine wl_nil ?_
        refine sq_n ?_
        refine wc_seq ?_
        refine wc_region ?_
        refine wv rfl (r_move rfl) ?_
        refine wv rfl (r_lss rfl rfl) ?_
        refine wl_nil ?_
        refine sq_n ?_
        refine wc_cond rfl (fun hc184 => ?_) (fun hc184 => ?_)
        · replace hx := xif_t hc184 hx
          refine wc_seq ?_
          refine wc_region ?_
          refine wv rfl (r_assign rfl) ?_
          refine wl_nil ?_
          refine sq_n ?_
          refine wc_ret ?_
          refine bk_ret ?_
          refine sq_ret ?_
          refine lp1_ret ?_
          obtain rfl := Option.some.inj hx
          obtain rfl := Option.some.inj hx131
          replace hx := hx122
          try dsimp only [Sum.elim_inl, Sum.elim_inr] at hx
          refine bk_ret ?_
          refine sq_ret ?_
          obtain rfl := Option.some.inj hx
          refine fin_ret [(.int .i64 (-1))] ⟨rfl, trivial⟩ ?_
          replace hM := hM.t0
          have hM := hM.fewer rsN
          exact ⟨(), rfl, hM.gives⟩
        · replace hx := xif_f hc184 hx
          refine wc_skip ?_
          refine bk_n ?_
          refine sq_n ?_
          refine wc_region ?_
          refine wv rfl (r_move rfl) ?_
          obtain ⟨hg188, hx⟩ := xg_some hx
          refine wv rfl (r_add rfl rfl hg188) ?_
          refine wv rfl (r_assign rfl) ?_
          refine wl_nil ?_
          obtain rfl := Option.some.inj hx
          have hM := hM.fewer (rsC (.tail _ (.head _)) rsN)
          replace hM : St ⟨w, X, S⟩ [] [rV s_a.v (cSl 3 fDPart a)] _ := hM
          exact lp_end (m129, r177, i124 + 1) (Nat.lt_succ_self _) ⟨rfl, rfl, rfl, trivial⟩ ⟨hM, hx131⟩
  · replace hx := xif_f hc136 hx
    refine wc_exit ?_
    refine sq_exit ?_
    refine lp1_exit ?_
    obtain rfl := Option.some.inj hx
    obtain rfl := Option.some.inj hx131
    replace hx := hx122
    try dsimp only [Sum.elim_inl, Sum.elim_inr] at hx
    refine bk_here ?_
    refine sq_n ?_
    refine wc_seq ?_
    refine wc_region ?_
    refine wv rfl (r_move rfl) ?_
    refine wv rfl (r_assign rfl) ?_
    refine wl_nil ?_
    refine sq_n ?_
    refine wc_ret ?_
    obtain rfl := Option.some.inj hx
    refine fin_ret [(.int .i64 k123)] ⟨rfl, trivial⟩ ?_
    replace hM := hM.t0
    have hM := hM.fewer rsN
    exact ⟨(), rfl, hM.gives⟩

noncomputable def x_laws_heldEntryS_b0 (a : List DEntry) (k3 : Int) (i4 : Int) : Option (Lr (Int × Int) (Sum Int Int)) :=
  bif decide (i4 < (a.length : Int)) then (xg (0 ≤ i4 ∧ i4 < (a.length : Int)) <| bif !decide (((el a i4.toNat).client) = k3) then (some (Lr.out (Sum.inr (-1)))) else (xg (inI (k3 + 1)) <| xg (0 ≤ i4 ∧ i4 < (a.length : Int)) <| bif !decide (((el a i4.toNat).seq) = (k3 + 1)) then (some (Lr.out (Sum.inr (-1)))) else (xg (inI ((k3 + 1) + 1)) <| xg (0 ≤ i4 ∧ i4 < (a.length : Int)) <| Option.bind (x_laws_heldPartS ((el a i4.toNat).o) ((k3 + 1) + 1)) fun r101 => bif decide (r101 < 0) then (some (Lr.out (Sum.inr (-1)))) else (xg (inI (i4 + 1)) <| some (Lr.go (r101, i4 + 1)))))) else (some (Lr.out (Sum.inl k3)))
noncomputable def x_laws_heldEntryS_f0 (a : List DEntry) (s113 : Int × Int) : Option (Lr (Int × Int) (Sum Int Int)) := x_laws_heldEntryS_b0 a s113.1 s113.2
noncomputable def x_laws_heldEntryS (a : List DEntry) (k : Int) : Option Int :=
  Option.bind (iter (x_laws_heldEntryS_f0 a) (k, 0)) fun (y114 : Sum Int Int) => Sum.elim (fun y115 => some y115) (fun y116 => some y116) y114
theorem ct_laws_heldEntryS (w : World) (X S : Bs) (a : List DEntry) (s_a : Sv) (k : Int) (hS : ∀ b, S b → b < w.heap.size ∧ ¬ X b) (a_a_0 : (cSl 3 fDEntry a).rd S w s_a.v) (oL : Sep [] X w) {r : Int} (hx : x_laws_heldEntryS a k = some r) :
    Ret Try.prog 38 [s_a.v, (.int .i64 k)] w (fun u w' => ∃ _ : Unit, u = (.int .i64 r) ∧ Gives X S w [] [] w') := by
  unfold x_laws_heldEntryS at hx
  refine enter Try.func38 rfl Try.ntmps38 (by kernel_rfl) rfl ?_
  have hM := St.enter oL hS
  have hM := hM.addE (r := rV s_a.v (cSl 3 fDEntry a)) a_a_0
  refine wc_seq ?_
  refine wc_region ?_
  refine wv rfl (r_assign rfl) ?_
  refine wl_nil ?_
  refine sq_n ?_
  refine wc_seq ?_
  refine wc_seq ?_
  refine wc_region ?_
  refine wv rfl (r_assign rfl) ?_
  refine wl_nil ?_
  refine sq_n ?_
  refine wc_block ?_
  obtain ⟨y121, hx, hx122⟩ := bind_some' hx
  obtain ⟨m127, hx⟩ := iter_run hx
  refine wc_loop (un fun (m125 : Nat) => un fun (k123 : Int) => fun (i124 : Int) => [(0, s_a.v), (1, (.int .i64 k123)), (5, (.int .i64 i124))]) (un fun (m125 : Nat) => un fun (k123 : Int) => fun (i124 : Int) w' => St ⟨w, X, S⟩ [] [rV s_a.v (cSl 3 fDEntry a)] w' ∧ iterN _ m125 (k123, i124) = some y121) (fun p => p.1) (m127, k, 0) ⟨rfl, rfl, rfl, trivial⟩ ⟨hM, hx⟩ ?_
  rintro ⟨m125, k123, i124⟩ w128 ⟨hM, hx⟩
  obtain ⟨m129, z130, rfl, hx, hx131⟩ := iterN_step hx
  unfold x_laws_heldEntryS_f0 x_laws_heldEntryS_b0 at hx
  try dsimp only at hx
  refine wc_seq ?_
  refine wc_seq ?_
  refine wc_region ?_
  refine wv rfl (r_move rfl) ?_
  refine wv rfl (r_move rfl) ?_
  refine wv rfl (r_lenC Try.underlying60 rfl (hM.seeR (.head _))) ?_
  refine wv rfl (r_lss rfl rfl) ?_
  refine wl_nil ?_
  refine sq_n ?_
  refine wc_cond rfl (fun hc136 => ?_) (fun hc136 => ?_)
  · replace hx := xif_t hc136 hx
    refine wc_skip ?_
    refine sq_n ?_
    refine wc_seq ?_
    refine wc_block ?_
    refine wc_seq ?_
    refine wc_seq ?_
    refine wc_region ?_
    refine wv rfl (r_move rfl) ?_
    refine wv rfl (r_move rfl) ?_
    obtain ⟨hg141, hx⟩ := xg_some hx
    have hi140 : i124.toNat < a.length := by omega
    refine wv rfl (r_ixC Try.underlying60 sz104 rfl rfl (hM.seeR (.head _)) hg141) ?_
    refine wv rfl (r_fldC (i := i124.toNat) Try.underlying104 rfl rfl sz3 rfl (hM.seeR (.head _)) hi140) ?_
    refine wv rfl (r_ld Try.underlying3 rfl rfl (Cs.get (i := i124.toNat) (j := 0) (hM.seeR (.head _)) (fun _ => rfl) hi140 rfl)) ?_
    refine wv rfl (r_move rfl) ?_
    refine wv rfl (r_neq rfl rfl) ?_
    refine wl_nil ?_
    refine sq_n ?_
    refine wc_cond rfl (fun hc146 => ?_) (fun hc146 => ?_)
    · replace hx := xif_t hc146 hx
      refine wc_seq ?_
      refine wc_region ?_
      refine wv rfl (r_assign rfl) ?_
      refine wl_nil ?_
      refine sq_n ?_
      refine wc_ret ?_
      refine sq_ret ?_
      refine bk_ret ?_
      refine sq_ret ?_
      refine lp1_ret ?_
      obtain rfl := Option.some.inj hx
      obtain rfl := Option.some.inj hx131
      replace hx := hx122
      try dsimp only [Sum.elim_inl, Sum.elim_inr] at hx
      refine bk_ret ?_
      refine sq_ret ?_
      obtain rfl := Option.some.inj hx
      refine fin_ret [(.int .i64 (-1))] ⟨rfl, trivial⟩ ?_
      replace hM := hM.t0
      have hM := hM.fewer rsN
      exact ⟨(), rfl, hM.gives⟩
    · replace hx := xif_f hc146 hx
      refine wc_skip ?_
      refine sq_n ?_
      refine wc_seq ?_
      refine wc_region ?_
      refine wv rfl (r_move rfl) ?_
      obtain ⟨hg150, hx⟩ := xg_some hx
      refine wv rfl (r_add rfl rfl hg150) ?_
      refine wv rfl (r_assign rfl) ?_
      refine wl_nil ?_
      refine sq_n ?_
      refine wc_seq ?_
      refine wc_seq ?_
      refine wc_region ?_
      refine wv rfl (r_move rfl) ?_
      refine wv rfl (r_move rfl) ?_
      obtain ⟨hg156, hx⟩ := xg_some hx
      have hi155 : i124.toNat < a.length := by omega
      refine wv rfl (r_ixC Try.underlying60 sz104 rfl rfl (hM.seeR (.head _)) hg156) ?_
      refine wv rfl (r_fldC (i := i124.toNat) Try.underlying104 rfl rfl sz3 rfl (hM.seeR (.head _)) hi155) ?_
      refine wv rfl (r_ld Try.underlying3 rfl rfl (Cs.get (i := i124.toNat) (j := 1) (hM.seeR (.head _)) (fun _ => rfl) hi155 rfl)) ?_
      refine wv rfl (r_move rfl) ?_
      refine wv rfl (r_neq rfl rfl) ?_
      refine wl_nil ?_
      refine sq_n ?_
      refine wc_cond rfl (fun hc161 => ?_) (fun hc161 => ?_)
      · replace hx := xif_t hc161 hx
        refine wc_seq ?_
        refine wc_region ?_
        refine wv rfl (r_assign rfl) ?_
        refine wl_nil ?_
        refine sq_n ?_
        refine wc_ret ?_
        refine sq_ret ?_
        refine bk_ret ?_
        refine sq_ret ?_
        refine lp1_ret ?_
        obtain rfl := Option.some.inj hx
        obtain rfl := Option.some.inj hx131
        replace hx := hx122
        try dsimp only [Sum.elim_inl, Sum.elim_inr] at hx
        refine bk_ret ?_
        refine sq_ret ?_
        obtain rfl := Option.some.inj hx
        refine fin_ret [(.int .i64 (-1))] ⟨rfl, trivial⟩ ?_
        replace hM := hM.t0
        have hM := hM.fewer rsN
        exact ⟨(), rfl, hM.gives⟩
      · replace hx := xif_f hc161 hx
        refine wc_skip ?_
        refine sq_n ?_
        refine wc_seq ?_
        refine wc_region ?_
        refine wv rfl (r_move rfl) ?_
        obtain ⟨hg165, hx⟩ := xg_some hx
        refine wv rfl (r_add rfl rfl hg165) ?_
        refine wv rfl (r_assign rfl) ?_
        refine wl_nil ?_
        refine sq_n ?_
        refine wc_seq ?_
        refine wc_region ?_
        refine wv rfl (r_move rfl) ?_
        refine wv rfl (r_move rfl) ?_
        obtain ⟨hg171, hx⟩ := xg_some hx
        have hi170 : i124.toNat < a.length := by omega
        refine wv rfl (r_ixC Try.underlying60 sz104 rfl rfl (hM.seeR (.head _)) hg171) ?_
        refine wv rfl (r_fldC (i := i124.toNat) Try.underlying104 rfl rfl sz29 rfl (hM.seeR (.head _)) hi170) ?_
        obtain ⟨s174, hM, hc175⟩ := hM.leaf (i := i124.toNat) (j := 2) (.head _) (fun _ => rfl) hi170 rfl
        refine wv rfl (r_ld Try.underlying29 rfl rfl (hc175 _ (Rel.refl _))) ?_
        refine wv rfl (r_move rfl) ?_
        obtain ⟨r177, h178, hx⟩ := bind_some' hx
        refine w_call rfl rfl (hM.callV fun X S oL hS hR hO => ct_laws_heldPartS _ X S ((el a i124.toNat).o) s174 ((k123 + 1) + 1) hS (hR _ (.head _)) oL h178) ?_
        rintro _ w179 ⟨rfl, hR180⟩
        have hM := hM.call hR180
        refine wv rfl (r_assign rfl) ?_
        refine wl_nil ?_
        refine sq_n ?_
        refine wc_seq ?_
        refine wc_region ?_
        refine wv rfl (r_move rfl) ?_
        refine wv rfl (r_lss rfl rfl) ?_
        refine wl_nil ?_
        refine sq_n ?_
        refine wc_cond rfl (fun hc184 => ?_) (fun hc184 => ?_)
        · replace hx := xif_t hc184 hx
          refine wc_seq ?_
          refine wc_region ?_
          refine wv rfl (r_assign rfl) ?_
          refine wl_nil ?_
          refine sq_n ?_
          refine wc_ret ?_
          refine bk_ret ?_
          refine sq_ret ?_
          refine lp1_ret ?_
          obtain rfl := Option.some.inj hx
          obtain rfl := Option.some.inj hx131
          replace hx := hx122
          try dsimp only [Sum.elim_inl, Sum.elim_inr] at hx
          refine bk_ret ?_
          refine sq_ret ?_
          obtain rfl := Option.some.inj hx
          refine fin_ret [(.int .i64 (-1))] ⟨rfl, trivial⟩ ?_
          replace hM := hM.t0
          have hM := hM.fewer rsN
          exact ⟨(), rfl, hM.gives⟩
        · replace hx := xif_f hc184 hx
          refine wc_skip ?_
          refine bk_n ?_
          refine sq_n ?_
          refine wc_region ?_
          refine wv rfl (r_move rfl) ?_
          obtain ⟨hg188, hx⟩ := xg_some hx
          refine wv rfl (r_add rfl rfl hg188) ?_
          refine wv rfl (r_assign rfl) ?_
          refine wl_nil ?_
          obtain rfl := Option.some.inj hx
          have hM := hM.fewer (rsC (.tail _ (.head _)) rsN)
          replace hM : St ⟨w, X, S⟩ [] [rV s_a.v (cSl 3 fDEntry a)] _ := hM
          exact lp_end (m129, r177, i124 + 1) (Nat.lt_succ_self _) ⟨rfl, rfl, rfl, trivial⟩ ⟨hM, hx131⟩
  · replace hx := xif_f hc136 hx
    refine wc_exit ?_
    refine sq_exit ?_
    refine lp1_exit ?_
    obtain rfl := Option.some.inj hx
    obtain rfl := Option.some.inj hx131
    replace hx := hx122
    try dsimp only [Sum.elim_inl, Sum.elim_inr] at hx
    refine bk_here ?_
    refine sq_n ?_
    refine wc_seq ?_
    refine wc_region ?_
    refine wv rfl (r_move rfl) ?_
    refine wv rfl (r_assign rfl) ?_
    refine wl_nil ?_
    refine sq_n ?_
    refine wc_ret ?_
    obtain rfl := Option.some.inj hx
    refine fin_ret [(.int .i64 k123)] ⟨rfl, trivial⟩ ?_
    replace hM := hM.t0
    have hM := hM.fewer rsN
    exact ⟨(), rfl, hM.gives⟩

noncomputable def x_laws_FnExactSquash (aL : List DEntry) : Option Bool :=
  Option.bind (x_laws_szEntryS aL 1048576) fun r5 => bif decide (r5 < 0) then (some true) else (Option.bind (x_laws_toEntryS aL) fun r14 => Option.bind (x_spec_Squash r14) fun r19 => Option.bind (x_laws_toEntryS aL) fun r30 => Option.bind (x_impl_Squash r30) fun r37 => Option.bind (x_laws_eqEntryS r37.1 r19.1) fun r49 => Option.bind (bif !r49 then (some true) else (some (!(r37.2 == r19.2)))) fun c55 => bif c55 then (some false) else (Option.bind (x_laws_toEntryS aL) fun r66 => Option.bind (x_laws_eqEntryS r30 r66) fun r71 => bif !r71 then (some false) else (Option.bind (x_laws_markEntryS r30 1) fun r80 => Option.bind (bif decide (r80.1 < 0) then (some true) else (Option.bind (x_laws_eqEntryS r37.1 r19.1) fun r98 => some (!r98))) fun c87 => Option.bind (bif c87 then (some true) else (some (!(r37.2 == r19.2)))) fun c104 => bif c104 then (some false) else (Option.bind (x_laws_markEntryS r37.1 1) fun r116 => Option.bind (x_laws_heldEntryS r116.2 1) fun r123 => bif decide (r123 < 0) then (some false) else (bif !decide (r123 = r116.1) then (some false) else (Option.bind (x_laws_toEntryS aL) fun r136 => Option.bind (x_impl_Squash r136) fun r141 => Option.bind (x_laws_eqEntryS r141.1 r19.1) fun r153 => Option.bind (bif !r153 then (some true) else (some (!(r141.2 == r19.2)))) fun c159 => bif c159 then (some false) else (Option.bind (x_laws_heldEntryS r116.2 1) fun r171 => bif decide (r171 < 0) then (some false) else (bif !decide (r171 = r116.1) then (some false) else (some true)))))))))
theorem ct_laws_FnExactSquash (w : World) (X S : Bs) (aL : List DEntry) (s_aL : Sv) (hS : ∀ b, S b → b < w.heap.size ∧ ¬ X b) (a_aL_0 : (cSl 3 fDEntry aL).rd S w s_aL.v) (oL : Sep [] X w) {r : Bool} (hx : x_laws_FnExactSquash aL = some r) :
    Ret Try.prog 7 [s_aL.v] w (fun u w' => ∃ _ : Unit, u = (.bool r) ∧ Gives X S w [] [] w') := by
  unfold x_laws_FnExactSquash at hx
  refine enter Try.func7 rfl Try.ntmps7 (by kernel_rfl) rfl ?_
  have hM := St.enter oL hS
  have hM := hM.addE (r := rV s_aL.v (cSl 3 fDEntry aL)) a_aL_0
  refine wc_seq ?_
  refine wc_region ?_
  refine wv rfl (r_assign rfl) ?_
  refine wl_nil ?_
  refine sq_n ?_
  refine wc_seq ?_
  refine wc_region ?_
  refine wv rfl (r_assign rfl) ?_
  refine wl_nil ?_
  refine sq_n ?_
  refine wc_seq ?_
  refine wc_region ?_
  refine wv rfl (r_move rfl) ?_
  refine wv rfl (r_move rfl) ?_
  obtain ⟨r188, h189, hx⟩ := bind_some' hx
  refine w_call rfl rfl (hM.callV fun X S oL hS hR hO => ct_laws_szEntryS _ X S aL s_aL (1048576 : Int) hS (hR _ (.head _)) oL h189) ?_
  rintro _ w190 ⟨rfl, hR191⟩
  have hM := hM.call hR191
  refine wv rfl (r_assign rfl) ?_
  refine wl_nil ?_
  refine sq_n ?_
  refine wc_seq ?_
  refine wc_seq ?_
  refine wc_region ?_
  refine wv rfl (r_move rfl) ?_
  refine wv rfl (r_lss rfl rfl) ?_
  refine wl_nil ?_
  refine sq_n ?_
  refine wc_cond rfl (fun hc195 => ?_) (fun hc195 => ?_)
  · replace hx := xif_t hc195 hx
    refine wc_seq ?_
    refine wc_region ?_
    refine wv rfl (r_assign rfl) ?_
    refine wl_nil ?_
    refine sq_n ?_
    refine wc_ret ?_
    refine sq_ret ?_
    obtain rfl := Option.some.inj hx
    refine fin_ret [(.bool true)] ⟨rfl, trivial⟩ ?_
    replace hM := hM.t0
    have hM := hM.fewer rsN
    exact ⟨(), rfl, hM.gives⟩
  · replace hx := xif_f hc195 hx
    refine wc_skip ?_
    refine sq_n ?_
    refine wc_seq ?_
    refine wc_region ?_
    refine wv rfl (r_move rfl) ?_
    obtain ⟨r198, h199, hx⟩ := bind_some' hx
    refine w_call rfl rfl (hM.callO (l := []) fun X S oL hS hR hO => ct_laws_toEntryS _ X S aL s_aL hS (hR _ (.head _)) oL h199) ?_
    rintro _ w200 ⟨s201, rfl, hM⟩
    replace hM : St ⟨w, X, S⟩ [oC (cSl 3 fDEntry r198) s201.v] [rV s_aL.v (cSl 3 fDEntry aL)] _ := hM
    obtain ⟨r203, h204, hx⟩ := bind_some' hx
    refine w_call rfl rfl (hM.callO (l := []) fun X S oL hS hR hO => ct_spec_Squash _ X S r198 s201 hS (seeA hO (.head _)) oL h204) ?_
    rintro _ w205 ⟨s206, rfl, hM⟩
    replace hM : St ⟨w, X, S⟩ [oC (cSl 3 fDEntry r203.1) s206.v, oC (cSl 3 fDEntry r198) s201.v] [rV s_aL.v (cSl 3 fDEntry aL)] _ := hM
    refine wv rfl (r_move rfl) ?_
    refine wv rfl (r_extract rfl rfl) ?_
    refine wv rfl (r_extract rfl rfl) ?_
    refine wv rfl (r_assign rfl) ?_
    refine wv rfl (r_assign rfl) ?_
    refine wl_nil ?_
    refine sq_n ?_
    refine wc_seq ?_
    refine wc_region ?_
    refine wv rfl (r_move rfl) ?_
    obtain ⟨r214, h215, hx⟩ := bind_some' hx
    refine w_call rfl rfl (hM.callO (l := []) fun X S oL hS hR hO => ct_laws_toEntryS _ X S aL s_aL hS (hR _ (.head _)) oL h215) ?_
    rintro _ w216 ⟨s217, rfl, hM⟩
    replace hM : St ⟨w, X, S⟩ [oC (cSl 3 fDEntry r214) s217.v, oC (cSl 3 fDEntry r203.1) s206.v, oC (cSl 3 fDEntry r198) s201.v] [rV s_aL.v (cSl 3 fDEntry aL)] _ := hM
    refine wv rfl (r_assign rfl) ?_
    refine wl_nil ?_
    refine sq_n ?_
    refine wc_seq ?_
    refine wc_region ?_
    refine wv rfl (r_move rfl) ?_
    obtain ⟨r221, h222, hx⟩ := bind_some' hx
    refine w_call rfl rfl (hM.callO (l := []) fun X S oL hS hR hO => ct_impl_Squash _ X S r214 s217 hS (seeA hO (.head _)) oL h222) ?_
    rintro _ w223 ⟨s224, rfl, hM⟩
    replace hM : St ⟨w, X, S⟩ [oC (cSl 3 fDEntry r221.1) s224.v, oC (cSl 3 fDEntry r214) s217.v, oC (cSl 3 fDEntry r203.1) s206.v, oC (cSl 3 fDEntry r198) s201.v] [rV s_aL.v (cSl 3 fDEntry aL)] _ := hM
    refine wv rfl (r_move rfl) ?_
    refine wv rfl (r_extract rfl rfl) ?_
    refine wv rfl (r_extract rfl rfl) ?_
    refine wv rfl (r_assign rfl) ?_
    refine wv rfl (r_assign rfl) ?_
    refine wl_nil ?_
    refine sq_n ?_
    refine wc_seq ?_
    refine wc_seq ?_
    refine wc_region ?_
    refine wv rfl (r_move rfl) ?_
    refine wv rfl (r_move rfl) ?_
    obtain ⟨r233, h234, hx⟩ := bind_some' hx
    refine w_call rfl rfl (hM.callV fun X S oL hS hR hO => ct_laws_eqEntryS _ X S r221.1 s224 r203.1 s206 hS (seeA hO (.head _)) (seeA hO (.tail _ (.tail _ (.head _)))) oL h234) ?_
    rintro _ w235 ⟨rfl, hR236⟩
    have hM := hM.call hR236
    refine wv rfl (r_not rfl) ?_
    refine wv rfl (r_move rfl) ?_
    obtain ⟨c239, hx, hx244⟩ := bind_some' hx
    refine wl_mid 4 (fun _ : Unit => [(40, (.bool c239)), (0, s_aL.v), (4, s206.v), (5, (.bool r203.2)), (6, s217.v), (7, s224.v), (8, (.bool r221.2))]) (fun _ w' => St ⟨w, X, S⟩ [oC (cSl 3 fDEntry r221.1) s224.v, oC (cSl 3 fDEntry r214) s217.v, oC (cSl 3 fDEntry r203.1) s206.v, oC (cSl 3 fDEntry r198) s201.v] [rV s_aL.v (cSl 3 fDEntry aL)] w') ?_ ?_
    · rcases Bool.eq_false_or_eq_true (!r233) with hg240 | hg240
      · replace hx := xif_t hg240 hx
        refine gs rfl (isB_no hg240) rfl ?_
        refine gs rfl (isB_no hg240) rfl ?_
        refine gs rfl (isB_no hg240) rfl ?_
        refine wv rfl (p_t rfl hg240 rfl) ?_
        obtain rfl := Option.some.inj hx
        exact mid_nil () ⟨rfl, rfl, rfl, rfl, rfl, rfl, rfl, trivial⟩ hM
      · replace hx := xif_f hg240 hx
        refine gv rfl hg240 rfl (r_move rfl) ?_
        refine gv rfl hg240 rfl (r_move rfl) ?_
        refine gv rfl hg240 rfl (r_neqb Try.underlying4 rfl rfl) ?_
        refine wv rfl (p_f rfl hg240 rfl) ?_
        obtain rfl := Option.some.inj hx
        exact mid_nil () ⟨rfl, rfl, rfl, rfl, rfl, rfl, rfl, trivial⟩ hM
    rintro _ w248 hM
    replace hx := hx244
    refine wl_nil ?_
    refine sq_n ?_
    refine wc_cond rfl (fun hc249 => ?_) (fun hc249 => ?_)
    · replace hx := xif_t hc249 hx
      refine wc_seq ?_
      refine wc_region ?_
      refine wv rfl (r_assign rfl) ?_
      refine wl_nil ?_
      refine sq_n ?_
      refine wc_ret ?_
      refine sq_ret ?_
      obtain rfl := Option.some.inj hx
      refine fin_ret [(.bool false)] ⟨rfl, trivial⟩ ?_
      replace hM := hM.t0
      have hM := hM.fewer rsN
      exact ⟨(), rfl, hM.gives⟩
    · replace hx := xif_f hc249 hx
      refine wc_skip ?_
      refine sq_n ?_
      refine wc_seq ?_
      refine wc_seq ?_
      refine wc_region ?_
      refine wv rfl (r_move rfl) ?_
      refine wv rfl (r_move rfl) ?_
      obtain ⟨r253, h254, hx⟩ := bind_some' hx
      refine w_call rfl rfl (hM.callO (l := []) fun X S oL hS hR hO => ct_laws_toEntryS _ X S aL s_aL hS (hR _ (.head _)) oL h254) ?_
      rintro _ w255 ⟨s256, rfl, hM⟩
      replace hM : St ⟨w, X, S⟩ [oC (cSl 3 fDEntry r253) s256.v, oC (cSl 3 fDEntry r221.1) s224.v, oC (cSl 3 fDEntry r214) s217.v, oC (cSl 3 fDEntry r203.1) s206.v, oC (cSl 3 fDEntry r198) s201.v] [rV s_aL.v (cSl 3 fDEntry aL)] _ := hM
      obtain ⟨r258, h259, hx⟩ := bind_some' hx
      refine w_call rfl rfl (hM.callV fun X S oL hS hR hO => ct_laws_eqEntryS _ X S r214 s217 r253 s256 hS (seeA hO (.tail _ (.tail _ (.head _)))) (seeA hO (.head _)) oL h259) ?_
      rintro _ w260 ⟨rfl, hR261⟩
      have hM := hM.call hR261
      refine wv rfl (r_not rfl) ?_
      refine wl_nil ?_
      refine sq_n ?_
      refine wc_cond rfl (fun hc263 => ?_) (fun hc263 => ?_)
      · replace hx := xif_t hc263 hx
        refine wc_seq ?_
        refine wc_region ?_
        refine wv rfl (r_assign rfl) ?_
        refine wl_nil ?_
        refine sq_n ?_
        refine wc_ret ?_
        refine sq_ret ?_
        obtain rfl := Option.some.inj hx
        refine fin_ret [(.bool false)] ⟨rfl, trivial⟩ ?_
        replace hM := hM.t0
        have hM := hM.fewer rsN
        exact ⟨(), rfl, hM.gives⟩
      · replace hx := xif_f hc263 hx
        refine wc_skip ?_
        refine sq_n ?_
        refine wc_seq ?_
        refine wc_region ?_
        refine wv rfl (r_assign rfl) ?_
        refine wl_nil ?_
        refine sq_n ?_
        refine wc_seq ?_
        refine wc_region ?_
        refine wv rfl (r_move rfl) ?_
        refine wv rfl (r_move rfl) ?_
        replace hM := hM.p2
        obtain ⟨r268, h269, hx⟩ := bind_some' hx
        refine w_call rfl rfl (hM.callO (l := [oC (cSl 3 fDEntry r214) s217.v]) fun X S oL hS hR hO => ct_laws_markEntryS _ X S r214 s217 (1 : Int) hS  oL h269) ?_
        rintro _ w270 ⟨_, rfl, hM⟩
        replace hM : St ⟨w, X, S⟩ [oC (cSl 3 fDEntry r268.2) s217.v, oC (cSl 3 fDEntry r253) s256.v, oC (cSl 3 fDEntry r221.1) s224.v, oC (cSl 3 fDEntry r203.1) s206.v, oC (cSl 3 fDEntry r198) s201.v] [rV s_aL.v (cSl 3 fDEntry aL)] _ := hM
        refine wv rfl (r_assign rfl) ?_
        refine wl_nil ?_
        refine sq_n ?_
        refine wc_seq ?_
        refine wc_seq ?_
        refine wc_region ?_
        refine wv rfl (r_move rfl) ?_
        refine wv rfl (r_lss rfl rfl) ?_
        refine wv rfl (r_move rfl) ?_
        obtain ⟨c275, hx, hx284⟩ := bind_some' hx
        refine wl_mid 5 (fun _ : Unit => [(56, (.bool c275)), (0, s_aL.v), (4, s206.v), (5, (.bool r203.2)), (7, s224.v), (8, (.bool r221.2))]) (fun _ w' => St ⟨w, X, S⟩ [oC (cSl 3 fDEntry r268.2) s217.v, oC (cSl 3 fDEntry r253) s256.v, oC (cSl 3 fDEntry r221.1) s224.v, oC (cSl 3 fDEntry r203.1) s206.v, oC (cSl 3 fDEntry r198) s201.v] [rV s_aL.v (cSl 3 fDEntry aL)] w') ?_ ?_
        · rcases Bool.eq_false_or_eq_true (decide (r268.1 < 0)) with hg276 | hg276
          · replace hx := xif_t hg276 hx
            refine gs rfl (isB_no hg276) rfl ?_
            refine gs rfl (isB_no hg276) rfl ?_
            refine gs rfl (isB_no hg276) rfl ?_
            refine gs rfl (isB_no hg276) rfl ?_
            refine wv rfl (p_t rfl hg276 rfl) ?_
            obtain rfl := Option.some.inj hx
            exact mid_nil () ⟨rfl, rfl, rfl, rfl, rfl, rfl, trivial⟩ hM
          · replace hx := xif_f hg276 hx
            refine gv rfl hg276 rfl (r_move rfl) ?_
            refine gv rfl hg276 rfl (r_move rfl) ?_
            obtain ⟨r287, h288, hx⟩ := bind_some' hx
            refine gc rfl hg276 rfl rfl (hM.callV fun X S oL hS hR hO => ct_laws_eqEntryS _ X S r221.1 s224 r203.1 s206 hS (seeA hO (.tail _ (.tail _ (.head _)))) (seeA hO (.tail _ (.tail _ (.tail _ (.head _))))) oL h288) ?_
            rintro _ w289 ⟨rfl, hR290⟩
            have hM := hM.call hR290
            refine gv rfl hg276 rfl (r_not rfl) ?_
            refine wv rfl (p_f rfl hg276 rfl) ?_
            obtain rfl := Option.some.inj hx
            exact mid_nil () ⟨rfl, rfl, rfl, rfl, rfl, rfl, trivial⟩ hM
        rintro _ w292 hM
        replace hx := hx284
        refine wv rfl (r_move rfl) ?_
        obtain ⟨c294, hx, hx299⟩ := bind_some' hx
        refine wl_mid 4 (fun _ : Unit => [(61, (.bool c294)), (0, s_aL.v), (4, s206.v), (5, (.bool r203.2)), (7, s224.v)]) (fun _ w' => St ⟨w, X, S⟩ [oC (cSl 3 fDEntry r268.2) s217.v, oC (cSl 3 fDEntry r253) s256.v, oC (cSl 3 fDEntry r221.1) s224.v, oC (cSl 3 fDEntry r203.1) s206.v, oC (cSl 3 fDEntry r198) s201.v] [rV s_aL.v (cSl 3 fDEntry aL)] w') ?_ ?_
        · rcases Bool.eq_false_or_eq_true c275 with hg295 | hg295
          · replace hx := xif_t hg295 hx
            refine gs rfl (isB_no hg295) rfl ?_
            refine gs rfl (isB_no hg295) rfl ?_
            refine gs rfl (isB_no hg295) rfl ?_
            refine wv rfl (p_t rfl hg295 rfl) ?_
            obtain rfl := Option.some.inj hx
            exact mid_nil () ⟨rfl, rfl, rfl, rfl, rfl, trivial⟩ hM
          · replace hx := xif_f hg295 hx
            refine gv rfl hg295 rfl (r_move rfl) ?_
            refine gv rfl hg295 rfl (r_move rfl) ?_
            refine gv rfl hg295 rfl (r_neqb Try.underlying4 rfl rfl) ?_
            refine wv rfl (p_f rfl hg295 rfl) ?_
            obtain rfl := Option.some.inj hx
            exact mid_nil () ⟨rfl, rfl, rfl, rfl, rfl, trivial⟩ hM
        rintro _ w303 hM
        replace hx := hx299
        refine wl_nil ?_
        refine sq_n ?_
        refine wc_cond rfl (fun hc304 => ?_) (fun hc304 => ?_)
        · replace hx := xif_t hc304 hx
          refine wc_seq ?_
          refine wc_region ?_
          refine wv rfl (r_assign rfl) ?_
          refine wl_nil ?_
          refine sq_n ?_
          refine wc_ret ?_
          refine sq_ret ?_
          obtain rfl := Option.some.inj hx
          refine fin_ret [(.bool false)] ⟨rfl, trivial⟩ ?_
          replace hM := hM.t0
          have hM := hM.fewer rsN
          exact ⟨(), rfl, hM.gives⟩
        · replace hx := xif_f hc304 hx
          refine wc_skip ?_
          refine sq_n ?_
          refine wc_seq ?_
          refine wc_region ?_
          refine wv rfl (r_assign rfl) ?_
          refine wl_nil ?_
          refine sq_n ?_
          refine wc_seq ?_
          refine wc_region ?_
          refine wv rfl (r_move rfl) ?_
          refine wv rfl (r_move rfl) ?_
          replace hM := hM.p2
          obtain ⟨r309, h310, hx⟩ := bind_some' hx
          refine w_call rfl rfl (hM.callO (l := [oC (cSl 3 fDEntry r221.1) s224.v]) fun X S oL hS hR hO => ct_laws_markEntryS _ X S r221.1 s224 (1 : Int) hS  oL h310) ?_
          rintro _ w311 ⟨_, rfl, hM⟩
          replace hM : St ⟨w, X, S⟩ [oC (cSl 3 fDEntry r309.2) s224.v, oC (cSl 3 fDEntry r268.2) s217.v, oC (cSl 3 fDEntry r253) s256.v, oC (cSl 3 fDEntry r203.1) s206.v, oC (cSl 3 fDEntry r198) s201.v] [rV s_aL.v (cSl 3 fDEntry aL)] _ := hM
          refine wv rfl (r_assign rfl) ?_
          refine wl_nil ?_
          refine sq_n ?_
          refine wc_seq ?_
          refine wc_region ?_
          refine wv rfl (r_assign rfl) ?_
          refine wl_nil ?_
          refine sq_n ?_
          refine wc_seq ?_
          refine wc_region ?_
          refine wv rfl (r_move rfl) ?_
          refine wv rfl (r_move rfl) ?_
          obtain ⟨r316, h317, hx⟩ := bind_some' hx
          refine w_call rfl rfl (hM.callV fun X S oL hS hR hO => ct_laws_heldEntryS _ X S r309.2 s224 (1 : Int) hS (seeA hO (.head _)) oL h317) ?_
          rintro _ w318 ⟨rfl, hR319⟩
          have hM := hM.call hR319
          refine wv rfl (r_assign rfl) ?_
          refine wl_nil ?_
          refine sq_n ?_
          refine wc_seq ?_
          refine wc_seq ?_
          refine wc_region ?_
          refine wv rfl (r_move rfl) ?_
          refine wv rfl (r_lss rfl rfl) ?_
          refine wl_nil ?_
          refine sq_n ?_
          refine wc_cond rfl (fun hc323 => ?_) (fun hc323 => ?_)
          · replace hx := xif_t hc323 hx
            refine wc_seq ?_
            refine wc_region ?_
            refine wv rfl (r_assign rfl) ?_
            refine wl_nil ?_
            refine sq_n ?_
            refine wc_ret ?_
            refine sq_ret ?_
            obtain rfl := Option.some.inj hx
            refine fin_ret [(.bool false)] ⟨rfl, trivial⟩ ?_
            replace hM := hM.t0
            have hM := hM.fewer rsN
            exact ⟨(), rfl, hM.gives⟩
          · replace hx := xif_f hc323 hx
            refine wc_skip ?_
            refine sq_n ?_
            refine wc_seq ?_
            refine wc_seq ?_
            refine wc_region ?_
            refine wv rfl (r_move rfl) ?_
            refine wv rfl (r_move rfl) ?_
            refine wv rfl (r_neq rfl rfl) ?_
            refine wl_nil ?_
            refine sq_n ?_
            refine wc_cond rfl (fun hc328 => ?_) (fun hc328 => ?_)
            · replace hx := xif_t hc328 hx
              refine wc_seq ?_
              refine wc_region ?_
              refine wv rfl (r_assign rfl) ?_
              refine wl_nil ?_
              refine sq_n ?_
              refine wc_ret ?_
              refine sq_ret ?_
              obtain rfl := Option.some.inj hx
              refine fin_ret [(.bool false)] ⟨rfl, trivial⟩ ?_
              replace hM := hM.t0
              have hM := hM.fewer rsN
              exact ⟨(), rfl, hM.gives⟩
            · replace hx := xif_f hc328 hx
              refine wc_skip ?_
              refine sq_n ?_
              refine wc_seq ?_
              refine wc_region ?_
              refine wv rfl (r_move rfl) ?_
              obtain ⟨r331, h332, hx⟩ := bind_some' hx
              refine w_call rfl rfl (hM.callO (l := []) fun X S oL hS hR hO => ct_laws_toEntryS _ X S aL s_aL hS (hR _ (.head _)) oL h332) ?_
              rintro _ w333 ⟨s334, rfl, hM⟩
              replace hM : St ⟨w, X, S⟩ [oC (cSl 3 fDEntry r331) s334.v, oC (cSl 3 fDEntry r309.2) s224.v, oC (cSl 3 fDEntry r268.2) s217.v, oC (cSl 3 fDEntry r253) s256.v, oC (cSl 3 fDEntry r203.1) s206.v, oC (cSl 3 fDEntry r198) s201.v] [rV s_aL.v (cSl 3 fDEntry aL)] _ := hM
              obtain ⟨r336, h337, hx⟩ := bind_some' hx
              refine w_call rfl rfl (hM.callO (l := []) fun X S oL hS hR hO => ct_impl_Squash _ X S r331 s334 hS (seeA hO (.head _)) oL h337) ?_
              rintro _ w338 ⟨s339, rfl, hM⟩
              replace hM : St ⟨w, X, S⟩ [oC (cSl 3 fDEntry r336.1) s339.v, oC (cSl 3 fDEntry r331) s334.v, oC (cSl 3 fDEntry r309.2) s224.v, oC (cSl 3 fDEntry r268.2) s217.v, oC (cSl 3 fDEntry r253) s256.v, oC (cSl 3 fDEntry r203.1) s206.v, oC (cSl 3 fDEntry r198) s201.v] [rV s_aL.v (cSl 3 fDEntry aL)] _ := hM
              refine wv rfl (r_move rfl) ?_
              refine wv rfl (r_extract rfl rfl) ?_
              refine wv rfl (r_extract rfl rfl) ?_
              refine wv rfl (r_assign rfl) ?_
              refine wv rfl (r_assign rfl) ?_
              refine wl_nil ?_
              refine sq_n ?_
              refine wc_seq ?_
              refine wc_seq ?_
              refine wc_region ?_
              refine wv rfl (r_move rfl) ?_
              refine wv rfl (r_move rfl) ?_
              obtain ⟨r348, h349, hx⟩ := bind_some' hx
              refine w_call rfl rfl (hM.callV fun X S oL hS hR hO => ct_laws_eqEntryS _ X S r336.1 s339 r203.1 s206 hS (seeA hO (.head _)) (seeA hO (.tail _ (.tail _ (.tail _ (.tail _ (.tail _ (.head _))))))) oL h349) ?_
              rintro _ w350 ⟨rfl, hR351⟩
              have hM := hM.call hR351
              refine wv rfl (r_not rfl) ?_
              refine wv rfl (r_move rfl) ?_
              obtain ⟨c354, hx, hx359⟩ := bind_some' hx
              refine wl_mid 4 (fun _ : Unit => [(87, (.bool c354)), (7, s224.v), (10, (.int .i64 r309.1))]) (fun _ w' => St ⟨w, X, S⟩ [oC (cSl 3 fDEntry r336.1) s339.v, oC (cSl 3 fDEntry r331) s334.v, oC (cSl 3 fDEntry r309.2) s224.v, oC (cSl 3 fDEntry r268.2) s217.v, oC (cSl 3 fDEntry r253) s256.v, oC (cSl 3 fDEntry r203.1) s206.v, oC (cSl 3 fDEntry r198) s201.v] [rV s_aL.v (cSl 3 fDEntry aL)] w') ?_ ?_
              · rcases Bool.eq_false_or_eq_true (!r348) with hg355 | hg355
                · replace hx := xif_t hg355 hx
                  refine gs rfl (isB_no hg355) rfl ?_
                  refine gs rfl (isB_no hg355) rfl ?_
                  refine gs rfl (isB_no hg355) rfl ?_
                  refine wv rfl (p_t rfl hg355 rfl) ?_
                  obtain rfl := Option.some.inj hx
                  exact mid_nil () ⟨rfl, rfl, rfl, trivial⟩ hM
                · replace hx := xif_f hg355 hx
                  refine gv rfl hg355 rfl (r_move rfl) ?_
                  refine gv rfl hg355 rfl (r_move rfl) ?_
                  refine gv rfl hg355 rfl (r_neqb Try.underlying4 rfl rfl) ?_
                  refine wv rfl (p_f rfl hg355 rfl) ?_
                  obtain rfl := Option.some.inj hx
                  exact mid_nil () ⟨rfl, rfl, rfl, trivial⟩ hM
              rintro _ w363 hM
              replace hx := hx359
              refine wl_nil ?_
              refine sq_n ?_
              refine wc_cond rfl (fun hc364 => ?_) (fun hc364 => ?_)
              · replace hx := xif_t hc364 hx
                refine wc_seq ?_
                refine wc_region ?_
                refine wv rfl (r_assign rfl) ?_
                refine wl_nil ?_
                refine sq_n ?_
                refine wc_ret ?_
                refine sq_ret ?_
                obtain rfl := Option.some.inj hx
                refine fin_ret [(.bool false)] ⟨rfl, trivial⟩ ?_
                replace hM := hM.t0
                have hM := hM.fewer rsN
                exact ⟨(), rfl, hM.gives⟩
              · replace hx := xif_f hc364 hx
                refine wc_skip ?_
                refine sq_n ?_
                refine wc_seq ?_
                refine wc_region ?_
                refine wv rfl (r_assign rfl) ?_
                refine wl_nil ?_
                refine sq_n ?_
                refine wc_seq ?_
                refine wc_region ?_
                refine wv rfl (r_move rfl) ?_
                refine wv rfl (r_move rfl) ?_
                obtain ⟨r369, h370, hx⟩ := bind_some' hx
                refine w_call rfl rfl (hM.callV fun X S oL hS hR hO => ct_laws_heldEntryS _ X S r309.2 s224 (1 : Int) hS (seeA hO (.tail _ (.tail _ (.head _)))) oL h370) ?_
                rintro _ w371 ⟨rfl, hR372⟩
                have hM := hM.call hR372
                refine wv rfl (r_assign rfl) ?_
                refine wl_nil ?_
                refine sq_n ?_
                refine wc_seq ?_
                refine wc_seq ?_
                refine wc_region ?_
                refine wv rfl (r_move rfl) ?_
                refine wv rfl (r_lss rfl rfl) ?_
                refine wl_nil ?_
                refine sq_n ?_
                refine wc_cond rfl (fun hc376 => ?_) (fun hc376 => ?_)
                · replace hx := xif_t hc376 hx
                  refine wc_seq ?_
                  refine wc_region ?_
                  refine wv rfl (r_assign rfl) ?_
                  refine wl_nil ?_
                  refine sq_n ?_
                  refine wc_ret ?_
                  refine sq_ret ?_
                  obtain rfl := Option.some.inj hx
                  refine fin_ret [(.bool false)] ⟨rfl, trivial⟩ ?_
                  replace hM := hM.t0
                  have hM := hM.fewer rsN
                  exact ⟨(), rfl, hM.gives⟩
                · replace hx := xif_f hc376 hx
                  refine wc_skip ?_
                  refine sq_n ?_
                  refine wc_seq ?_
                  refine wc_seq ?_
                  refine wc_region ?_
                  refine wv rfl (r_move rfl) ?_
                  refine wv rfl (r_move rfl) ?_
                  refine wv rfl (r_neq rfl rfl) ?_
                  refine wl_nil ?_
                  refine sq_n ?_
                  refine wc_cond rfl (fun hc381 => ?_) (fun hc381 => ?_)
                  · replace hx := xif_t hc381 hx
                    refine wc_seq ?_
                    refine wc_region ?_
                    refine wv rfl (r_assign rfl) ?_
                    refine wl_nil ?_
                    refine sq_n ?_
                    refine wc_ret ?_
                    refine sq_ret ?_
                    obtain rfl := Option.some.inj hx
                    refine fin_ret [(.bool false)] ⟨rfl, trivial⟩ ?_
                    replace hM := hM.t0
                    have hM := hM.fewer rsN
                    exact ⟨(), rfl, hM.gives⟩
                  · replace hx := xif_f hc381 hx
                    refine wc_skip ?_
                    refine sq_n ?_
                    refine wc_seq ?_
                    refine wc_region ?_
                    refine wv rfl (r_assign rfl) ?_
                    refine wl_nil ?_
                    refine sq_n ?_
                    refine wc_ret ?_
                    obtain rfl := Option.some.inj hx
                    refine fin_ret [(.bool true)] ⟨rfl, trivial⟩ ?_
                    replace hM := hM.t0
                    have hM := hM.fewer rsN
                    exact ⟨(), rfl, hM.gives⟩

end Go.Proofs.Ythfkcpdechjmnaa
