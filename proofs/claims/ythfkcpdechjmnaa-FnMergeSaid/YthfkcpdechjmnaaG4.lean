/- Walks of functions of this program (printed by a program of ours, by the rules of the layer). No condition. -/
import Derived.Test.YthfkcpdechjmnaaG3
import Derived.Test.YthfkcpdechjmnaaNr
namespace Go.Proofs.Ythfkcpdechjmnaa
open Go.RowKit

noncomputable def x_impl_Touches_b1 (r25 : List DPart) (k139 : Nat) (at140 : Int) (k303 : Int) (l304 : List Int) : Option (Lr (Int × List Int) (List Int)) :=
  bif decide (k303 < ((el r25 k139).n)) then (xg (inI (at140 + k303)) <| xg (0 ≤ (at140 + k303) ∧ (at140 + k303) < (l304.length : Int)) <| xg (inI (k303 + 1)) <| some (Lr.go (k303 + 1, l304.set ((at140 + k303).toNat) 1))) else (some (Lr.out l304))
noncomputable def x_impl_Touches_f1 (r25 : List DPart) (k139 : Nat) (at140 : Int) (s342 : Int × List Int) : Option (Lr (Int × List Int) (List Int)) := x_impl_Touches_b1 r25 k139 at140 s342.1 s342.2
noncomputable def x_impl_Touches_b0 (r25 : List DPart) (k139 : Nat) (x353 : DPart) (at140 : Int) (l141 : List Int) : Option (Lr (Int × List Int) (List Int)) :=
  bif decide ((x353.kind) = 1) then (xg (inI (at140 + (x353.n))) <| some (Lr.go (at140 + (x353.n), l141))) else (bif decide ((x353.kind) = 2) then (xg (0 ≤ at140 ∧ at140 < (l141.length : Int)) <| some (Lr.go (at140, l141.set at140.toNat 1))) else (Option.bind (iter (x_impl_Touches_f1 r25 k139 at140) (0, l141)) fun (y343 : List Int) => xg (inI (at140 + (x353.n))) <| some (Lr.go (at140 + (x353.n), y343))))
noncomputable def x_impl_Touches_f0 (r25 : List DPart) (k139 : Nat) (s354 : Int × List Int) : Option (Lr (Int × List Int) (List Int)) := x_impl_Touches_b0 r25 k139 (el r25 k139) s354.1 s354.2
noncomputable def x_impl_Touches (o : List DPart) : Option (List Int) :=
  Option.bind (x_impl_OpOk o) fun r3 => bif !r3 then (some []) else (Option.bind (x_impl_OpFrom o) fun r10 => xg (inI (r10 + 1)) <| xg (0 ≤ (r10 + 1) ∧ (r10 + 1) ≤ 1099511627776) <| Option.bind (x_impl_OpNorm o) fun r25 => Option.bind (eachN (x_impl_Touches_f0 r25) (fun (s354 : Int × List Int) => (s354.2 : List Int)) r25.length 0 (0, List.replicate ((r10 + 1).toNat) 0)) fun (y355 : List Int) => some y355)
theorem ct_impl_Touches (w : World) (X S : Bs) (o : List DPart) (s_o : Sv) (hS : ∀ b, S b → b < w.heap.size ∧ ¬ X b) (a_o_0 : (cSl 3 fDPart o).rd S w s_o.v) (oL : Sep [] X w) {r : List Int} (hx : x_impl_Touches o = some r) :
    Ret Try.prog 25 [s_o.v] w (fun u w' => ∃ y : Sv, u = y.v ∧ Gives X S w [oC (cSl 1 fI r) y.v] [] w') := by
  unfold x_impl_Touches at hx
  refine enter Try.func25 rfl Try.ntmps25 (by kernel_rfl) rfl ?_
  have hM := St.enter oL hS
  have hM := hM.addE (r := rV s_o.v (cSl 3 fDPart o)) a_o_0
  refine wc_seq ?_
  refine wc_region ?_
  refine wv rfl (r_assign rfl) ?_
  refine wl_nil ?_
  refine sq_n ?_
  refine wc_seq ?_
  refine wc_seq ?_
  refine wc_region ?_
  refine wv rfl (r_move rfl) ?_
  obtain ⟨r361, h362, hx⟩ := bind_some' hx
  refine w_call rfl rfl (hM.callV fun X S oL hS hR hO => ct_impl_OpOk _ X S o s_o hS (hR _ (.head _)) oL h362) ?_
  rintro _ w363 ⟨rfl, hR364⟩
  have hM := hM.call hR364
  refine wv rfl (r_not rfl) ?_
  refine wl_nil ?_
  refine sq_n ?_
  refine wc_cond rfl (fun hc366 => ?_) (fun hc366 => ?_)
  · replace hx := xif_t hc366 hx
    refine wc_seq ?_
    refine wc_region ?_
    refine wv rfl (r_assign rfl) ?_
    refine wl_nil ?_
    refine sq_n ?_
    refine wc_ret ?_
    refine sq_ret ?_
    obtain rfl := Option.some.inj hx
    have hM := hM.nil0 (T := Int) 1 fI
    refine fin_ret [nS.v] ⟨rfl, trivial⟩ ?_
    replace hM := hM.t1
    have hM := hM.fewer rsN
    exact ⟨nS, rfl, hM.gives⟩
  · replace hx := xif_f hc366 hx
    refine wc_skip ?_
    refine sq_n ?_
    refine wc_seq ?_
    refine wc_region ?_
    refine wv rfl (r_move rfl) ?_
    obtain ⟨r370, h371, hx⟩ := bind_some' hx
    refine w_call rfl rfl (hM.callV fun X S oL hS hR hO => ct_impl_OpFrom _ X S o s_o hS (hR _ (.head _)) oL h371) ?_
    rintro _ w372 ⟨rfl, hR373⟩
    have hM := hM.call hR373
    obtain ⟨hg375, hx⟩ := xg_some hx
    refine wv rfl (r_add rfl rfl hg375) ?_
    obtain ⟨hg378, hx⟩ := xg_some hx
    have hk379 : r370 + 1 = ((r370 + 1).toNat : Int) := by omega
    refine w_ex rfl (x_make (f := fI) (k := ((r370 + 1).toNat)) 0 Try.underlying26 sz3 (fun _ => rfl) (fun _ => zP (pV _ rfl) zN) (by rw [← hk379]; rfl) (by omega) rfl hM ?_); intro s377 w376 hR380 hM
    refine wv rfl (r_assign rfl) ?_
    refine wl_nil ?_
    refine sq_n ?_
    refine wc_seq ?_
    refine wc_region ?_
    refine wv rfl (r_assign rfl) ?_
    refine wl_nil ?_
    refine sq_n ?_
    refine wc_seq ?_
    refine wc_seq ?_
    refine wc_region ?_
    refine wv rfl (r_move rfl) ?_
    obtain ⟨r385, h386, hx⟩ := bind_some' hx
    refine w_call rfl rfl (hM.callO (l := []) fun X S oL hS hR hO => ct_impl_OpNorm _ X S o s_o hS (hR _ (.head _)) oL h386) ?_
    rintro _ w387 ⟨s388, rfl, hM⟩
    replace hM : St ⟨w, X, S⟩ [oC (cSl 3 fDPart r385) s388.v, oC (cSl 1 fI (List.replicate ((r370 + 1).toNat) 0)) s377.v] [rV s_o.v (cSl 3 fDPart o)] _ := hM
    refine wv rfl (r_lenC Try.underlying29 rfl (hM.seeO (.head _))) ?_
    refine wv rfl (r_move rfl) ?_
    refine wl_nil ?_
    refine sq_n ?_
    refine wc_block ?_
    obtain ⟨y392, hx, hx393⟩ := bind_some' hx
    replace hM := hM.p1
    have hM := hM.fewer rsN
    replace hM : St ⟨w, X, S⟩ [oC (cSl 1 fI (List.replicate ((r370 + 1).toNat) 0)) s377.v, oC (cSl 3 fDPart r385) s388.v] [] _ := hM
    have hl400 := Cs.le (hM.seeO (.tail _ (.head _)))
    refine wc_loop (un fun (m397 : Nat) => un fun (k398 : Nat) => un fun (at394 : Int) => un fun (l395 : List Int) => fun (s396 : Sv) => [(3, s396.v), (4, (.int .i64 at394)), (16, s388.v), (17, (.int .i64 (r385.length : Int))), (18, (.int .i64 (k398 : Int)))]) (un fun (m397 : Nat) => un fun (k398 : Nat) => un fun (at394 : Int) => un fun (l395 : List Int) => fun (s396 : Sv) w' => St ⟨w, X, S⟩ [oC (cSl 1 fI l395) s396.v, oC (cSl 3 fDPart r385) s388.v] [] w' ∧ eachN _ _ m397 k398 (at394, l395) = some y392 ∧ k398 + m397 = r385.length) (fun p => p.1) (r385.length, 0, 0, List.replicate ((r370 + 1).toNat) 0, s377) ⟨rfl, rfl, rfl, rfl, rfl, trivial⟩ ⟨hM, hx, Nat.zero_add _⟩ ?_
    rintro ⟨m397, k398, at394, l395, s396⟩ w401 ⟨hM, hx, hk399⟩
    refine wc_seq ?_
    refine wc_region ?_
    refine wv rfl (r_lss rfl rfl) ?_
    refine wl_nil ?_
    refine sq_n ?_
    refine wc_seq ?_
    refine wc_cond rfl (fun hc403 => ?_) (fun hc403 => ?_)
    · replace hc403 := of_decide_eq_true hc403
      obtain ⟨m404, z405, rfl, hk399, hx, hx406⟩ := eachN_step hx hk399 hc403
      unfold x_impl_Touches_f0 x_impl_Touches_b0 at hx
      try dsimp only at hx
      refine wc_skip ?_
      refine sq_n ?_
      refine wc_seq ?_
      refine wc_block ?_
      refine wc_seq ?_
      refine wc_region ?_
      have hi408 : k398 < r385.length := by omega
      refine wv rfl (r_ixC Try.underlying29 sz77 rfl rfl (hM.seeO (.tail _ (.head _))) ⟨by omega, hc403⟩) ?_
      replace hM := hM.p1
      obtain ⟨s410, hM, hc411⟩ := hM.leafO (i := k398) (j := 2) (fun _ => rfl) hi408 rfl
      refine wv rfl (r_ldC (o := k398 * 3) Try.underlying77 sz77 rfl (us := [(.int .i64 ((el r385 k398).kind)), (.int .i64 ((el r385 k398).n)), s410.v]) rfl (hM.seeOV (.head _)) hi408 ⟨(Cs.get (i := k398) (j := 0) (hM.seeOV (.head _)) (fun _ => rfl) hi408 rfl), (Cs.get (i := k398) (j := 1) (hM.seeOV (.head _)) (fun _ => rfl) hi408 rfl), (hc411 _ (Rel.refl _)), trivial⟩) ?_
      refine w_ex rfl (x_alloc sz77 hM ?_); intro b413 w412 hR414 hM
      replace hM : St ⟨w, X, S⟩ [oBox b413 #[(.int .i64 0), (.int .i64 0), (.slice none 0 0)] 77, oV (oC (cSl 3 fDPart r385) s388.v) [vR s410.v (cSl 1 fI ((el r385 k398).signs)), vC (eaddr s388.v (k398 * 3 + 2)) s410.v], oC (cSl 1 fI l395) s396.v] [] _ := hM
      refine w_exu (x_stB #[(.int .i64 ((el r385 k398).kind)), (.int .i64 ((el r385 k398).n)), s410.v] sz77 rfl rfl rfl rfl rfl rfl hM ?_); intro w416 hM
      refine wl_nil ?_
      refine sq_n ?_
      refine wc_seq ?_
      refine wc_region ?_
      refine wv rfl (r_fld Try.underlying77 rfl rfl sz3 rfl) ?_
      refine wv rfl (r_ldB Try.underlying3 rfl rfl hM (.head _) rfl) ?_
      refine wl_nil ?_
      refine sq_n ?_
      refine wc_block ?_
      refine wc_seq ?_
      refine wc_region ?_
      refine wv rfl (r_eql rfl rfl) ?_
      refine wv rfl (r_assign rfl) ?_
      refine wl_nil ?_
      refine sq_n ?_
      refine wc_cond rfl (fun hc422 => ?_) (fun hc422 => ?_)
      · replace hx := xif_t hc422 hx
        refine wc_region ?_
        refine wv rfl (r_move rfl) ?_
        refine wv rfl (r_fld Try.underlying77 rfl rfl sz3 rfl) ?_
        refine wv rfl (r_ldB Try.underlying3 rfl rfl hM (.head _) rfl) ?_
        obtain ⟨hg427, hx⟩ := xg_some hx
        refine wv rfl (r_add rfl rfl hg427) ?_
        refine wv rfl (r_assign rfl) ?_
        refine wl_nil ?_
        refine bk_n ?_
        refine bk_n ?_
        refine sq_n ?_
        refine wc_region ?_
        refine wv rfl (r_add rfl rfl ⟨by omega, by omega⟩) ?_
        refine wv rfl (r_move rfl) ?_
        refine wl_nil ?_
        obtain rfl := Option.some.inj hx
        replace hM := hM.p1
        replace hM : St ⟨w, X, S⟩ [oC (cSl 3 fDPart r385) s388.v, oBox b413 #[(.int .i64 ((el r385 k398).kind)), (.int .i64 ((el r385 k398).n)), s410.v] 77, oC (cSl 1 fI l395) s396.v] [] _ := hM.unview
        replace hM := hM.p2
        replace hM := hM.t2
        exact lp_end (m404, k398 + 1, at394 + ((el r385 k398).n), l395, s396) (Nat.lt_succ_self _) ⟨rfl, rfl, rfl, rfl, rfl, trivial⟩ ⟨hM, hx406, hk399⟩
      · replace hx := xif_f hc422 hx
        refine wc_seq ?_
        refine wc_region ?_
        refine wv rfl (r_eql rfl rfl) ?_
        refine wv rfl (r_assign rfl) ?_
        refine wl_nil ?_
        refine sq_n ?_
        refine wc_cond rfl (fun hc433 => ?_) (fun hc433 => ?_)
        · replace hx := xif_t hc433 hx
          refine wc_region ?_
          refine wv rfl (r_move rfl) ?_
          refine wv rfl (r_move rfl) ?_
          obtain ⟨hg438, hx⟩ := xg_some hx
          have hi437 : at394.toNat < l395.length := by omega
          refine wv rfl (r_ixC Try.underlying26 sz3 rfl rfl (hM.seeO (.tail _ (.tail _ (.head _)))) hg438) ?_
          replace hM := hM.p2
          refine w_exu (x_stE (f := fI) (k := 1) (L := l395) (i := at394.toNat) (j := 0) 1 [cI 1] sz3 (fun _ => rfl) rfl rfl hi437 rfl rfl rfl rfl rfl (fun _ => zP (pV _ rfl) zN) hM ?_); intro w439 hM
          refine wl_nil ?_
          refine bk_n ?_
          refine bk_n ?_
          refine sq_n ?_
          refine wc_region ?_
          refine wv rfl (r_add rfl rfl ⟨by omega, by omega⟩) ?_
          refine wv rfl (r_move rfl) ?_
          refine wl_nil ?_
          obtain rfl := Option.some.inj hx
          replace hM := hM.p2
          replace hM : St ⟨w, X, S⟩ [oC (cSl 3 fDPart r385) s388.v, oC (cSl 1 fI (l395.set at394.toNat 1)) s396.v, oBox b413 #[(.int .i64 ((el r385 k398).kind)), (.int .i64 ((el r385 k398).n)), s410.v] 77] [] _ := hM.unview
          replace hM := hM.p1
          replace hM := hM.t2
          exact lp_end (m404, k398 + 1, at394, l395.set at394.toNat 1, s396) (Nat.lt_succ_self _) ⟨rfl, rfl, rfl, rfl, rfl, trivial⟩ ⟨hM, hx406, hk399⟩
        · replace hx := xif_f hc433 hx
          refine wc_seq ?_
          refine wc_seq ?_
          refine wc_region ?_
          refine wv rfl (r_assign rfl) ?_
          refine wl_nil ?_
          refine sq_n ?_
          refine wc_block ?_
          obtain ⟨y444, hx, hx445⟩ := bind_some' hx
          replace hM := hM.p1
          replace hM : St ⟨w, X, S⟩ [oC (cSl 3 fDPart r385) s388.v, oBox b413 #[(.int .i64 ((el r385 k398).kind)), (.int .i64 ((el r385 k398).n)), s410.v] 77, oC (cSl 1 fI l395) s396.v] [] _ := hM.unview
          replace hM := hM.p1.p2
          obtain ⟨m450, hx⟩ := iter_run hx
          refine wc_loop (un fun (m448 : Nat) => un fun (k446 : Int) => fun (l447 : List Int) => [(3, s396.v), (4, (.int .i64 at394)), (6, (.pointer (some ⟨b413, 0, none⟩))), (7, (.int .i64 k446)), (16, s388.v), (17, (.int .i64 (r385.length : Int))), (18, (.int .i64 (k398 : Int)))]) (un fun (m448 : Nat) => un fun (k446 : Int) => fun (l447 : List Int) w' => St ⟨w, X, S⟩ [oC (cSl 1 fI l447) s396.v, oBox b413 #[(.int .i64 ((el r385 k398).kind)), (.int .i64 ((el r385 k398).n)), s410.v] 77, oC (cSl 3 fDPart r385) s388.v] [] w' ∧ iterN _ m448 (k446, l447) = some y444) (fun p => p.1) (m450, 0, l395) ⟨rfl, rfl, rfl, rfl, rfl, rfl, rfl, trivial⟩ ⟨hM, hx⟩ ?_
          rintro ⟨m448, k446, l447⟩ w451 ⟨hM, hx⟩
          obtain ⟨m452, z453, rfl, hx, hx454⟩ := iterN_step hx
          unfold x_impl_Touches_f1 x_impl_Touches_b1 at hx
          try dsimp only at hx
          refine wc_seq ?_
          refine wc_seq ?_
          refine wc_region ?_
          refine wv rfl (r_move rfl) ?_
          refine wv rfl (r_fld Try.underlying77 rfl rfl sz3 rfl) ?_
          refine wv rfl (r_ldB Try.underlying3 rfl rfl hM (.tail _ (.head _)) rfl) ?_
          refine wv rfl (r_lss rfl rfl) ?_
          refine wl_nil ?_
          refine sq_n ?_
          refine wc_cond rfl (fun hc459 => ?_) (fun hc459 => ?_)
          · replace hx := xif_t hc459 hx
            refine wc_skip ?_
            refine sq_n ?_
            refine wc_seq ?_
            refine wc_block ?_
            refine wc_region ?_
            refine wv rfl (r_move rfl) ?_
            refine wv rfl (r_move rfl) ?_
            refine wv rfl (r_move rfl) ?_
            obtain ⟨hg464, hx⟩ := xg_some hx
            refine wv rfl (r_add rfl rfl hg464) ?_
            obtain ⟨hg467, hx⟩ := xg_some hx
            have hi466 : ((at394 + k446).toNat) < l447.length := by omega
            refine wv rfl (r_ixC Try.underlying26 sz3 rfl rfl (hM.seeO (.head _)) hg467) ?_
            refine w_exu (x_stE (f := fI) (k := 1) (L := l447) (i := ((at394 + k446).toNat)) (j := 0) 1 [cI 1] sz3 (fun _ => rfl) rfl rfl hi466 rfl rfl rfl rfl rfl (fun _ => zP (pV _ rfl) zN) hM ?_); intro w468 hM
            refine wl_nil ?_
            refine bk_n ?_
            refine sq_n ?_
            refine wc_region ?_
            refine wv rfl (r_move rfl) ?_
            obtain ⟨hg472, hx⟩ := xg_some hx
            refine wv rfl (r_add rfl rfl hg472) ?_
            refine wv rfl (r_assign rfl) ?_
            refine wl_nil ?_
            obtain rfl := Option.some.inj hx
            exact lp_end (m452, k446 + 1, l447.set ((at394 + k446).toNat) 1) (Nat.lt_succ_self _) ⟨rfl, rfl, rfl, rfl, rfl, rfl, rfl, trivial⟩ ⟨hM, hx454⟩
          · replace hx := xif_f hc459 hx
            refine wc_exit ?_
            refine sq_exit ?_
            refine lp1_exit ?_
            obtain rfl := Option.some.inj hx
            obtain rfl := Option.some.inj hx454
            replace hx := hx445
            try dsimp only [Sum.elim_inl, Sum.elim_inr] at hx
            refine bk_here ?_
            refine sq_n ?_
            refine wc_region ?_
            refine wv rfl (r_move rfl) ?_
            refine wv rfl (r_fld Try.underlying77 rfl rfl sz3 rfl) ?_
            refine wv rfl (r_ldB Try.underlying3 rfl rfl hM (.tail _ (.head _)) rfl) ?_
            obtain ⟨hg478, hx⟩ := xg_some hx
            refine wv rfl (r_add rfl rfl hg478) ?_
            refine wv rfl (r_assign rfl) ?_
            refine wl_nil ?_
            refine bk_n ?_
            refine bk_n ?_
            refine sq_n ?_
            refine wc_region ?_
            refine wv rfl (r_add rfl rfl ⟨by omega, by omega⟩) ?_
            refine wv rfl (r_move rfl) ?_
            refine wl_nil ?_
            obtain rfl := Option.some.inj hx
            replace hM := hM.p2.p1
            replace hM := hM.t2
            exact lp_end (m404, k398 + 1, at394 + ((el r385 k398).n), l447, s396) (Nat.lt_succ_self _) ⟨rfl, rfl, rfl, rfl, rfl, trivial⟩ ⟨hM, hx406, hk399⟩
    · replace hc403 := of_decide_eq_false hc403
      obtain rfl := eachN_end hx hk399 hc403
      refine wc_exit ?_
      refine sq_exit ?_
      refine lp1_exit ?_
      replace hx := hx393
      try dsimp only [Sum.elim_inl, Sum.elim_inr] at hx
      refine bk_here ?_
      refine sq_n ?_
      refine wc_seq ?_
      refine wc_region ?_
      refine wv rfl (r_move rfl) ?_
      refine wv rfl (r_assign rfl) ?_
      refine wl_nil ?_
      refine sq_n ?_
      refine wc_ret ?_
      obtain rfl := Option.some.inj hx
      refine fin_ret [s396.v] ⟨rfl, trivial⟩ ?_
      replace hM := hM.t1
      have hM := hM.fewer rsN
      exact ⟨s396, rfl, hM.gives⟩

noncomputable def x_impl_Clashes_b0 (r51 : List Int) (_r58 : List Int) (k65 : Nat) (x111 : Int) (n66 : Int) : Option (Lr Int Int) :=
  xg (0 ≤ (k65 : Int) ∧ (k65 : Int) < (r51.length : Int)) <| xg (inI (x111 * (el r51 k65))) <| xg (inI (n66 + (x111 * (el r51 k65)))) <| some (Lr.go (n66 + (x111 * (el r51 k65))))
noncomputable def x_impl_Clashes_f0 (r51 : List Int) (r58 : List Int) (k65 : Nat) (s112 : Int) : Option (Lr Int Int) := x_impl_Clashes_b0 r51 r58 k65 (el r58 k65) s112
noncomputable def x_impl_Clashes (a : List DPart) (b : List DPart) : Option Int :=
  Option.bind (x_impl_OpOk a) fun r3 => Option.bind (bif !r3 then (some true) else (Option.bind (x_impl_OpOk b) fun r18 => some (!r18))) fun c9 => Option.bind (bif c9 then (some true) else (Option.bind (x_impl_OpFrom a) fun r38 => Option.bind (x_impl_OpFrom b) fun r43 => some (!decide (r38 = r43)))) fun c24 => bif c24 then (some (-1)) else (Option.bind (x_impl_Touches b) fun r51 => Option.bind (x_impl_Touches a) fun r58 => Option.bind (eachN (x_impl_Clashes_f0 r51 r58) (fun (s112 : Int) => (s112 : Int)) r58.length 0 0) fun (y113 : Int) => some y113)
theorem ct_impl_Clashes (w : World) (X S : Bs) (a : List DPart) (s_a : Sv) (b : List DPart) (s_b : Sv) (hS : ∀ b, S b → b < w.heap.size ∧ ¬ X b) (a_a_0 : (cSl 3 fDPart a).rd S w s_a.v) (a_b_0 : (cSl 3 fDPart b).rd S w s_b.v) (oL : Sep [] X w) {r : Int} (hx : x_impl_Clashes a b = some r) :
    Ret Try.prog 27 [s_a.v, s_b.v] w (fun u w' => ∃ _ : Unit, u = (.int .i64 r) ∧ Gives X S w [] [] w') := by
  unfold x_impl_Clashes at hx
  refine enter Try.func27 rfl Try.ntmps27 (by kernel_rfl) rfl ?_
  have hM := St.enter oL hS
  have hM := hM.addE (r := rV s_a.v (cSl 3 fDPart a)) a_a_0
  have hM := hM.addE (r := rV s_b.v (cSl 3 fDPart b)) a_b_0
  refine wc_seq ?_
  refine wc_region ?_
  refine wv rfl (r_assign rfl) ?_
  refine wl_nil ?_
  refine sq_n ?_
  refine wc_seq ?_
  refine wc_seq ?_
  refine wc_region ?_
  refine wv rfl (r_move rfl) ?_
  obtain ⟨r118, h119, hx⟩ := bind_some' hx
  refine w_call rfl rfl (hM.callV fun X S oL hS hR hO => ct_impl_OpOk _ X S a s_a hS (hR _ (.tail _ (.head _))) oL h119) ?_
  rintro _ w120 ⟨rfl, hR121⟩
  have hM := hM.call hR121
  refine wv rfl (r_not rfl) ?_
  refine wv rfl (r_move rfl) ?_
  obtain ⟨c124, hx, hx132⟩ := bind_some' hx
  refine wl_mid 4 (fun _ : Unit => [(16, (.bool c124)), (0, s_a.v), (1, s_b.v)]) (fun _ w' => St ⟨w, X, S⟩ [] [rV s_b.v (cSl 3 fDPart b), rV s_a.v (cSl 3 fDPart a)] w') ?_ ?_
  · rcases Bool.eq_false_or_eq_true (!r118) with hg125 | hg125
    · replace hx := xif_t hg125 hx
      refine gs rfl (isB_no hg125) rfl ?_
      refine gs rfl (isB_no hg125) rfl ?_
      refine gs rfl (isB_no hg125) rfl ?_
      refine wv rfl (p_t rfl hg125 rfl) ?_
      obtain rfl := Option.some.inj hx
      exact mid_nil () ⟨rfl, rfl, rfl, trivial⟩ hM
    · replace hx := xif_f hg125 hx
      refine gv rfl hg125 rfl (r_move rfl) ?_
      obtain ⟨r134, h135, hx⟩ := bind_some' hx
      refine gc rfl hg125 rfl rfl (hM.callV fun X S oL hS hR hO => ct_impl_OpOk _ X S b s_b hS (hR _ (.head _)) oL h135) ?_
      rintro _ w136 ⟨rfl, hR137⟩
      have hM := hM.call hR137
      refine gv rfl hg125 rfl (r_not rfl) ?_
      refine wv rfl (p_f rfl hg125 rfl) ?_
      obtain rfl := Option.some.inj hx
      exact mid_nil () ⟨rfl, rfl, rfl, trivial⟩ hM
  rintro _ w139 hM
  replace hx := hx132
  refine wv rfl (r_move rfl) ?_
  obtain ⟨c141, hx, hx154⟩ := bind_some' hx
  refine wl_mid 6 (fun _ : Unit => [(23, (.bool c141)), (0, s_a.v), (1, s_b.v)]) (fun _ w' => St ⟨w, X, S⟩ [] [rV s_b.v (cSl 3 fDPart b), rV s_a.v (cSl 3 fDPart a)] w') ?_ ?_
  · rcases Bool.eq_false_or_eq_true c124 with hg142 | hg142
    · replace hx := xif_t hg142 hx
      refine gs rfl (isB_no hg142) rfl ?_
      refine gs rfl (isB_no hg142) rfl ?_
      refine gs rfl (isB_no hg142) rfl ?_
      refine gs rfl (isB_no hg142) rfl ?_
      refine gs rfl (isB_no hg142) rfl ?_
      refine wv rfl (p_t rfl hg142 rfl) ?_
      obtain rfl := Option.some.inj hx
      exact mid_nil () ⟨rfl, rfl, rfl, trivial⟩ hM
    · replace hx := xif_f hg142 hx
      refine gv rfl hg142 rfl (r_move rfl) ?_
      obtain ⟨r156, h157, hx⟩ := bind_some' hx
      refine gc rfl hg142 rfl rfl (hM.callV fun X S oL hS hR hO => ct_impl_OpFrom _ X S a s_a hS (hR _ (.tail _ (.head _))) oL h157) ?_
      rintro _ w158 ⟨rfl, hR159⟩
      have hM := hM.call hR159
      refine gv rfl hg142 rfl (r_move rfl) ?_
      obtain ⟨r161, h162, hx⟩ := bind_some' hx
      refine gc rfl hg142 rfl rfl (hM.callV fun X S oL hS hR hO => ct_impl_OpFrom _ X S b s_b hS (hR _ (.head _)) oL h162) ?_
      rintro _ w163 ⟨rfl, hR164⟩
      have hM := hM.call hR164
      refine gv rfl hg142 rfl (r_neq rfl rfl) ?_
      refine wv rfl (p_f rfl hg142 rfl) ?_
      obtain rfl := Option.some.inj hx
      exact mid_nil () ⟨rfl, rfl, rfl, trivial⟩ hM
  rintro _ w166 hM
  replace hx := hx154
  refine wl_nil ?_
  refine sq_n ?_
  refine wc_cond rfl (fun hc167 => ?_) (fun hc167 => ?_)
  · replace hx := xif_t hc167 hx
    refine wc_seq ?_
    refine wc_region ?_
    refine wv rfl (r_assign rfl) ?_
    refine wl_nil ?_
    refine sq_n ?_
    refine wc_ret ?_
    refine sq_ret ?_
    obtain rfl := Option.some.inj hx
    refine fin_ret [(.int .i64 (-1))] ⟨rfl, trivial⟩ ?_
    replace hM := hM.t0
    have hM := hM.fewer rsN
    exact ⟨(), rfl, hM.gives⟩
  · replace hx := xif_f hc167 hx
    refine wc_skip ?_
    refine sq_n ?_
    refine wc_seq ?_
    refine wc_region ?_
    refine wv rfl (r_assign rfl) ?_
    refine wl_nil ?_
    refine sq_n ?_
    refine wc_seq ?_
    refine wc_region ?_
    refine wv rfl (r_move rfl) ?_
    obtain ⟨r171, h172, hx⟩ := bind_some' hx
    refine w_call rfl rfl (hM.callO (l := []) fun X S oL hS hR hO => ct_impl_Touches _ X S b s_b hS (hR _ (.head _)) oL h172) ?_
    rintro _ w173 ⟨s174, rfl, hM⟩
    replace hM : St ⟨w, X, S⟩ [oC (cSl 1 fI r171) s174.v] [rV s_b.v (cSl 3 fDPart b), rV s_a.v (cSl 3 fDPart a)] _ := hM
    refine wv rfl (r_assign rfl) ?_
    refine wl_nil ?_
    refine sq_n ?_
    refine wc_seq ?_
    refine wc_seq ?_
    refine wc_region ?_
    refine wv rfl (r_move rfl) ?_
    obtain ⟨r178, h179, hx⟩ := bind_some' hx
    refine w_call rfl rfl (hM.callO (l := []) fun X S oL hS hR hO => ct_impl_Touches _ X S a s_a hS (hR _ (.tail _ (.head _))) oL h179) ?_
    rintro _ w180 ⟨s181, rfl, hM⟩
    replace hM : St ⟨w, X, S⟩ [oC (cSl 1 fI r178) s181.v, oC (cSl 1 fI r171) s174.v] [rV s_b.v (cSl 3 fDPart b), rV s_a.v (cSl 3 fDPart a)] _ := hM
    refine wv rfl (r_lenC Try.underlying26 rfl (hM.seeO (.head _))) ?_
    refine wv rfl (r_move rfl) ?_
    refine wl_nil ?_
    refine sq_n ?_
    refine wc_block ?_
    obtain ⟨y185, hx, hx186⟩ := bind_some' hx
    replace hM := hM.p1
    have hM := hM.fewer rsN
    replace hM : St ⟨w, X, S⟩ [oC (cSl 1 fI r171) s174.v, oC (cSl 1 fI r178) s181.v] [] _ := hM
    have hl191 := Cs.le (hM.seeO (.tail _ (.head _)))
    refine wc_loop (un fun (m188 : Nat) => un fun (k189 : Nat) => fun (n187 : Int) => [(5, (.int .i64 n187)), (6, s174.v), (27, s181.v), (28, (.int .i64 (r178.length : Int))), (29, (.int .i64 (k189 : Int)))]) (un fun (m188 : Nat) => un fun (k189 : Nat) => fun (n187 : Int) w' => St ⟨w, X, S⟩ [oC (cSl 1 fI r171) s174.v, oC (cSl 1 fI r178) s181.v] [] w' ∧ eachN _ _ m188 k189 n187 = some y185 ∧ k189 + m188 = r178.length) (fun p => p.1) (r178.length, 0, 0) ⟨rfl, rfl, rfl, rfl, rfl, trivial⟩ ⟨hM, hx, Nat.zero_add _⟩ ?_
    rintro ⟨m188, k189, n187⟩ w192 ⟨hM, hx, hk190⟩
    refine wc_seq ?_
    refine wc_region ?_
    refine wv rfl (r_lss rfl rfl) ?_
    refine wl_nil ?_
    refine sq_n ?_
    refine wc_seq ?_
    refine wc_cond rfl (fun hc194 => ?_) (fun hc194 => ?_)
    · replace hc194 := of_decide_eq_true hc194
      obtain ⟨m195, z196, rfl, hk190, hx, hx197⟩ := eachN_step hx hk190 hc194
      unfold x_impl_Clashes_f0 x_impl_Clashes_b0 at hx
      try dsimp only at hx
      refine wc_skip ?_
      refine sq_n ?_
      refine wc_seq ?_
      refine wc_block ?_
      refine wc_seq ?_
      refine wc_region ?_
      refine wv rfl (r_move rfl) ?_
      have hi200 : k189 < r178.length := by omega
      refine wv rfl (r_ixC Try.underlying26 sz3 rfl rfl (hM.seeO (.tail _ (.head _))) ⟨by omega, hc194⟩) ?_
      refine wv rfl (r_ld Try.underlying3 rfl rfl (Cs.get (i := k189) (j := 0) (hM.seeO (.tail _ (.head _))) (fun _ => rfl) hi200 rfl)) ?_
      refine wv rfl (r_assign rfl) ?_
      refine wv rfl (r_assign rfl) ?_
      refine wl_nil ?_
      refine sq_n ?_
      refine wc_region ?_
      refine wv rfl (r_move rfl) ?_
      refine wv rfl (r_move rfl) ?_
      refine wv rfl (r_move rfl) ?_
      refine wv rfl (r_move rfl) ?_
      obtain ⟨hg210, hx⟩ := xg_some hx
      have hi209 : k189 < r171.length := by omega
      refine wv rfl (r_ixC Try.underlying26 sz3 rfl rfl (hM.seeO (.head _)) hg210) ?_
      refine wv rfl (r_ld Try.underlying3 rfl rfl (Cs.get (i := k189) (j := 0) (hM.seeO (.head _)) (fun _ => rfl) hi209 rfl)) ?_
      obtain ⟨hg213, hx⟩ := xg_some hx
      refine wv rfl (r_mul rfl rfl hg213) ?_
      obtain ⟨hg215, hx⟩ := xg_some hx
      refine wv rfl (r_add rfl rfl hg215) ?_
      refine wv rfl (r_assign rfl) ?_
      refine wl_nil ?_
      refine bk_n ?_
      refine sq_n ?_
      refine wc_region ?_
      refine wv rfl (r_add rfl rfl ⟨by omega, by omega⟩) ?_
      refine wv rfl (r_move rfl) ?_
      refine wl_nil ?_
      obtain rfl := Option.some.inj hx
      exact lp_end (m195, k189 + 1, n187 + ((el r178 k189) * (el r171 k189))) (Nat.lt_succ_self _) ⟨rfl, rfl, rfl, rfl, rfl, trivial⟩ ⟨hM, hx197, hk190⟩
    · replace hc194 := of_decide_eq_false hc194
      obtain rfl := eachN_end hx hk190 hc194
      refine wc_exit ?_
      refine sq_exit ?_
      refine lp1_exit ?_
      replace hx := hx186
      try dsimp only [Sum.elim_inl, Sum.elim_inr] at hx
      refine bk_here ?_
      refine sq_n ?_
      refine wc_seq ?_
      refine wc_region ?_
      refine wv rfl (r_move rfl) ?_
      refine wv rfl (r_assign rfl) ?_
      refine wl_nil ?_
      refine sq_n ?_
      refine wc_ret ?_
      obtain rfl := Option.some.inj hx
      refine fin_ret [(.int .i64 n187)] ⟨rfl, trivial⟩ ?_
      replace hM := hM.t0
      have hM := hM.fewer rsN
      exact ⟨(), rfl, hM.gives⟩

noncomputable def x_impl_Apart (a : List DPart) (b : List DPart) : Option Bool :=
  Option.bind (x_impl_Clashes a b) fun r4 => some (decide (r4 = 0))
theorem ct_impl_Apart (w : World) (X S : Bs) (a : List DPart) (s_a : Sv) (b : List DPart) (s_b : Sv) (hS : ∀ b, S b → b < w.heap.size ∧ ¬ X b) (a_a_0 : (cSl 3 fDPart a).rd S w s_a.v) (a_b_0 : (cSl 3 fDPart b).rd S w s_b.v) (oL : Sep [] X w) {r : Bool} (hx : x_impl_Apart a b = some r) :
    Ret Try.prog 26 [s_a.v, s_b.v] w (fun u w' => ∃ _ : Unit, u = (.bool r) ∧ Gives X S w [] [] w') := by
  unfold x_impl_Apart at hx
  refine enter Try.func26 rfl Try.ntmps26 (by kernel_rfl) rfl ?_
  have hM := St.enter oL hS
  have hM := hM.addE (r := rV s_a.v (cSl 3 fDPart a)) a_a_0
  have hM := hM.addE (r := rV s_b.v (cSl 3 fDPart b)) a_b_0
  refine wc_seq ?_
  refine wc_region ?_
  refine wv rfl (r_assign rfl) ?_
  refine wl_nil ?_
  refine sq_n ?_
  refine wc_seq ?_
  refine wc_region ?_
  refine wv rfl (r_move rfl) ?_
  refine wv rfl (r_move rfl) ?_
  obtain ⟨r13, h14, hx⟩ := bind_some' hx
  refine w_call rfl rfl (hM.callV fun X S oL hS hR hO => ct_impl_Clashes _ X S a s_a b s_b hS (hR _ (.tail _ (.head _))) (hR _ (.head _)) oL h14) ?_
  rintro _ w15 ⟨rfl, hR16⟩
  have hM := hM.call hR16
  refine wv rfl (r_eql rfl rfl) ?_
  refine wv rfl (r_assign rfl) ?_
  refine wl_nil ?_
  refine sq_n ?_
  refine wc_ret ?_
  obtain rfl := Option.some.inj hx
  refine fin_ret [(.bool (decide (r13 = 0)))] ⟨rfl, trivial⟩ ?_
  replace hM := hM.t0
  have hM := hM.fewer rsN
  exact ⟨(), rfl, hM.gives⟩

end Go.Proofs.Ythfkcpdechjmnaa
