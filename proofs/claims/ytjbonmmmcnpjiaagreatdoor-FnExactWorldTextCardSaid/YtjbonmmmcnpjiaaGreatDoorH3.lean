/- Walks of functions of this program (printed by a program of ours, by the rules of the layer). No condition. -/
import Derived.Test.YtjbonmmmcnpjiaaGreatDoorH2
import Derived.Test.YtjbonmmmcnpjiaaGreatDoorNz
namespace Go.Proofs.YtjbonmmmcnpjiaaGreatDoor
open Go.RowKit

noncomputable def x_impl_Fnv_b0 (s : ByteArray) (n4 : Int) (i5 : Int) : Option (Lr (Int × Int) Int) :=
  bif decide (i5 < (s.size : Int)) then (xg (0 ≤ i5 ∧ i5 < (s.size : Int)) <| xg (inI ((bXor n4 ((sget s i5.toNat).toNat : Int)) * 16777619)) <| xg (0 ≤ ((bXor n4 ((sget s i5.toNat).toNat : Int)) * 16777619) ∧ 0 < (4294967296 : Int)) <| xg (inI (i5 + 1)) <| some (Lr.go (((bXor n4 ((sget s i5.toNat).toNat : Int)) * 16777619) % 4294967296, i5 + 1))) else (some (Lr.out n4))
noncomputable def x_impl_Fnv_f0 (s : ByteArray) (s46 : Int × Int) : Option (Lr (Int × Int) Int) := x_impl_Fnv_b0 s s46.1 s46.2
noncomputable def x_impl_Fnv (s : ByteArray) : Option Int :=
  Option.bind (iter (x_impl_Fnv_f0 s) (2166136261, 0)) fun (y47 : Int) => some y47
theorem ct_impl_Fnv (w : World) (X S : Bs) (s : ByteArray) (hS : SX X S w)  (oL : Sep [] X w) {r : Int} (hx : x_impl_Fnv s = some r) :
 Ret Tryz.prog 112 [(.string s)] w (KV X S w (iv r)) := by
 unfold x_impl_Fnv at hx
 refine enter Tryz.func112 rfl Tryz.ntmps112 (by kernel_rfl) rfl ?_
 have hM := St.enter oL hS
 refine wc_sr <| was rfl rfl <| wl_sq <| wc_sr <| was rfl rfl <| wl_sq <| wc_seq <| wc_sr <| was rfl rfl <| wl_sq <| wc_block <| bs hx fun y53 hx hx54 => ?_
 obtain ⟨m59, hx⟩ := iter_run hx
 refine wc_loop (un fun (m57 : Nat) => un fun (n55 : Int) => fun (i56 : Int) => [(0, (.string s)), (3, (iv n55)), (4, (iv i56))]) (un fun (m57 : Nat) => un fun (n55 : Int) => fun (i56 : Int) w' => St ⟨w, X, S⟩ [] [] w' ∧ iterN _ m57 (n55, i56) = some y53) (fun p => p.1) (m59, 2166136261, 0) ⟨rfl, rfl, rfl, trivial⟩ ⟨hM, hx⟩ ?_
 rintro ⟨m57, n55, i56⟩ w60 ⟨hM, hx⟩
 obtain ⟨m61, z62, rfl, hx, hx63⟩ := iterN_step hx
 unfold x_impl_Fnv_f0 x_impl_Fnv_b0 at hx
 try dsimp only at hx
 refine wc_seq <| wc_sr <| wmv rfl rfl <| wmv rfl rfl <| wv rfl (r_lens u9 rfl) <| wv rfl (r_lss rfl rfl) <| wl_sq ?_
 refine wcx hx rfl (fun hx => ?_) (fun hx => ?_)
 refine wc_skip <| sq_n <| wc_seq <| wc_block <| wc_region <| wmv rfl rfl <| wmv rfl rfl <| wmv rfl rfl <| xgs hx fun hg73 hx => wv rfl (r_sidx u9 rfl rfl hg73) <| wv rfl (r_cvt u5 u3 rfl (u8_cvt _)) <| wv rfl (r_xor rfl rfl) <| xgs hx fun hg77 hx => wv rfl (r_mul rfl rfl hg77) ?_
 refine xgs hx fun hg79 hx => wv rfl (r_rem rfl rfl hg79) <| was rfl rfl <| wl_nil <| bk_n <| sq_n <| wc_region <| wmv rfl rfl <| xgs hx fun hg83 hx => wv rfl (r_add rfl rfl hg83) <| was rfl rfl <| wl_nil ?_
 cases hx
 exact lp_end (m61, ((bXor n55 ((sget s i56.toNat).toNat : Int)) * 16777619) % 4294967296, i56 + 1) (Nat.lt_succ_self _) ⟨rfl, rfl, rfl, trivial⟩ ⟨hM, hx63⟩
 refine wc_exit <| sq_exit <| lp1_exit ?_
 cases hx
 obtain rfl := oi hx63
 replace hx := hx54
 refine bk_here <| sq_n <| wc_sr <| wmv rfl rfl <| was rfl rfl <| wl_sq <| wc_ret ?_
 obtain rfl := oi hx
 exact fin_u [(iv n55)] hM ⟨rfl, trivial⟩ rfl

noncomputable def x_impl_StripeOf (name : ByteArray) (n : Int) : Option Int :=
  bif decide (n < 1) then (some 0) else (Option.bind (x_impl_Fnv name) fun r6 => xg (0 ≤ r6 ∧ 0 < n) <| some (r6 % n))
theorem ct_impl_StripeOf (w : World) (X S : Bs) (name : ByteArray) (n : Int) (hS : SX X S w)  (oL : Sep [] X w) {r : Int} (hx : x_impl_StripeOf name n = some r) :
 Ret Tryz.prog 61 [(.string name), (iv n)] w (KV X S w (iv r)) := by
 unfold x_impl_StripeOf at hx
 refine enter Tryz.func61 rfl Tryz.ntmps61 (by kernel_rfl) rfl ?_
 have hM := St.enter oL hS
 refine wc_sr <| was rfl rfl <| wl_sq <| wc_seq <| wc_sr <| wmv rfl rfl <| wv rfl (r_lss rfl rfl) <| wl_sq ?_
 refine wcx hx rfl (fun hx => ?_) (fun hx => ?_)
 refine wc_sr <| was rfl rfl <| wl_sq <| wc_ret <| sq_ret ?_
 obtain rfl := oi hx
 exact fin_u [(iv 0)] hM ⟨rfl, trivial⟩ rfl
 refine wc_skip <| sq_n <| wc_sr <| wmv rfl rfl <| bs hx fun r19 h20 hx => w_cv hM rfl rfl (fun X S oL hS hR hO => ct_impl_Fnv _ X S name hS  oL h20) fun _ hM => wmv rfl rfl <| xgs hx fun hg24 hx => wv rfl (r_rem rfl rfl hg24) <| was rfl rfl <| wl_sq <| wc_ret ?_
 obtain rfl := oi hx
 exact fin_u [(iv (r19 % n))] hM ⟨rfl, trivial⟩ rfl

noncomputable def x_slices_Index_int_int_b0 (v : Int) (_s : List Int) (k5 : Nat) (x34 : Int) : Option (Lr Unit (Sum Unit Int)) :=
  bif decide (v = x34) then (some (Lr.out (Sum.inr ((k5 : Int))))) else (some (Lr.go ()))
noncomputable def x_slices_Index_int_int_f0 (v : Int) (s : List Int) (k5 : Nat) (_s35 : Unit) : Option (Lr Unit (Sum Unit Int)) := x_slices_Index_int_int_b0 v s k5 (el s k5)
noncomputable def x_slices_Index_int_int (s : List Int) (v : Int) : Option Int :=
  Option.bind (eachN (x_slices_Index_int_int_f0 v s) (fun (_s35 : Unit) => (Sum.inl () : Sum Unit Int)) s.length 0 ()) fun (y36 : Sum Unit Int) => Sum.elim (fun _y37 => some (-1)) (fun y38 => some y38) y36
theorem ct_slices_Index_int_int (w : World) (X S : Bs) (s : List Int) (s_s : Sv) (v : Int) (hS : SX X S w) (a_s_0 : (cSl 1 fI s).rd S w s_s.v) (oL : Sep [] X w) {r : Int} (hx : x_slices_Index_int_int s v = some r) :
 Ret Tryz.prog 156 [s_s.v, (iv v)] w (KV X S w (iv r)) := by
 unfold x_slices_Index_int_int at hx
 refine enter Tryz.func156 rfl Tryz.ntmps156 (by kernel_rfl) rfl ?_
 have hM := (St.enter oL hS).addV a_s_0
 refine wc_sr <| was rfl rfl <| wl_sq <| wc_seq <| wc_sr <| wmv rfl rfl <| wv rfl (r_lenC u26 rfl (hM.seeR m0)) <| wmv rfl rfl <| wl_sq <| wc_block <| bs hx fun y44 hx hx45 => ?_
 have hl49 := Cs.le (hM.seeR m0)
 refine wc_loop (un fun (m46 : Nat) => fun (k47 : Nat) => [(0, s_s.v), (1, (iv v)), (7, (iv (s.length : Int))), (8, (iv (k47 : Int)))]) (un fun (m46 : Nat) => fun (k47 : Nat) w' => St ⟨w, X, S⟩ [] [rV s_s.v (cSl 1 fI s)] w' ∧ eachN _ _ m46 k47 () = some y44 ∧ k47 + m46 = s.length) (fun p => p.1) (s.length, 0) ⟨rfl, rfl, rfl, rfl, trivial⟩ ⟨hM, hx, Nat.zero_add _⟩ ?_
 rintro ⟨m46, k47⟩ w50 ⟨hM, hx, hk48⟩
 refine wc_sr <| wv rfl (r_lss rfl rfl) <| wl_sq <| wc_seq ?_
 refine wc_cond rfl (fun hc52 => ?_) (fun hc52 => ?_)
 replace hc52 := of_decide_eq_true hc52
 obtain ⟨m53, z54, rfl, hk48, hx, hx55⟩ := eachN_step hx hk48 hc52
 unfold x_slices_Index_int_int_f0 x_slices_Index_int_int_b0 at hx
 try dsimp only at hx
 refine wc_skip <| sq_n <| wc_seq <| wc_block <| wc_sr <| wmv rfl rfl <| was rfl rfl <| wl_sq <| wc_sr <| wmv rfl rfl <| wmv rfl rfl <| wmv rfl rfl ?_
 have hi62 : k47 < s.length := by omega
 refine wv rfl (r_ixC u26 sz3 rfl rfl (hM.seeR m0) ⟨by omega, hc52⟩) <| wv rfl (r_ld u3 rfl rfl (Cs.get (i := k47) (j := 0) (hM.seeR m0) (fun _ => rfl) hi62 rfl)) <| wv rfl (r_eql rfl rfl) <| wl_sq ?_
 refine wcx hx rfl (fun hx => ?_) (fun hx => ?_)
 refine wc_sr <| wmv rfl rfl <| was rfl rfl <| wl_sq <| wc_ret <| bk_ret <| sq_ret <| lp1_ret ?_
 cases hx
 obtain rfl := oi hx55
 replace hx := hx45
 refine bk_ret <| sq_ret ?_
 obtain rfl := oi hx
 exact fin_u [(iv (k47 : Int))] hM ⟨rfl, trivial⟩ rfl
 refine wc_skip <| bk_n <| sq_n <| wc_region <| wv rfl (r_add rfl rfl ⟨by omega, by omega⟩) <| wmv rfl rfl <| wl_nil ?_
 cases hx
 exact lp_end (m53, k47 + 1) (Nat.lt_succ_self _) ⟨rfl, rfl, rfl, rfl, trivial⟩ ⟨hM, hx55, hk48⟩
 replace hc52 := of_decide_eq_false hc52
 obtain rfl := eachN_end hx hk48 hc52
 refine wc_exit <| sq_exit <| lp1_exit ?_
 replace hx := hx45
 refine bk_here <| sq_n <| wc_sr <| was rfl rfl <| wl_sq <| wc_ret ?_
 obtain rfl := oi hx
 exact fin_u [(iv (-1))] hM ⟨rfl, trivial⟩ rfl

noncomputable def x_slices_Contains_int_int (s : List Int) (v : Int) : Option Bool :=
  Option.bind (x_slices_Index_int_int s v) fun r4 => some (decide ((0 : Int) ≤ r4))
theorem ct_slices_Contains_int_int (w : World) (X S : Bs) (s : List Int) (s_s : Sv) (v : Int) (hS : SX X S w) (a_s_0 : (cSl 1 fI s).rd S w s_s.v) (oL : Sep [] X w) {r : Bool} (hx : x_slices_Contains_int_int s v = some r) :
 Ret Tryz.prog 113 [s_s.v, (iv v)] w (KV X S w (bv r)) := by
 unfold x_slices_Contains_int_int at hx
 refine enter Tryz.func113 rfl Tryz.ntmps113 (by kernel_rfl) rfl ?_
 have hM := (St.enter oL hS).addV a_s_0
 refine wc_sr <| was rfl rfl <| wl_sq <| wc_sr <| wmv rfl rfl <| wmv rfl rfl <| bs hx fun r12 h13 hx => w_cv hM rfl rfl (fun X S oL hS hR hO => ct_slices_Index_int_int _ X S s s_s v hS (hR _ m0) oL h13) fun _ hM => wv rfl (r_geq rfl rfl) <| was rfl rfl <| wl_sq <| wc_ret ?_
 obtain rfl := oi hx
 exact fin_u [(bv (decide ((0 : Int) ≤ r12)))] hM ⟨rfl, trivial⟩ rfl

noncomputable def x_impl_stepsOk_b1 (step : Int) (_tasks : List DTask) (_k158 : Nat) (_k305 : Nat) (x379 : Int) (met306 : List Int) : Option (Lr (List Int) (Sum (List Int) Bool)) :=
  bif decide (x379 = (-1)) then (some (Lr.go met306)) else (Option.bind (bif decide (step ≤ x379) then (some true) else (Option.bind (x_slices_Contains_int_int met306 x379) fun r366 => some r366)) fun c357 => bif c357 then (some (Lr.out (Sum.inr (false)))) else (xg (met306.length < 1099511627776) <| some (Lr.go (met306 ++ [x379]))))
noncomputable def x_impl_stepsOk_f1 (step : Int) (tasks : List DTask) (k158 : Nat) (k305 : Nat) (s380 : List Int) : Option (Lr (List Int) (Sum (List Int) Bool)) := x_impl_stepsOk_b1 step tasks k158 k305 (el [(el tasks k158).inv, (el tasks k158).lin, (el tasks k158).res] k305) s380
noncomputable def x_impl_stepsOk_b0 (step : Int) (tasks : List DTask) (k158 : Nat) (x388 : DTask) (met159 : List Int) : Option (Lr (List Int) (Sum Unit Bool)) :=
  Option.bind (eachN (x_impl_stepsOk_f1 step tasks k158) (fun (s380 : List Int) => (Sum.inl s380 : Sum (List Int) Bool)) [x388.inv, x388.lin, x388.res].length 0 met159) fun (y381 : Sum (List Int) Bool) => Sum.elim (fun y382 => some (Lr.go y382)) (fun y383 => some (Lr.out (Sum.inr (y383)))) y381
noncomputable def x_impl_stepsOk_f0 (step : Int) (tasks : List DTask) (k158 : Nat) (s389 : List Int) : Option (Lr (List Int) (Sum Unit Bool)) := x_impl_stepsOk_b0 step tasks k158 (el tasks k158) s389
noncomputable def x_impl_stepsOk (tasks : List DTask) (step : Int) : Option Bool :=
  Option.bind (eachN (x_impl_stepsOk_f0 step tasks) (fun (_s389 : List Int) => (Sum.inl () : Sum Unit Bool)) tasks.length 0 []) fun (y390 : Sum Unit Bool) => Sum.elim (fun _y391 => some true) (fun y392 => some y392) y390
theorem ct_impl_stepsOk (w : World) (X S : Bs) (tasks : List DTask) (s_tasks : Sv) (step : Int) (hS : SX X S w) (a_tasks_0 : (cSl 15 fDTask tasks).rd S w s_tasks.v) (oL : Sep [] X w) {r : Bool} (hx : x_impl_stepsOk tasks step = some r) :
 Ret Tryz.prog 63 [s_tasks.v, (iv step)] w (KV X S w (bv r)) := by
 unfold x_impl_stepsOk at hx
 refine enter Tryz.func63 rfl Tryz.ntmps63 (by kernel_rfl) rfl ?_
 have hM := (St.enter oL hS).addV a_tasks_0
 refine wc_sr <| was rfl rfl <| wl_sq <| wc_sr <| was rfl rfl <| wl_sq <| wc_seq <| wc_sr <| wmv rfl rfl <| wv rfl (r_lenC u38 rfl (hM.seeR m0)) <| wmv rfl rfl <| wl_sq <| wc_block <| bs hx fun y399 hx hx400 => ?_
 have hM := hM.nil0 (T := Int) 1 fI
 have hl408 := Cs.le (hM.seeR m0)
 refine wc_loop (un fun (m405 : Nat) => un fun (k406 : Nat) => un fun (met402 : List Int) => fun (s404 : Sv) => [(1, (iv step)), (5, s404.v), (10, s_tasks.v), (11, (iv (tasks.length : Int))), (12, (iv (k406 : Int)))]) (un fun (m405 : Nat) => un fun (k406 : Nat) => un fun (met402 : List Int) => fun (s404 : Sv) w' => St ⟨w, X, S⟩ [oC (cSl 1 fI met402) s404.v] [rV s_tasks.v (cSl 15 fDTask tasks)] w' ∧ eachN _ _ m405 k406 met402 = some y399 ∧ k406 + m405 = tasks.length) (fun p => p.1) (tasks.length, 0, [], nS) ⟨rfl, rfl, rfl, rfl, rfl, trivial⟩ ⟨hM, hx, Nat.zero_add _⟩ ?_
 rintro ⟨m405, k406, met402, s404⟩ w409 ⟨hM, hx, hk407⟩
 refine wc_sr <| wv rfl (r_lss rfl rfl) <| wl_sq <| wc_seq ?_
 refine wc_cond rfl (fun hc411 => ?_) (fun hc411 => ?_)
 replace hc411 := of_decide_eq_true hc411
 obtain ⟨m412, z413, rfl, hk407, hx, hx414⟩ := eachN_step hx hk407 hc411
 unfold x_impl_stepsOk_f0 x_impl_stepsOk_b0 at hx
 try dsimp only at hx
 refine wc_skip <| sq_n <| wc_seq <| wc_block <| wc_sr ?_
 have hi416 : k406 < tasks.length := by omega
 refine wv rfl (r_ixC u38 sz64 rfl rfl (hM.seeR m0) ⟨by omega, hc411⟩) ?_
 obtain ⟨s418, hM, hc419⟩ := hM.leaf (i := k406) (j := 5) m0 (fun _ => rfl) hi416 rfl
 obtain ⟨s420, hM, hc421⟩ := hM.leaf (i := k406) (j := 6) m1 (fun _ => rfl) hi416 rfl
 obtain ⟨s422, hM, hc423⟩ := hM.leaf (i := k406) (j := 13) m2 (fun _ => rfl) hi416 rfl
 obtain ⟨s424, hM, hc425⟩ := hM.leaf (i := k406) (j := 14) m3 (fun _ => rfl) hi416 rfl
 refine wv rfl (r_ldC (o := k406 * 15) u64 sz64 rfl (us := [(iv ((el tasks k406).c.kind)), (.string ((el tasks k406).c.doc)), (iv ((el tasks k406).c.client)), (iv ((el tasks k406).c.seq)), (iv ((el tasks k406).c.n)), s418.v, s420.v, (iv ((el tasks k406).pc)), (iv ((el tasks k406).inv)), (iv ((el tasks k406).lin)), (iv ((el tasks k406).res)), (iv ((el tasks k406).a.code)), (iv ((el tasks k406).a.rev)), s422.v, s424.v]) rfl (hM.seeR m4) hi416 ⟨(Cs.get (i := k406) (j := 0) (hM.seeR m4) (fun _ => rfl) hi416 rfl), (Cs.get (i := k406) (j := 1) (hM.seeR m4) (fun _ => rfl) hi416 rfl), (Cs.get (i := k406) (j := 2) (hM.seeR m4) (fun _ => rfl) hi416 rfl), (Cs.get (i := k406) (j := 3) (hM.seeR m4) (fun _ => rfl) hi416 rfl), (Cs.get (i := k406) (j := 4) (hM.seeR m4) (fun _ => rfl) hi416 rfl), (hc419 _ (Rel.refl _)), (hc421 _ (Rel.refl _)), (Cs.get (i := k406) (j := 7) (hM.seeR m4) (fun _ => rfl) hi416 rfl), (Cs.get (i := k406) (j := 8) (hM.seeR m4) (fun _ => rfl) hi416 rfl), (Cs.get (i := k406) (j := 9) (hM.seeR m4) (fun _ => rfl) hi416 rfl), (Cs.get (i := k406) (j := 10) (hM.seeR m4) (fun _ => rfl) hi416 rfl), (Cs.get (i := k406) (j := 11) (hM.seeR m4) (fun _ => rfl) hi416 rfl), (Cs.get (i := k406) (j := 12) (hM.seeR m4) (fun _ => rfl) hi416 rfl), (hc423 _ (Rel.refl _)), (hc425 _ (Rel.refl _)), trivial⟩) ?_
 refine w_ex rfl (x_alloc sz64 hM ?_); intro b427 w426 hR428 hM
 refine w_exu (x_stB #[(iv ((el tasks k406).c.kind)), (.string ((el tasks k406).c.doc)), (iv ((el tasks k406).c.client)), (iv ((el tasks k406).c.seq)), (iv ((el tasks k406).c.n)), s418.v, s420.v, (iv ((el tasks k406).pc)), (iv ((el tasks k406).inv)), (iv ((el tasks k406).lin)), (iv ((el tasks k406).res)), (iv ((el tasks k406).a.code)), (iv ((el tasks k406).a.rev)), s422.v, s424.v] sz64 rfl rfl rfl rfl rfl rfl hM ?_); intro w430 hM
 refine wl_sq <| wc_sr <| wv rfl (r_fld u64 rfl rfl sz3 rfl) <| wv rfl (r_ldB u3 rfl rfl hM m0 rfl) <| wv rfl (r_fld u64 rfl rfl sz3 rfl) <| wv rfl (r_ldB u3 rfl rfl hM m0 rfl) <| wv rfl (r_fld u64 rfl rfl sz3 rfl) <| wv rfl (r_ldB u3 rfl rfl hM m0 rfl) ?_
 refine w_ex rfl (x_lit (f := fI) (own := []) [(el tasks k406).inv, (el tasks k406).lin, (el tasks k406).res] [(iv ((el tasks k406).inv)), (iv ((el tasks k406).lin)), (iv ((el tasks k406).res))] 3 u26 sz3 (fun _ => rfl) rfl rfl rfl rfl rfl (by kernel_rfl) (fun _ => zP (pV _ rfl) (zP (pV _ rfl) (zP (pV _ rfl) zN))) hM ?_); intro s439 w438 hR440 hM
 refine wv rfl (r_lenC u26 rfl (hM.seeO m0)) <| wmv rfl rfl <| wl_sq <| wc_block <| bs hx fun y444 hx hx445 => ?_
 replace hM := hM.p2.p1
 replace hM := hM.t2
 have hM := hM.fewer (rsC m4 rsN)
 replace hM : St ⟨w, X, S⟩ [oC (cSl 1 fI [(el tasks k406).inv, (el tasks k406).lin, (el tasks k406).res]) s439.v, oC (cSl 1 fI met402) s404.v] [rV s_tasks.v (cSl 15 fDTask tasks)] _ := hM
 have hl452 := Cs.le (hM.seeO m0)
 refine wc_loop (un fun (m449 : Nat) => un fun (k450 : Nat) => un fun (met446 : List Int) => fun (s448 : Sv) => [(1, (iv step)), (5, s448.v), (10, s_tasks.v), (11, (iv (tasks.length : Int))), (12, (iv (k406 : Int))), (22, s439.v), (23, (iv ([(el tasks k406).inv, (el tasks k406).lin, (el tasks k406).res].length : Int))), (24, (iv (k450 : Int)))]) (un fun (m449 : Nat) => un fun (k450 : Nat) => un fun (met446 : List Int) => fun (s448 : Sv) w' => St ⟨w, X, S⟩ [oC (cSl 1 fI [(el tasks k406).inv, (el tasks k406).lin, (el tasks k406).res]) s439.v, oC (cSl 1 fI met446) s448.v] [rV s_tasks.v (cSl 15 fDTask tasks)] w' ∧ eachN _ _ m449 k450 met446 = some y444 ∧ k450 + m449 = [(el tasks k406).inv, (el tasks k406).lin, (el tasks k406).res].length) (fun p => p.1) ([(el tasks k406).inv, (el tasks k406).lin, (el tasks k406).res].length, 0, met402, s404) ⟨rfl, rfl, rfl, rfl, rfl, rfl, rfl, rfl, trivial⟩ ⟨hM, hx, Nat.zero_add _⟩ ?_
 rintro ⟨m449, k450, met446, s448⟩ w453 ⟨hM, hx, hk451⟩
 refine wc_sr <| wv rfl (r_lss rfl rfl) <| wl_sq <| wc_seq ?_
 refine wc_cond rfl (fun hc455 => ?_) (fun hc455 => ?_)
 replace hc455 := of_decide_eq_true hc455
 obtain ⟨m456, z457, rfl, hk451, hx, hx458⟩ := eachN_step hx hk451 hc455
 unfold x_impl_stepsOk_f1 x_impl_stepsOk_b1 at hx
 try dsimp only at hx
 refine wc_skip <| sq_n <| wc_seq <| wc_block <| wc_sr ?_
 have hi460 : k450 < [(el tasks k406).inv, (el tasks k406).lin, (el tasks k406).res].length := by omega
 refine wv rfl (r_ixC u26 sz3 rfl rfl (hM.seeO m0) ⟨by omega, hc455⟩) <| wv rfl (r_ld u3 rfl rfl (Cs.get (i := k450) (j := 0) (hM.seeO m0) (fun _ => rfl) hi460 rfl)) <| was rfl rfl <| wl_sq <| wc_seq <| wc_sr <| wmv rfl rfl <| wv rfl (r_eql rfl rfl) <| wl_sq ?_
 refine wcx hx rfl (fun hx => ?_) (fun hx => ?_)
 refine wc_exit <| sq_exit <| bk_here <| sq_n <| wc_region <| wv rfl (r_add rfl rfl ⟨by omega, by omega⟩) <| wmv rfl rfl <| wl_nil ?_
 obtain rfl := oi hx
 exact lp_end (m456, k450 + 1, met446, s448) (Nat.lt_succ_self _) ⟨rfl, rfl, rfl, rfl, rfl, rfl, rfl, rfl, trivial⟩ ⟨hM, hx458, hk451⟩
 refine wc_skip <| sq_n <| wc_seq <| wc_sr <| wmv rfl rfl <| wmv rfl rfl <| wv rfl (r_geq rfl rfl) <| wmv rfl rfl <| bs hx fun c472 hx hx479 => ?_
 refine wl_midH 4 [(37, (bv c472)), (1, (iv step)), (5, s448.v), (9, (iv (el [(el tasks k406).inv, (el tasks k406).lin, (el tasks k406).res] k450))), (10, s_tasks.v), (11, (iv (tasks.length : Int))), (12, (iv (k406 : Int))), (22, s439.v), (23, (iv ([(el tasks k406).inv, (el tasks k406).lin, (el tasks k406).res].length : Int))), (24, (iv (k450 : Int)))] hM ?_ fun w480 hM => ?_
 refine cs2 hx (fun hg473 hx => ?_) (fun hg473 hx => ?_)
 refine gn hg473 rfl rfl <| gn hg473 rfl rfl <| gn hg473 rfl rfl <| wv rfl (p_t rfl hg473 rfl) ?_
 obtain rfl := oi hx
 exact mid_h ⟨rfl, rfl, rfl, rfl, rfl, rfl, rfl, rfl, rfl, rfl, trivial⟩ hM
 refine gv rfl hg473 rfl (r_move rfl) <| gv rfl hg473 rfl (r_move rfl) <| bs hx fun _ h484 hx => g_cv hM hg473 rfl rfl rfl (fun X S oL hS hR hO => ct_slices_Contains_int_int _ X S met446 s448 (el [(el tasks k406).inv, (el tasks k406).lin, (el tasks k406).res] k450) hS (seeA hO m1) oL h484) fun _ hM => wv rfl (p_f rfl hg473 rfl) ?_
 obtain rfl := oi hx
 exact mid_h ⟨rfl, rfl, rfl, rfl, rfl, rfl, rfl, rfl, rfl, rfl, trivial⟩ hM
 replace hx := hx479
 refine wl_sq ?_
 refine wcx hx rfl (fun hx => ?_) (fun hx => ?_)
 refine wc_sr <| was rfl rfl <| wl_sq <| wc_ret <| sq_ret <| bk_ret <| sq_ret <| lp1_ret ?_
 cases hx
 obtain rfl := oi hx458
 replace hx := hx445
 refine bk_ret <| bk_ret <| sq_ret <| lp1_ret ?_
 cases hx
 obtain rfl := oi hx414
 replace hx := hx400
 refine bk_ret <| sq_ret ?_
 obtain rfl := oi hx
 exact fin_u [(bv false)] hM ⟨rfl, trivial⟩ rfl
 refine wc_skip <| sq_n <| wc_region <| wmv rfl rfl <| wmv rfl rfl ?_
 replace hM := hM.p1
 refine xgs hx fun hg493 hx => ?_
 refine w_push (f := fI) (el [(el tasks k406).inv, (el tasks k406).lin, (el tasks k406).res] k450) rfl rfl u26 sz3 rfl rfl rfl rfl (fun _ => rfl) hM (fun _ => zP (pV _ rfl) zN) rfl hg493 rfl ?_; intro u491 s492 w490 hM
 refine was rfl rfl <| wl_nil <| bk_n <| sq_n <| wc_region <| wv rfl (r_add rfl rfl ⟨by omega, by omega⟩) <| wmv rfl rfl <| wl_nil ?_
 cases hx
 replace hM := hM.p1
 exact lp_end (m456, k450 + 1, met446 ++ [el [(el tasks k406).inv, (el tasks k406).lin, (el tasks k406).res] k450], s492) (Nat.lt_succ_self _) ⟨rfl, rfl, rfl, rfl, rfl, rfl, rfl, rfl, trivial⟩ ⟨hM, hx458, hk451⟩
 replace hc455 := of_decide_eq_false hc455
 obtain rfl := eachN_end hx hk451 hc455
 refine wc_exit <| sq_exit <| lp1_exit ?_
 replace hx := hx445
 refine bk_here <| bk_n <| sq_n <| wc_region <| wv rfl (r_add rfl rfl ⟨by omega, by omega⟩) <| wmv rfl rfl <| wl_nil ?_
 obtain rfl := oi hx
 replace hM := hM.p1
 replace hM := hM.t1
 exact lp_end (m412, k406 + 1, met446, s448) (Nat.lt_succ_self _) ⟨rfl, rfl, rfl, rfl, rfl, trivial⟩ ⟨hM, hx414, hk407⟩
 replace hc411 := of_decide_eq_false hc411
 obtain rfl := eachN_end hx hk407 hc411
 refine wc_exit <| sq_exit <| lp1_exit ?_
 replace hx := hx400
 refine bk_here <| sq_n <| wc_sr <| was rfl rfl <| wl_sq <| wc_ret ?_
 obtain rfl := oi hx
 exact fin_u [(bv true)] hM ⟨rfl, trivial⟩ rfl

noncomputable def x_impl_queuesOk_b1 (w_ : DWorld) (k380 : Nat) (_k749 : Nat) (x929 : Int) (queued750 : List Int) : Option (Lr (List Int) (Sum (List Int) Bool)) :=
  xg (inI ((w_.tasks.length : Int) - 1)) <| Option.bind (x_impl_within x929 0 ((w_.tasks.length : Int) - 1)) fun r852 => Option.bind (bif !r852 then (some true) else (xg (0 ≤ x929 ∧ x929 < (w_.tasks.length : Int)) <| some (!decide (((el w_.tasks (x929.toNat)).pc) = 2)))) fun c857 => Option.bind (bif c857 then (some true) else (xg (0 ≤ x929 ∧ x929 < (w_.tasks.length : Int)) <| some (!decide ((el w_.tasks (x929.toNat)).c.doc = (el w_.queues k380).doc)))) fun c878 => Option.bind (bif c878 then (some true) else (Option.bind (x_slices_Contains_int_int queued750 x929) fun r914 => some r914)) fun c905 => bif c905 then (some (Lr.out (Sum.inr (false)))) else (xg (queued750.length < 1099511627776) <| some (Lr.go (queued750 ++ [x929])))
noncomputable def x_impl_queuesOk_f1 (w_ : DWorld) (k380 : Nat) (k749 : Nat) (s930 : List Int) : Option (Lr (List Int) (Sum (List Int) Bool)) := x_impl_queuesOk_b1 w_ k380 k749 (el ((el w_.queues k380).list) k749) s930
noncomputable def x_impl_queuesOk_b0 (w_ : DWorld) (k380 : Nat) (x938 : DQueue) (queued381 : List Int) : Option (Lr (List Int) (Sum (List Int) Bool)) :=
  Option.bind (bif decide ((0 : Int) < (k380 : Int)) then (xg (inI ((k380 : Int) - 1)) <| xg (0 ≤ ((k380 : Int) - 1) ∧ ((k380 : Int) - 1) < (w_.queues.length : Int)) <| some (!sLt ((el w_.queues (((k380 : Int) - 1).toNat)).doc) (x938.doc))) else (some false)) fun c678 => Option.bind (bif c678 then (some true) else (Option.bind (x_impl_within ((x938.list).length : Int) 1 2) fun r719 => some (!r719))) fun c707 => Option.bind (bif c707 then (some true) else (Option.bind (x_impl_HubDoc w_.h (x938.doc)) fun r738 => some (decide (r738 < 0)))) fun c724 => bif c724 then (some (Lr.out (Sum.inr (false)))) else (Option.bind (eachN (x_impl_queuesOk_f1 w_ k380) (fun (s930 : List Int) => (Sum.inl s930 : Sum (List Int) Bool)) (x938.list).length 0 queued381) fun (y931 : Sum (List Int) Bool) => Sum.elim (fun y932 => some (Lr.go y932)) (fun y933 => some (Lr.out (Sum.inr (y933)))) y931)
noncomputable def x_impl_queuesOk_f0 (w_ : DWorld) (k380 : Nat) (s939 : List Int) : Option (Lr (List Int) (Sum (List Int) Bool)) := x_impl_queuesOk_b0 w_ k380 (el w_.queues k380) s939
noncomputable def x_impl_queuesOk_b2 (y941 : List Int) (_w_ : DWorld) (k949 : Nat) (x1032 : DTask) : Option (Lr Unit (Sum Unit Bool)) :=
  Option.bind (bif decide ((x1032.pc) = 2) then (Option.bind (x_slices_Contains_int_int y941 (k949 : Int)) fun r1025 => some (!r1025)) else (some false)) fun c1015 => bif c1015 then (some (Lr.out (Sum.inr (false)))) else (some (Lr.go ()))
noncomputable def x_impl_queuesOk_f2 (y941 : List Int) (w_ : DWorld) (k949 : Nat) (_s1033 : Unit) : Option (Lr Unit (Sum Unit Bool)) := x_impl_queuesOk_b2 y941 w_ k949 (el w_.tasks k949)
noncomputable def x_impl_queuesOk (w_ : DWorld) : Option Bool :=
  Option.bind (eachN (x_impl_queuesOk_f0 w_) (fun (s939 : List Int) => (Sum.inl s939 : Sum (List Int) Bool)) w_.queues.length 0 []) fun (y940 : Sum (List Int) Bool) => Sum.elim (fun y941 => Option.bind (eachN (x_impl_queuesOk_f2 y941 w_) (fun (_s1033 : Unit) => (Sum.inl () : Sum Unit Bool)) w_.tasks.length 0 ()) fun (y1034 : Sum Unit Bool) => Sum.elim (fun _y1035 => some true) (fun y1036 => some y1036) y1034) (fun y942 => some y942) y940
theorem ct_impl_queuesOk (w : World) (X S : Bs) (w_ : DWorld) (s_w__1 : Sv) (s_w__2 : Sv) (s_w__4 : Sv) (s_w__5 : Sv) (s_w__6 : Sv) (hS : SX X S w) (a_w__1 : (cSl 5 fDDoc w_.h.docs).rd S w s_w__1.v) (a_w__2 : (cSl 6 fDSub w_.h.subs).rd S w s_w__2.v) (a_w__4 : (cSl 1 fI w_.locks).rd S w s_w__4.v) (a_w__5 : (cSl 2 fDQueue w_.queues).rd S w s_w__5.v) (a_w__6 : (cSl 15 fDTask w_.tasks).rd S w s_w__6.v) (oL : Sep [] X w) {r : Bool} (hx : x_impl_queuesOk w_ = some r) :
 Ret Tryz.prog 64 [(.agg #[(bv w_.h.shut), s_w__1.v, s_w__2.v, (iv w_.h.last), s_w__4.v, s_w__5.v, s_w__6.v, (iv w_.step)])] w (KV X S w (bv r)) := by
 unfold x_impl_queuesOk at hx
 refine enter Tryz.func64 rfl Tryz.ntmps64 (by kernel_rfl) rfl ?_
 have hM := (((((St.enter oL hS).addV a_w__1).addV a_w__2).addV a_w__4).addV a_w__5).addV a_w__6
 refine wc_sr ?_
 refine w_ex rfl (x_box rfl hM ?_); intro b1039 w1038 hR1040 hM
 refine was rfl rfl <| wl_sq <| wc_sr <| was rfl rfl <| wl_sq <| wc_seq <| wc_sr <| wv rfl (r_fld u40 rfl rfl sz37 rfl) <| wv rfl (r_ldB u37 rfl rfl hM m0 rfl) <| wv rfl (r_lenC u37 rfl (hM.seeR m1)) <| wmv rfl rfl <| wl_sq <| wc_block <| bs hx fun y1048 hx hx1049 => ?_
 have hM := hM.nil0 (T := Int) 1 fI
 replace hM := hM.p1
 have hM := hM.fewer (rsC m4 (rsC m3 (rsC m2 (rsC m1 (rsC m0 rsN)))))
 replace hM : St ⟨w, X, S⟩ [oBox b1039 #[(bv w_.h.shut), s_w__1.v, s_w__2.v, (iv w_.h.last), s_w__4.v, s_w__5.v, s_w__6.v, (iv w_.step)] 40, oC (cSl 1 fI ([] : List Int)) nS.v] [rV s_w__1.v (cSl 5 fDDoc w_.h.docs), rV s_w__2.v (cSl 6 fDSub w_.h.subs), rV s_w__4.v (cSl 1 fI w_.locks), rV s_w__5.v (cSl 2 fDQueue w_.queues), rV s_w__6.v (cSl 15 fDTask w_.tasks)] _ := hM
 have hl1057 := Cs.le (hM.seeR m3)
 refine wc_loop (un fun (m1054 : Nat) => un fun (k1055 : Nat) => un fun (queued1051 : List Int) => fun (s1053 : Sv) => [(1, (pt b1039 0)), (3, s1053.v), (11, s_w__5.v), (12, (iv (w_.queues.length : Int))), (13, (iv (k1055 : Int)))]) (un fun (m1054 : Nat) => un fun (k1055 : Nat) => un fun (queued1051 : List Int) => fun (s1053 : Sv) w' => St ⟨w, X, S⟩ [oBox b1039 #[(bv w_.h.shut), s_w__1.v, s_w__2.v, (iv w_.h.last), s_w__4.v, s_w__5.v, s_w__6.v, (iv w_.step)] 40, oC (cSl 1 fI queued1051) s1053.v] [rV s_w__1.v (cSl 5 fDDoc w_.h.docs), rV s_w__2.v (cSl 6 fDSub w_.h.subs), rV s_w__4.v (cSl 1 fI w_.locks), rV s_w__5.v (cSl 2 fDQueue w_.queues), rV s_w__6.v (cSl 15 fDTask w_.tasks)] w' ∧ eachN _ _ m1054 k1055 queued1051 = some y1048 ∧ k1055 + m1054 = w_.queues.length) (fun p => p.1) (w_.queues.length, 0, [], nS) ⟨rfl, rfl, rfl, rfl, rfl, trivial⟩ ⟨hM, hx, Nat.zero_add _⟩ ?_
 rintro ⟨m1054, k1055, queued1051, s1053⟩ w1058 ⟨hM, hx, hk1056⟩
 refine wc_sr <| wv rfl (r_lss rfl rfl) <| wl_sq <| wc_seq ?_
 refine wc_cond rfl (fun hc1060 => ?_) (fun hc1060 => ?_)
 replace hc1060 := of_decide_eq_true hc1060
 obtain ⟨m1061, z1062, rfl, hk1056, hx, hx1063⟩ := eachN_step hx hk1056 hc1060
 unfold x_impl_queuesOk_f0 x_impl_queuesOk_b0 at hx
 try dsimp only at hx
 refine wc_skip <| sq_n <| wc_seq <| wc_block <| wc_sr <| wmv rfl rfl ?_
 have hi1066 : k1055 < w_.queues.length := by omega
 refine wv rfl (r_ixC u37 sz56 rfl rfl (hM.seeR m3) ⟨by omega, hc1060⟩) ?_
 obtain ⟨s1068, hM, hc1069⟩ := hM.leaf (i := k1055) (j := 1) m3 (fun _ => rfl) hi1066 rfl
 refine wv rfl (r_ldC (o := k1055 * 2) u56 sz56 rfl (us := [(.string ((el w_.queues k1055).doc)), s1068.v]) rfl (hM.seeR m4) hi1066 ⟨(Cs.get (i := k1055) (j := 0) (hM.seeR m4) (fun _ => rfl) hi1066 rfl), (hc1069 _ (Rel.refl _)), trivial⟩) ?_
 refine w_ex rfl (x_alloc sz56 hM ?_); intro b1071 w1070 hR1072 hM
 refine was rfl rfl ?_
 refine w_exu (x_stB #[(.string ((el w_.queues k1055).doc)), s1068.v] sz56 rfl rfl rfl rfl rfl rfl hM ?_); intro w1075 hM
 refine wl_sq <| wc_seq <| wc_seq <| wc_draw [(0, 0), (1, 0), (2, 0), (3, 0), (4, 0), (5, 0), (6, 0), (7, 0), (8, 0), (9, 0), (10, 0), (11, 0), (12, 0), (13, 0), (14, 0), (15, 0), (16, 0), (17, 0), (18, 0), (19, 0), (20, 0), (21, 0), (22, 0), (23, 0), (24, 0), (25, 0), (26, 0), (27, 0), (28, 0)] Tryz_mixed (by kernel_rfl) rfl (by kernel_rfl) rfl <| omv rfl rfl <| ov rfl (fun w' h' => r_gtr rfl rfl) <| omv rfl rfl <| bs hx fun c1080 hx hx1095 => ?_
 refine wo_mid 11 [(31, (bv c1080)), (1, (pt b1039 0)), (3, s1053.v), (5, (pt b1071 0)), (11, s_w__5.v), (12, (iv (w_.queues.length : Int))), (13, (iv (k1055 : Int)))] rfl ?_ ?_
 refine cs2 hx (fun hg1081 hx => ?_) (fun hg1081 hx => ?_)
 refine ogv rfl hg1081 rfl (fun w' h' => r_fld u40 rfl rfl sz37 rfl) <| ogv rfl hg1081 rfl (fun w' h' => r_ldB u37 rfl rfl (hM.call h') m1 rfl) <| ogv rfl hg1081 rfl (fun w' h' => r_move rfl) <| xgs hx fun hg1100 hx => ogv rfl hg1081 rfl (fun w' h' => r_sub rfl rfl hg1100) <| xgs hx fun hg1103 hx => ?_
 have hi1102 : (((k1055 : Int) - 1).toNat) < w_.queues.length := by omega
 refine ogv rfl hg1081 rfl (fun w' h' => r_ixC u37 sz56 rfl rfl ((hM.call h').seeR m4) hg1103) <| ogv rfl hg1081 rfl (fun w' h' => r_fldC (i := (((k1055 : Int) - 1).toNat)) u56 rfl rfl sz9 rfl ((hM.call h').seeR m4) hi1102) <| ogv rfl hg1081 rfl (fun w' h' => r_ld u9 rfl rfl (Cs.get (i := (((k1055 : Int) - 1).toNat)) (j := 0) ((hM.call h').seeR m4) (fun _ => rfl) hi1102 rfl)) <| ogv rfl hg1081 rfl (fun w' h' => r_fld u56 rfl rfl sz9 rfl) <| ogv rfl hg1081 rfl (fun w' h' => r_ldB u9 rfl rfl (hM.call h') m0 rfl) <| ogv rfl hg1081 rfl (fun w' h' => r_geqs rfl rfl) <| ov rfl (fun w' h' => p_t rfl hg1081 rfl) ?_
 cases hx
 exact mid_onil ⟨rfl, rfl, rfl, rfl, rfl, rfl, rfl, trivial⟩
 refine ogs rfl (isB_no hg1081) rfl <| ogs rfl (isB_no hg1081) rfl <| ogs rfl (isB_no hg1081) rfl <| ogs rfl (isB_no hg1081) rfl <| ogs rfl (isB_no hg1081) rfl <| ogs rfl (isB_no hg1081) rfl <| ogs rfl (isB_no hg1081) rfl <| ogs rfl (isB_no hg1081) rfl <| ogs rfl (isB_no hg1081) rfl <| ogs rfl (isB_no hg1081) rfl <| ov rfl (fun w' h' => p_f rfl hg1081 rfl) ?_
 obtain rfl := oi hx
 exact mid_onil ⟨rfl, rfl, rfl, rfl, rfl, rfl, rfl, trivial⟩
 replace hx := hx1095
 refine omv rfl rfl <| bs hx fun c1110 hx hx1119 => ?_
 refine wo_mid 6 [(38, (bv c1110)), (1, (pt b1039 0)), (3, s1053.v), (5, (pt b1071 0)), (11, s_w__5.v), (12, (iv (w_.queues.length : Int))), (13, (iv (k1055 : Int)))] rfl ?_ ?_
 refine cs2 hx (fun hg1111 hx => ?_) (fun hg1111 hx => ?_)
 refine ogs rfl (isB_no hg1111) rfl <| ogs rfl (isB_no hg1111) rfl <| ogs rfl (isB_no hg1111) rfl <| ogs rfl (isB_no hg1111) rfl <| ogs rfl (isB_no hg1111) rfl <| ov rfl (fun w' h' => p_t rfl hg1111 rfl) ?_
 obtain rfl := oi hx
 exact mid_onil ⟨rfl, rfl, rfl, rfl, rfl, rfl, rfl, trivial⟩
 refine ogv rfl hg1111 rfl (fun w' h' => r_fld u56 rfl rfl sz26 rfl) <| ogv rfl hg1111 rfl (fun w' h' => r_ldB u26 rfl rfl (hM.call h') m0 rfl) <| ogv rfl hg1111 rfl (fun w' h' => r_lenC u26 rfl ((hM.call h').seeR m0)) <| bs hx fun _ h1124 hx => ogc rfl hg1111 rfl rfl (fun w' h' => (hM.call h').callV fun X S oL hS hR hO => ct_impl_within _ X S (((el w_.queues k1055).list).length : Int) (1 : Int) (2 : Int) hS  oL h1124) <| ogv rfl hg1111 rfl (fun w' h' => r_not rfl) <| ov rfl (fun w' h' => p_f rfl hg1111 rfl) ?_
 cases hx
 exact mid_onil ⟨rfl, rfl, rfl, rfl, rfl, rfl, rfl, trivial⟩
 replace hx := hx1119
 refine omv rfl rfl <| bs hx fun c1128 hx hx1138 => ?_
 refine wo_mid 7 [(46, (bv c1128)), (1, (pt b1039 0)), (3, s1053.v), (5, (pt b1071 0)), (11, s_w__5.v), (12, (iv (w_.queues.length : Int))), (13, (iv (k1055 : Int)))] rfl ?_ ?_
 refine cs2 hx (fun hg1129 hx => ?_) (fun hg1129 hx => ?_)
 refine ogs rfl (isB_no hg1129) rfl <| ogs rfl (isB_no hg1129) rfl <| ogs rfl (isB_no hg1129) rfl <| ogs rfl (isB_no hg1129) rfl <| ogs rfl (isB_no hg1129) rfl <| ogs rfl (isB_no hg1129) rfl <| ov rfl (fun w' h' => p_t rfl hg1129 rfl) ?_
 obtain rfl := oi hx
 exact mid_onil ⟨rfl, rfl, rfl, rfl, rfl, rfl, rfl, trivial⟩
 refine ogv rfl hg1129 rfl (fun w' h' => r_fld u40 rfl rfl sz36 rfl) <| ogv rfl hg1129 rfl (fun w' h' => r_ldBS u36 sz36 rfl (us := [(bv w_.h.shut), s_w__1.v, s_w__2.v, (iv w_.h.last)]) rfl (hM.call h') m1 rfl) <| ogv rfl hg1129 rfl (fun w' h' => r_fld u56 rfl rfl sz9 rfl) <| ogv rfl hg1129 rfl (fun w' h' => r_ldB u9 rfl rfl (hM.call h') m0 rfl) <| bs hx fun _ h1144 hx => ogc rfl hg1129 rfl rfl (fun w' h' => (hM.call h').callV fun X S oL hS hR hO => ct_impl_HubDoc _ X S w_.h s_w__1 s_w__2 ((el w_.queues k1055).doc) hS (hR _ m1) (hR _ m2) oL h1144) <| ogv rfl hg1129 rfl (fun w' h' => r_lss rfl rfl) <| ov rfl (fun w' h' => p_f rfl hg1129 rfl) ?_
 cases hx
 exact mid_onil ⟨rfl, rfl, rfl, rfl, rfl, rfl, rfl, trivial⟩
 replace hx := hx1138
 refine o_nilM hM fun _ hM => sq_n ?_
 refine wcx hx rfl (fun hx => ?_) (fun hx => ?_)
 refine wc_sr <| was rfl rfl <| wl_sq <| wc_ret <| sq_ret <| bk_ret <| sq_ret <| lp1_ret ?_
 cases hx
 obtain rfl := oi hx1063
 replace hx := hx1049
 refine bk_ret <| sq_ret ?_
 obtain rfl := oi hx
 exact fin_u [(bv false)] hM ⟨rfl, trivial⟩ rfl
 refine wc_skip <| sq_n <| wc_sr <| wv rfl (r_fld u56 rfl rfl sz26 rfl) <| wv rfl (r_ldB u26 rfl rfl hM m0 rfl) <| wv rfl (r_lenC u26 rfl (hM.seeR m0)) <| wmv rfl rfl <| wl_sq <| wc_block <| bs hx fun y1155 hx hx1156 => ?_
 replace hM := hM.p2.p1.p2
 have hM := hM.fewer (rsC m1 (rsC m2 (rsC m3 (rsC m4 (rsC m5 (rsC m0 rsN))))))
 replace hM : St ⟨w, X, S⟩ [oBox b1039 #[(bv w_.h.shut), s_w__1.v, s_w__2.v, (iv w_.h.last), s_w__4.v, s_w__5.v, s_w__6.v, (iv w_.step)] 40, oBox b1071 #[(.string ((el w_.queues k1055).doc)), s1068.v] 56, oC (cSl 1 fI queued1051) s1053.v] [rV s_w__1.v (cSl 5 fDDoc w_.h.docs), rV s_w__2.v (cSl 6 fDSub w_.h.subs), rV s_w__4.v (cSl 1 fI w_.locks), rV s_w__5.v (cSl 2 fDQueue w_.queues), rV s_w__6.v (cSl 15 fDTask w_.tasks), rV s1068.v (cSl 1 fI ((el w_.queues k1055).list))] _ := hM
 have hl1163 := Cs.le (hM.seeR m5)
 refine wc_loop (un fun (m1160 : Nat) => un fun (k1161 : Nat) => un fun (queued1157 : List Int) => fun (s1159 : Sv) => [(1, (pt b1039 0)), (3, s1159.v), (5, (pt b1071 0)), (11, s_w__5.v), (12, (iv (w_.queues.length : Int))), (13, (iv (k1055 : Int))), (48, s1068.v), (49, (iv (((el w_.queues k1055).list).length : Int))), (50, (iv (k1161 : Int)))]) (un fun (m1160 : Nat) => un fun (k1161 : Nat) => un fun (queued1157 : List Int) => fun (s1159 : Sv) w' => St ⟨w, X, S⟩ [oBox b1039 #[(bv w_.h.shut), s_w__1.v, s_w__2.v, (iv w_.h.last), s_w__4.v, s_w__5.v, s_w__6.v, (iv w_.step)] 40, oBox b1071 #[(.string ((el w_.queues k1055).doc)), s1068.v] 56, oC (cSl 1 fI queued1157) s1159.v] [rV s_w__1.v (cSl 5 fDDoc w_.h.docs), rV s_w__2.v (cSl 6 fDSub w_.h.subs), rV s_w__4.v (cSl 1 fI w_.locks), rV s_w__5.v (cSl 2 fDQueue w_.queues), rV s_w__6.v (cSl 15 fDTask w_.tasks), rV s1068.v (cSl 1 fI ((el w_.queues k1055).list))] w' ∧ eachN _ _ m1160 k1161 queued1157 = some y1155 ∧ k1161 + m1160 = ((el w_.queues k1055).list).length) (fun p => p.1) (((el w_.queues k1055).list).length, 0, queued1051, s1053) ⟨rfl, rfl, rfl, rfl, rfl, rfl, rfl, rfl, rfl, trivial⟩ ⟨hM, hx, Nat.zero_add _⟩ ?_
 rintro ⟨m1160, k1161, queued1157, s1159⟩ w1164 ⟨hM, hx, hk1162⟩
 refine wc_sr <| wv rfl (r_lss rfl rfl) <| wl_sq <| wc_seq ?_
 refine wc_cond rfl (fun hc1166 => ?_) (fun hc1166 => ?_)
 replace hc1166 := of_decide_eq_true hc1166
 obtain ⟨m1167, z1168, rfl, hk1162, hx, hx1169⟩ := eachN_step hx hk1162 hc1166
 unfold x_impl_queuesOk_f1 x_impl_queuesOk_b1 at hx
 try dsimp only at hx
 refine wc_skip <| sq_n <| wc_seq <| wc_block <| wc_sr ?_
 have hi1171 : k1161 < ((el w_.queues k1055).list).length := by omega
 refine wv rfl (r_ixC u26 sz3 rfl rfl (hM.seeR m5) ⟨by omega, hc1166⟩) <| wv rfl (r_ld u3 rfl rfl (Cs.get (i := k1161) (j := 0) (hM.seeR m5) (fun _ => rfl) hi1171 rfl)) <| was rfl rfl <| wl_sq <| wc_seq <| wc_seq <| wc_draw [(0, 0), (1, 0), (2, 0), (3, 0), (4, 0), (5, 0), (6, 0), (7, 0), (8, 0), (9, 0), (10, 0), (11, 0), (12, 0), (13, 0), (14, 0), (15, 0), (16, 0), (17, 0), (18, 0), (19, 0), (20, 0), (21, 0), (22, 0), (23, 0), (24, 0), (25, 0), (26, 0), (27, 0), (28, 0), (29, 0), (30, 0), (31, 0), (32, 0)] Tryz_mixed (by kernel_rfl) rfl (by kernel_rfl) rfl <| omv rfl rfl <| ov rfl (fun w' h' => r_fld u40 rfl rfl sz38 rfl) <| ov rfl (fun w' h' => r_ldB u38 rfl rfl (hM.call h') m0 rfl) <| ov rfl (fun w' h' => r_lenC u38 rfl ((hM.call h').seeR m4)) <| xgs hx fun hg1179 hx => ov rfl (fun w' h' => r_sub rfl rfl hg1179) <| bs hx fun _ h1181 hx => ?_
 refine oc rfl rfl (fun w' h' => (hM.call h').callV fun X S oL hS hR hO => ct_impl_within _ X S (el ((el w_.queues k1055).list) k1161) (0 : Int) ((w_.tasks.length : Int) - 1) hS  oL h1181) <| ov rfl (fun w' h' => r_not rfl) <| omv rfl rfl <| bs hx fun c1185 hx hx1196 => ?_
 refine wo_mid 8 [(69, (bv c1185)), (1, (pt b1039 0)), (3, s1159.v), (5, (pt b1071 0)), (7, (iv (el ((el w_.queues k1055).list) k1161))), (11, s_w__5.v), (12, (iv (w_.queues.length : Int))), (13, (iv (k1055 : Int))), (48, s1068.v), (49, (iv (((el w_.queues k1055).list).length : Int))), (50, (iv (k1161 : Int)))] rfl ?_ ?_
 refine cs2 hx (fun hg1186 hx => ?_) (fun hg1186 hx => ?_)
 refine ogs rfl (isB_no hg1186) rfl <| ogs rfl (isB_no hg1186) rfl <| ogs rfl (isB_no hg1186) rfl <| ogs rfl (isB_no hg1186) rfl <| ogs rfl (isB_no hg1186) rfl <| ogs rfl (isB_no hg1186) rfl <| ogs rfl (isB_no hg1186) rfl <| ov rfl (fun w' h' => p_t rfl hg1186 rfl) ?_
 obtain rfl := oi hx
 exact mid_onil ⟨rfl, rfl, rfl, rfl, rfl, rfl, rfl, rfl, rfl, rfl, rfl, trivial⟩
 refine ogv rfl hg1186 rfl (fun w' h' => r_fld u40 rfl rfl sz38 rfl) <| ogv rfl hg1186 rfl (fun w' h' => r_ldB u38 rfl rfl (hM.call h') m0 rfl) <| ogv rfl hg1186 rfl (fun w' h' => r_move rfl) <| xgs hx fun hg1202 hx => ?_
 have hi1201 : ((el ((el w_.queues k1055).list) k1161).toNat) < w_.tasks.length := by omega
 refine ogv rfl hg1186 rfl (fun w' h' => r_ixC u38 sz64 rfl rfl ((hM.call h').seeR m4) hg1202) <| ogv rfl hg1186 rfl (fun w' h' => r_fldC (i := ((el ((el w_.queues k1055).list) k1161).toNat)) u64 rfl rfl sz3 rfl ((hM.call h').seeR m4) hi1201) <| ogv rfl hg1186 rfl (fun w' h' => r_ld u3 rfl rfl (Cs.get (i := ((el ((el w_.queues k1055).list) k1161).toNat)) (j := 7) ((hM.call h').seeR m4) (fun _ => rfl) hi1201 rfl)) <| ogv rfl hg1186 rfl (fun w' h' => r_neq rfl rfl) <| ov rfl (fun w' h' => p_f rfl hg1186 rfl) ?_
 cases hx
 exact mid_onil ⟨rfl, rfl, rfl, rfl, rfl, rfl, rfl, rfl, rfl, rfl, rfl, trivial⟩
 replace hx := hx1196
 refine omv rfl rfl <| bs hx fun c1207 hx hx1221 => ?_
 refine wo_mid 11 [(81, (bv c1207)), (1, (pt b1039 0)), (3, s1159.v), (5, (pt b1071 0)), (7, (iv (el ((el w_.queues k1055).list) k1161))), (11, s_w__5.v), (12, (iv (w_.queues.length : Int))), (13, (iv (k1055 : Int))), (48, s1068.v), (49, (iv (((el w_.queues k1055).list).length : Int))), (50, (iv (k1161 : Int)))] rfl ?_ ?_
 refine cs2 hx (fun hg1208 hx => ?_) (fun hg1208 hx => ?_)
 refine ogs rfl (isB_no hg1208) rfl <| ogs rfl (isB_no hg1208) rfl <| ogs rfl (isB_no hg1208) rfl <| ogs rfl (isB_no hg1208) rfl <| ogs rfl (isB_no hg1208) rfl <| ogs rfl (isB_no hg1208) rfl <| ogs rfl (isB_no hg1208) rfl <| ogs rfl (isB_no hg1208) rfl <| ogs rfl (isB_no hg1208) rfl <| ogs rfl (isB_no hg1208) rfl <| ov rfl (fun w' h' => p_t rfl hg1208 rfl) ?_
 obtain rfl := oi hx
 exact mid_onil ⟨rfl, rfl, rfl, rfl, rfl, rfl, rfl, rfl, rfl, rfl, rfl, trivial⟩
 refine ogv rfl hg1208 rfl (fun w' h' => r_fld u40 rfl rfl sz38 rfl) <| ogv rfl hg1208 rfl (fun w' h' => r_ldB u38 rfl rfl (hM.call h') m0 rfl) <| ogv rfl hg1208 rfl (fun w' h' => r_move rfl) <| xgs hx fun hg1227 hx => ?_
 have hi1226 : ((el ((el w_.queues k1055).list) k1161).toNat) < w_.tasks.length := by omega
 refine ogv rfl hg1208 rfl (fun w' h' => r_ixC u38 sz64 rfl rfl ((hM.call h').seeR m4) hg1227) <| ogv rfl hg1208 rfl (fun w' h' => r_fldC (i := ((el ((el w_.queues k1055).list) k1161).toNat)) u64 rfl rfl sz59 rfl ((hM.call h').seeR m4) hi1226) <| ogv rfl hg1208 rfl (fun w' h' => r_fldC (i := ((el ((el w_.queues k1055).list) k1161).toNat)) u59 rfl rfl sz9 rfl ((hM.call h').seeR m4) hi1226) <| ogv rfl hg1208 rfl (fun w' h' => r_ld u9 rfl rfl (Cs.get (i := ((el ((el w_.queues k1055).list) k1161).toNat)) (j := 1) ((hM.call h').seeR m4) (fun _ => rfl) hi1226 rfl)) <| ogv rfl hg1208 rfl (fun w' h' => r_fld u56 rfl rfl sz9 rfl) <| ogv rfl hg1208 rfl (fun w' h' => r_ldB u9 rfl rfl (hM.call h') m1 rfl) <| ogv rfl hg1208 rfl (fun w' h' => r_neqs rfl rfl) <| ov rfl (fun w' h' => p_f rfl hg1208 rfl) ?_
 cases hx
 exact mid_onil ⟨rfl, rfl, rfl, rfl, rfl, rfl, rfl, rfl, rfl, rfl, rfl, trivial⟩
 replace hx := hx1221
 refine omv rfl rfl <| bs hx fun c1235 hx hx1242 => ?_
 refine wo_mid 4 [(86, (bv c1235)), (1, (pt b1039 0)), (3, s1159.v), (5, (pt b1071 0)), (7, (iv (el ((el w_.queues k1055).list) k1161))), (11, s_w__5.v), (12, (iv (w_.queues.length : Int))), (13, (iv (k1055 : Int))), (48, s1068.v), (49, (iv (((el w_.queues k1055).list).length : Int))), (50, (iv (k1161 : Int)))] rfl ?_ ?_
 refine cs2 hx (fun hg1236 hx => ?_) (fun hg1236 hx => ?_)
 refine ogs rfl (isB_no hg1236) rfl <| ogs rfl (isB_no hg1236) rfl <| ogs rfl (isB_no hg1236) rfl <| ov rfl (fun w' h' => p_t rfl hg1236 rfl) ?_
 obtain rfl := oi hx
 exact mid_onil ⟨rfl, rfl, rfl, rfl, rfl, rfl, rfl, rfl, rfl, rfl, rfl, trivial⟩
 refine ogv rfl hg1236 rfl (fun w' h' => r_move rfl) <| ogv rfl hg1236 rfl (fun w' h' => r_move rfl) <| bs hx fun _ h1246 hx => ogc rfl hg1236 rfl rfl (fun w' h' => (hM.call h').callV fun X S oL hS hR hO => ct_slices_Contains_int_int _ X S queued1157 s1159 (el ((el w_.queues k1055).list) k1161) hS (seeA hO m2) oL h1246) <| ov rfl (fun w' h' => p_f rfl hg1236 rfl) ?_
 obtain rfl := oi hx
 exact mid_onil ⟨rfl, rfl, rfl, rfl, rfl, rfl, rfl, rfl, rfl, rfl, rfl, trivial⟩
 replace hx := hx1242
 refine o_nilM hM fun _ hM => sq_n ?_
 refine wcx hx rfl (fun hx => ?_) (fun hx => ?_)
 refine wc_sr <| was rfl rfl <| wl_sq <| wc_ret <| sq_ret <| bk_ret <| sq_ret <| lp1_ret ?_
 cases hx
 obtain rfl := oi hx1169
 replace hx := hx1156
 refine bk_ret <| bk_ret <| sq_ret <| lp1_ret ?_
 cases hx
 obtain rfl := oi hx1063
 replace hx := hx1049
 refine bk_ret <| sq_ret ?_
 obtain rfl := oi hx
 exact fin_u [(bv false)] hM ⟨rfl, trivial⟩ rfl
 refine wc_skip <| sq_n <| wc_region <| wmv rfl rfl <| wmv rfl rfl ?_
 replace hM := hM.p2
 refine xgs hx fun hg1257 hx => ?_
 refine w_push (f := fI) (el ((el w_.queues k1055).list) k1161) rfl rfl u26 sz3 rfl rfl rfl rfl (fun _ => rfl) hM (fun _ => zP (pV _ rfl) zN) rfl hg1257 rfl ?_; intro u1255 s1256 w1254 hM
 refine was rfl rfl <| wl_nil <| bk_n <| sq_n <| wc_region <| wv rfl (r_add rfl rfl ⟨by omega, by omega⟩) <| wmv rfl rfl <| wl_nil ?_
 cases hx
 replace hM := hM.p2.p2
 exact lp_end (m1167, k1161 + 1, queued1157 ++ [el ((el w_.queues k1055).list) k1161], s1256) (Nat.lt_succ_self _) ⟨rfl, rfl, rfl, rfl, rfl, rfl, rfl, rfl, rfl, trivial⟩ ⟨hM, hx1169, hk1162⟩
 replace hc1166 := of_decide_eq_false hc1166
 obtain rfl := eachN_end hx hk1162 hc1166
 refine wc_exit <| sq_exit <| lp1_exit ?_
 replace hx := hx1156
 refine bk_here <| bk_n <| sq_n <| wc_region <| wv rfl (r_add rfl rfl ⟨by omega, by omega⟩) <| wmv rfl rfl <| wl_nil ?_
 obtain rfl := oi hx
 replace hM := hM.p2.p1
 replace hM := hM.t2
 have hM := hM.fewer (rsC m0 (rsC m1 (rsC m2 (rsC m3 (rsC m4 rsN)))))
 replace hM : St ⟨w, X, S⟩ [oBox b1039 #[(bv w_.h.shut), s_w__1.v, s_w__2.v, (iv w_.h.last), s_w__4.v, s_w__5.v, s_w__6.v, (iv w_.step)] 40, oC (cSl 1 fI queued1157) s1159.v] [rV s_w__1.v (cSl 5 fDDoc w_.h.docs), rV s_w__2.v (cSl 6 fDSub w_.h.subs), rV s_w__4.v (cSl 1 fI w_.locks), rV s_w__5.v (cSl 2 fDQueue w_.queues), rV s_w__6.v (cSl 15 fDTask w_.tasks)] _ := hM
 exact lp_end (m1061, k1055 + 1, queued1157, s1159) (Nat.lt_succ_self _) ⟨rfl, rfl, rfl, rfl, rfl, trivial⟩ ⟨hM, hx1063, hk1056⟩
 replace hc1060 := of_decide_eq_false hc1060
 obtain rfl := eachN_end hx hk1056 hc1060
 refine wc_exit <| sq_exit <| lp1_exit ?_
 replace hx := hx1049
 refine bk_here <| sq_n <| wc_seq <| wc_sr <| wv rfl (r_fld u40 rfl rfl sz38 rfl) <| wv rfl (r_ldB u38 rfl rfl hM m0 rfl) <| wv rfl (r_lenC u38 rfl (hM.seeR m4)) <| wmv rfl rfl <| wl_sq <| wc_block <| bs hx fun y1267 hx hx1268 => ?_
 replace hM := hM.p1
 replace hM := hM.t1
 have hM := hM.fewer (rsC m4 rsN)
 replace hM : St ⟨w, X, S⟩ [oC (cSl 1 fI queued1051) s1053.v] [rV s_w__6.v (cSl 15 fDTask w_.tasks)] _ := hM
 have hl1272 := Cs.le (hM.seeR m0)
 refine wc_loop (un fun (m1269 : Nat) => fun (k1270 : Nat) => [(3, s1053.v), (94, s_w__6.v), (95, (iv (w_.tasks.length : Int))), (96, (iv (k1270 : Int)))]) (un fun (m1269 : Nat) => fun (k1270 : Nat) w' => St ⟨w, X, S⟩ [oC (cSl 1 fI queued1051) s1053.v] [rV s_w__6.v (cSl 15 fDTask w_.tasks)] w' ∧ eachN _ _ m1269 k1270 () = some y1267 ∧ k1270 + m1269 = w_.tasks.length) (fun p => p.1) (w_.tasks.length, 0) ⟨rfl, rfl, rfl, rfl, trivial⟩ ⟨hM, hx, Nat.zero_add _⟩ ?_
 rintro ⟨m1269, k1270⟩ w1273 ⟨hM, hx, hk1271⟩
 refine wc_sr <| wv rfl (r_lss rfl rfl) <| wl_sq <| wc_seq ?_
 refine wc_cond rfl (fun hc1275 => ?_) (fun hc1275 => ?_)
 replace hc1275 := of_decide_eq_true hc1275
 obtain ⟨m1276, z1277, rfl, hk1271, hx, hx1278⟩ := eachN_step hx hk1271 hc1275
 unfold x_impl_queuesOk_f2 x_impl_queuesOk_b2 at hx
 try dsimp only at hx
 refine wc_skip <| sq_n <| wc_seq <| wc_block <| wc_sr <| wmv rfl rfl ?_
 have hi1281 : k1270 < w_.tasks.length := by omega
 refine wv rfl (r_ixC u38 sz64 rfl rfl (hM.seeR m0) ⟨by omega, hc1275⟩) ?_
 obtain ⟨s1283, hM, hc1284⟩ := hM.leaf (i := k1270) (j := 5) m0 (fun _ => rfl) hi1281 rfl
 obtain ⟨s1285, hM, hc1286⟩ := hM.leaf (i := k1270) (j := 6) m1 (fun _ => rfl) hi1281 rfl
 obtain ⟨s1287, hM, hc1288⟩ := hM.leaf (i := k1270) (j := 13) m2 (fun _ => rfl) hi1281 rfl
 obtain ⟨s1289, hM, hc1290⟩ := hM.leaf (i := k1270) (j := 14) m3 (fun _ => rfl) hi1281 rfl
 refine wv rfl (r_ldC (o := k1270 * 15) u64 sz64 rfl (us := [(iv ((el w_.tasks k1270).c.kind)), (.string ((el w_.tasks k1270).c.doc)), (iv ((el w_.tasks k1270).c.client)), (iv ((el w_.tasks k1270).c.seq)), (iv ((el w_.tasks k1270).c.n)), s1283.v, s1285.v, (iv ((el w_.tasks k1270).pc)), (iv ((el w_.tasks k1270).inv)), (iv ((el w_.tasks k1270).lin)), (iv ((el w_.tasks k1270).res)), (iv ((el w_.tasks k1270).a.code)), (iv ((el w_.tasks k1270).a.rev)), s1287.v, s1289.v]) rfl (hM.seeR m4) hi1281 ⟨(Cs.get (i := k1270) (j := 0) (hM.seeR m4) (fun _ => rfl) hi1281 rfl), (Cs.get (i := k1270) (j := 1) (hM.seeR m4) (fun _ => rfl) hi1281 rfl), (Cs.get (i := k1270) (j := 2) (hM.seeR m4) (fun _ => rfl) hi1281 rfl), (Cs.get (i := k1270) (j := 3) (hM.seeR m4) (fun _ => rfl) hi1281 rfl), (Cs.get (i := k1270) (j := 4) (hM.seeR m4) (fun _ => rfl) hi1281 rfl), (hc1284 _ (Rel.refl _)), (hc1286 _ (Rel.refl _)), (Cs.get (i := k1270) (j := 7) (hM.seeR m4) (fun _ => rfl) hi1281 rfl), (Cs.get (i := k1270) (j := 8) (hM.seeR m4) (fun _ => rfl) hi1281 rfl), (Cs.get (i := k1270) (j := 9) (hM.seeR m4) (fun _ => rfl) hi1281 rfl), (Cs.get (i := k1270) (j := 10) (hM.seeR m4) (fun _ => rfl) hi1281 rfl), (Cs.get (i := k1270) (j := 11) (hM.seeR m4) (fun _ => rfl) hi1281 rfl), (Cs.get (i := k1270) (j := 12) (hM.seeR m4) (fun _ => rfl) hi1281 rfl), (hc1288 _ (Rel.refl _)), (hc1290 _ (Rel.refl _)), trivial⟩) ?_
 refine w_ex rfl (x_alloc sz64 hM ?_); intro b1292 w1291 hR1293 hM
 refine was rfl rfl ?_
 refine w_exu (x_stB #[(iv ((el w_.tasks k1270).c.kind)), (.string ((el w_.tasks k1270).c.doc)), (iv ((el w_.tasks k1270).c.client)), (iv ((el w_.tasks k1270).c.seq)), (iv ((el w_.tasks k1270).c.n)), s1283.v, s1285.v, (iv ((el w_.tasks k1270).pc)), (iv ((el w_.tasks k1270).inv)), (iv ((el w_.tasks k1270).lin)), (iv ((el w_.tasks k1270).res)), (iv ((el w_.tasks k1270).a.code)), (iv ((el w_.tasks k1270).a.rev)), s1287.v, s1289.v] sz64 rfl rfl rfl rfl rfl rfl hM ?_); intro w1296 hM
 refine wl_sq <| wc_sr <| wv rfl (r_fld u64 rfl rfl sz3 rfl) <| wv rfl (r_ldB u3 rfl rfl hM m0 rfl) <| wv rfl (r_eql rfl rfl) <| wmv rfl rfl <| bs hx fun c1302 hx hx1310 => ?_
 refine wl_midH 5 [(109, (bv c1302)), (3, s1053.v), (94, s_w__6.v), (95, (iv (w_.tasks.length : Int))), (96, (iv (k1270 : Int)))] hM ?_ fun w1311 hM => ?_
 refine cs2 hx (fun hg1303 hx => ?_) (fun hg1303 hx => ?_)
 refine gv rfl hg1303 rfl (r_move rfl) <| gv rfl hg1303 rfl (r_move rfl) <| bs hx fun _ h1315 hx => g_cv hM hg1303 rfl rfl rfl (fun X S oL hS hR hO => ct_slices_Contains_int_int _ X S queued1051 s1053 (k1270 : Int) hS (seeA hO m1) oL h1315) fun _ hM => gv rfl hg1303 rfl (r_not rfl) <| wv rfl (p_t rfl hg1303 rfl) ?_
 cases hx
 exact mid_h ⟨rfl, rfl, rfl, rfl, rfl, trivial⟩ hM
 refine gn hg1303 rfl rfl <| gn hg1303 rfl rfl <| gn hg1303 rfl rfl <| gn hg1303 rfl rfl <| wv rfl (p_f rfl hg1303 rfl) ?_
 obtain rfl := oi hx
 exact mid_h ⟨rfl, rfl, rfl, rfl, rfl, trivial⟩ hM
 replace hx := hx1310
 refine wl_sq ?_
 refine wcx hx rfl (fun hx => ?_) (fun hx => ?_)
 refine wc_sr <| was rfl rfl <| wl_sq <| wc_ret <| bk_ret <| sq_ret <| lp1_ret ?_
 cases hx
 obtain rfl := oi hx1278
 replace hx := hx1268
 refine bk_ret <| sq_ret ?_
 obtain rfl := oi hx
 exact fin_u [(bv false)] hM ⟨rfl, trivial⟩ rfl
 refine wc_skip <| bk_n <| sq_n <| wc_region <| wv rfl (r_add rfl rfl ⟨by omega, by omega⟩) <| wmv rfl rfl <| wl_nil ?_
 cases hx
 replace hM := hM.p1
 replace hM := hM.t1
 have hM := hM.fewer (rsC m4 rsN)
 replace hM : St ⟨w, X, S⟩ [oC (cSl 1 fI queued1051) s1053.v] [rV s_w__6.v (cSl 15 fDTask w_.tasks)] _ := hM
 exact lp_end (m1276, k1270 + 1) (Nat.lt_succ_self _) ⟨rfl, rfl, rfl, rfl, trivial⟩ ⟨hM, hx1278, hk1271⟩
 replace hc1275 := of_decide_eq_false hc1275
 obtain rfl := eachN_end hx hk1271 hc1275
 refine wc_exit <| sq_exit <| lp1_exit ?_
 replace hx := hx1268
 refine bk_here <| sq_n <| wc_sr <| was rfl rfl <| wl_sq <| wc_ret ?_
 obtain rfl := oi hx
 exact fin_u [(bv true)] hM ⟨rfl, trivial⟩ rfl

noncomputable def x_impl_WorldOk_b0 (k79 : Nat) (l80 : List Int) : Option (Lr (List Int) (List Int)) :=
  xg (0 ≤ (k79 : Int) ∧ (k79 : Int) < (l80.length : Int)) <| some (Lr.go (l80.set k79 (-1)))
noncomputable def x_impl_WorldOk_f0 (k79 : Nat) (s107 : List Int) : Option (Lr (List Int) (List Int)) := x_impl_WorldOk_b0 k79 s107
noncomputable def x_impl_WorldOk_b1 (w_ : DWorld) (k172 : Nat) (x289 : DTask) (l173 : List Int) : Option (Lr (List Int) (Sum (List Int) Bool)) :=
  Option.bind (x_impl_TaskOk x289) fun r253 => bif !r253 then (some (Lr.out (Sum.inr (false)))) else (bif decide ((x289.pc) = 1) then (Option.bind (x_impl_StripeOf (x289.c.doc) (w_.locks.length : Int)) fun r265 => xg (0 ≤ r265 ∧ r265 < (l173.length : Int)) <| bif !decide ((el l173 r265.toNat) = (-1)) then (some (Lr.out (Sum.inr (false)))) else (xg (0 ≤ r265 ∧ r265 < (l173.length : Int)) <| some (Lr.go (l173.set r265.toNat (k172 : Int))))) else (some (Lr.go l173)))
noncomputable def x_impl_WorldOk_f1 (w_ : DWorld) (k172 : Nat) (s290 : List Int) : Option (Lr (List Int) (Sum (List Int) Bool)) := x_impl_WorldOk_b1 w_ k172 (el w_.tasks k172) s290
noncomputable def x_impl_WorldOk (w_ : DWorld) : Option Bool :=
  Option.bind (x_impl_HubOk w_.h) fun r12 => Option.bind (bif !r12 then (some true) else (Option.bind (x_impl_within (w_.locks.length : Int) 1 4) fun r25 => some (!r25))) fun c17 => Option.bind (bif c17 then (some true) else (some (decide ((10 : Int) < (w_.tasks.length : Int))))) fun c30 => Option.bind (bif c30 then (some true) else (Option.bind (x_impl_within w_.step 0 1000000) fun r51 => some (!r51))) fun c41 => bif c41 then (some false) else (xg (0 ≤ (w_.locks.length : Int) ∧ (w_.locks.length : Int) ≤ 1099511627776) <| Option.bind (eachN (x_impl_WorldOk_f0) (fun (s107 : List Int) => (s107 : List Int)) (List.replicate ((w_.locks.length : Int).toNat) (0 : Int)).length 0 (List.replicate ((w_.locks.length : Int).toNat) (0 : Int))) fun (y108 : List Int) => Option.bind (eachN (x_impl_WorldOk_f1 w_) (fun (s290 : List Int) => (Sum.inl s290 : Sum (List Int) Bool)) w_.tasks.length 0 y108) fun (y291 : Sum (List Int) Bool) => Sum.elim (fun y292 => Option.bind (x_slices_Equal_int_int y292 w_.locks) fun r298 => Option.bind (bif r298 then (Option.bind (x_impl_stepsOk w_.tasks w_.step) fun r315 => some r315) else (some false)) fun c302 => Option.bind (bif c302 then (Option.bind (x_impl_queuesOk w_) fun r326 => some r326) else (some false)) fun c319 => some c319) (fun y293 => some y293) y291)
theorem ct_impl_WorldOk (w : World) (X S : Bs) (w_ : DWorld) (s_w__1 : Sv) (s_w__2 : Sv) (s_w__4 : Sv) (s_w__5 : Sv) (s_w__6 : Sv) (hS : SX X S w) (a_w__1 : (cSl 5 fDDoc w_.h.docs).rd S w s_w__1.v) (a_w__2 : (cSl 6 fDSub w_.h.subs).rd S w s_w__2.v) (a_w__4 : (cSl 1 fI w_.locks).rd S w s_w__4.v) (a_w__5 : (cSl 2 fDQueue w_.queues).rd S w s_w__5.v) (a_w__6 : (cSl 15 fDTask w_.tasks).rd S w s_w__6.v) (oL : Sep [] X w) {r : Bool} (hx : x_impl_WorldOk w_ = some r) :
 Ret Tryz.prog 27 [(.agg #[(bv w_.h.shut), s_w__1.v, s_w__2.v, (iv w_.h.last), s_w__4.v, s_w__5.v, s_w__6.v, (iv w_.step)])] w (KV X S w (bv r)) := by
 unfold x_impl_WorldOk at hx
 refine enter Tryz.func27 rfl Tryz.ntmps27 (by kernel_rfl) rfl ?_
 have hM := (((((St.enter oL hS).addV a_w__1).addV a_w__2).addV a_w__4).addV a_w__5).addV a_w__6
 refine wc_sr ?_
 refine w_ex rfl (x_box rfl hM ?_); intro b331 w330 hR332 hM
 refine was rfl rfl <| wl_sq <| wc_sr <| wv rfl (r_fld u40 rfl rfl sz26 rfl) <| wv rfl (r_ldB u26 rfl rfl hM m0 rfl) <| wv rfl (r_lenC u26 rfl (hM.seeR m2)) <| was rfl rfl <| wl_sq <| wc_seq <| wc_sr <| wv rfl (r_fld u40 rfl rfl sz36 rfl) <| wv rfl (r_ldBS u36 sz36 rfl (us := [(bv w_.h.shut), s_w__1.v, s_w__2.v, (iv w_.h.last)]) rfl hM m0 rfl) <| bs hx fun _ h342 hx => w_cv hM rfl rfl (fun X S oL hS hR hO => ct_impl_HubOk _ X S w_.h s_w__1 s_w__2 hS (hR _ m4) (hR _ m3) oL h342) fun _ hM => ?_
 refine wv rfl (r_not rfl) <| wmv rfl rfl <| bs hx fun c346 hx hx353 => ?_
 refine wl_midH 4 [(20, (bv c346)), (1, (pt b331 0)), (3, (iv (w_.locks.length : Int)))] hM ?_ fun w354 hM => ?_
 refine cs2 hx (fun hg347 hx => ?_) (fun hg347 hx => ?_)
 refine gn hg347 rfl rfl <| gn hg347 rfl rfl <| gn hg347 rfl rfl <| wv rfl (p_t rfl hg347 rfl) ?_
 obtain rfl := oi hx
 exact mid_h ⟨rfl, rfl, rfl, trivial⟩ hM
 refine gv rfl hg347 rfl (r_move rfl) <| bs hx fun _ h357 hx => g_cv hM hg347 rfl rfl rfl (fun X S oL hS hR hO => ct_impl_within _ X S (w_.locks.length : Int) (1 : Int) (4 : Int) hS  oL h357) fun _ hM => gv rfl hg347 rfl (r_not rfl) <| wv rfl (p_f rfl hg347 rfl) ?_
 cases hx
 exact mid_h ⟨rfl, rfl, rfl, trivial⟩ hM
 replace hx := hx353
 refine wmv rfl rfl <| bs hx fun c361 hx hx367 => ?_
 refine wl_midH 5 [(26, (bv c361)), (1, (pt b331 0)), (3, (iv (w_.locks.length : Int)))] hM ?_ fun w368 hM => ?_
 refine cs2 hx (fun hg362 hx => ?_) (fun hg362 hx => ?_)
 refine gn hg362 rfl rfl <| gn hg362 rfl rfl <| gn hg362 rfl rfl <| gn hg362 rfl rfl <| wv rfl (p_t rfl hg362 rfl) ?_
 obtain rfl := oi hx
 exact mid_h ⟨rfl, rfl, rfl, trivial⟩ hM
 refine gv rfl hg362 rfl (r_fld u40 rfl rfl sz38 rfl) <| gv rfl hg362 rfl (r_ldB u38 rfl rfl hM m0 rfl) <| gv rfl hg362 rfl (r_lenC u38 rfl (hM.seeR m0)) <| gv rfl hg362 rfl (r_gtr rfl rfl) <| wv rfl (p_f rfl hg362 rfl) ?_
 cases hx
 exact mid_h ⟨rfl, rfl, rfl, trivial⟩ hM
 replace hx := hx367
 refine wmv rfl rfl <| bs hx fun c374 hx hx382 => ?_
 refine wl_midH 5 [(32, (bv c374)), (1, (pt b331 0)), (3, (iv (w_.locks.length : Int)))] hM ?_ fun w383 hM => ?_
 refine cs2 hx (fun hg375 hx => ?_) (fun hg375 hx => ?_)
 refine gn hg375 rfl rfl <| gn hg375 rfl rfl <| gn hg375 rfl rfl <| gn hg375 rfl rfl <| wv rfl (p_t rfl hg375 rfl) ?_
 obtain rfl := oi hx
 exact mid_h ⟨rfl, rfl, rfl, trivial⟩ hM
 refine gv rfl hg375 rfl (r_fld u40 rfl rfl sz3 rfl) <| gv rfl hg375 rfl (r_ldB u3 rfl rfl hM m0 rfl) <| bs hx fun _ h387 hx => g_cv hM hg375 rfl rfl rfl (fun X S oL hS hR hO => ct_impl_within _ X S w_.step (0 : Int) (1000000 : Int) hS  oL h387) fun _ hM => gv rfl hg375 rfl (r_not rfl) <| wv rfl (p_f rfl hg375 rfl) ?_
 cases hx
 exact mid_h ⟨rfl, rfl, rfl, trivial⟩ hM
 replace hx := hx382
 refine wl_sq ?_
 refine wcx hx rfl (fun hx => ?_) (fun hx => ?_)
 refine wc_sr <| was rfl rfl <| wl_sq <| wc_ret <| sq_ret ?_
 obtain rfl := oi hx
 exact fin_u [(bv false)] hM ⟨rfl, trivial⟩ rfl
 refine wc_skip <| sq_n <| wc_sr <| wmv rfl rfl <| xgs hx fun _ hx => ?_
 have hk396 : (w_.locks.length : Int) = ((w_.locks.length : Int).toNat : Int) := by omega
 refine w_ex rfl (x_make (f := fI) (k := ((w_.locks.length : Int).toNat)) (0 : Int) u26 sz3 (fun _ => rfl) (fun _ => zP (pV _ rfl) zN) (by rw [← hk396]; rfl) (by omega) rfl hM ?_); intro s394 w393 hR397 hM
 refine was rfl rfl <| wl_sq <| wc_seq <| wc_sr <| wmv rfl rfl <| wv rfl (r_lenC u26 rfl (hM.seeO m0)) <| wmv rfl rfl <| wl_sq <| wc_block <| bs hx fun y403 hx hx404 => ?_
 replace hM := hM.p1
 have hM := hM.fewer (rsC m4 (rsC m3 (rsC m2 (rsC m1 (rsC m0 rsN)))))
 replace hM : St ⟨w, X, S⟩ [oBox b331 #[(bv w_.h.shut), s_w__1.v, s_w__2.v, (iv w_.h.last), s_w__4.v, s_w__5.v, s_w__6.v, (iv w_.step)] 40, oC (cSl 1 fI (List.replicate ((w_.locks.length : Int).toNat) (0 : Int))) s394.v] [rV s_w__1.v (cSl 5 fDDoc w_.h.docs), rV s_w__2.v (cSl 6 fDSub w_.h.subs), rV s_w__4.v (cSl 1 fI w_.locks), rV s_w__5.v (cSl 2 fDQueue w_.queues), rV s_w__6.v (cSl 15 fDTask w_.tasks)] _ := hM
 have hl409 := Cs.le (hM.seeO m1)
 refine wc_loop (un fun (m406 : Nat) => un fun (k407 : Nat) => fun (l405 : List Int) => [(1, (pt b331 0)), (3, (iv (w_.locks.length : Int))), (4, s394.v), (36, (iv ((List.replicate ((w_.locks.length : Int).toNat) (0 : Int)).length : Int))), (37, (iv (k407 : Int)))]) (un fun (m406 : Nat) => un fun (k407 : Nat) => fun (l405 : List Int) w' => St ⟨w, X, S⟩ [oBox b331 #[(bv w_.h.shut), s_w__1.v, s_w__2.v, (iv w_.h.last), s_w__4.v, s_w__5.v, s_w__6.v, (iv w_.step)] 40, oC (cSl 1 fI l405) s394.v] [rV s_w__1.v (cSl 5 fDDoc w_.h.docs), rV s_w__2.v (cSl 6 fDSub w_.h.subs), rV s_w__4.v (cSl 1 fI w_.locks), rV s_w__5.v (cSl 2 fDQueue w_.queues), rV s_w__6.v (cSl 15 fDTask w_.tasks)] w' ∧ eachN _ _ m406 k407 l405 = some y403 ∧ k407 + m406 = (List.replicate ((w_.locks.length : Int).toNat) (0 : Int)).length) (fun p => p.1) ((List.replicate ((w_.locks.length : Int).toNat) (0 : Int)).length, 0, List.replicate ((w_.locks.length : Int).toNat) (0 : Int)) ⟨rfl, rfl, rfl, rfl, rfl, trivial⟩ ⟨hM, hx, Nat.zero_add _⟩ ?_
 rintro ⟨m406, k407, l405⟩ w410 ⟨hM, hx, hk408⟩
 refine wc_sr <| wv rfl (r_lss rfl rfl) <| wl_sq <| wc_seq ?_
 refine wc_cond rfl (fun hc412 => ?_) (fun hc412 => ?_)
 replace hc412 := of_decide_eq_true hc412
 obtain ⟨m413, z414, rfl, hk408, hx, hx415⟩ := eachN_step hx hk408 hc412
 unfold x_impl_WorldOk_f0 x_impl_WorldOk_b0 at hx
 try dsimp only at hx
 refine wc_skip <| sq_n <| wc_seq <| wc_block <| wc_sr <| wmv rfl rfl <| was rfl rfl <| wl_sq <| wc_region <| wmv rfl rfl <| wmv rfl rfl <| xgs hx fun hg422 hx => ?_
 have hi421 : k407 < l405.length := by omega
 refine wv rfl (r_ixC u26 sz3 rfl rfl (hM.seeO m1) hg422) ?_
 replace hM := hM.p1
 refine w_exu (x_stE (f := fI) (k := 1) (L := l405) (i := k407) (j := 0) (-1) [cI (-1)] sz3 (fun _ => rfl) rfl rfl hi421 rfl rfl rfl rfl rfl (fun _ => zP (pV _ rfl) zN) hM ?_); intro w423 hM
 refine wl_nil <| bk_n <| sq_n <| wc_region <| wv rfl (r_add rfl rfl ⟨by omega, by omega⟩) <| wmv rfl rfl <| wl_nil ?_
 cases hx
 replace hM := hM.p1
 exact lp_end (m413, k407 + 1, l405.set k407 (-1)) (Nat.lt_succ_self _) ⟨rfl, rfl, rfl, rfl, rfl, trivial⟩ ⟨hM, hx415, hk408⟩
 replace hc412 := of_decide_eq_false hc412
 obtain rfl := eachN_end hx hk408 hc412
 refine wc_exit <| sq_exit <| lp1_exit ?_
 replace hx := hx404
 refine bk_here <| sq_n <| wc_seq <| wc_sr <| wv rfl (r_fld u40 rfl rfl sz38 rfl) <| wv rfl (r_ldB u38 rfl rfl hM m0 rfl) <| wv rfl (r_lenC u38 rfl (hM.seeR m4)) <| wmv rfl rfl <| wl_sq <| wc_block <| bs hx fun y431 hx hx432 => ?_
 have hl437 := Cs.le (hM.seeR m4)
 refine wc_loop (un fun (m434 : Nat) => un fun (k435 : Nat) => fun (l433 : List Int) => [(1, (pt b331 0)), (3, (iv (w_.locks.length : Int))), (4, s394.v), (45, s_w__6.v), (46, (iv (w_.tasks.length : Int))), (47, (iv (k435 : Int)))]) (un fun (m434 : Nat) => un fun (k435 : Nat) => fun (l433 : List Int) w' => St ⟨w, X, S⟩ [oBox b331 #[(bv w_.h.shut), s_w__1.v, s_w__2.v, (iv w_.h.last), s_w__4.v, s_w__5.v, s_w__6.v, (iv w_.step)] 40, oC (cSl 1 fI l433) s394.v] [rV s_w__1.v (cSl 5 fDDoc w_.h.docs), rV s_w__2.v (cSl 6 fDSub w_.h.subs), rV s_w__4.v (cSl 1 fI w_.locks), rV s_w__5.v (cSl 2 fDQueue w_.queues), rV s_w__6.v (cSl 15 fDTask w_.tasks)] w' ∧ eachN _ _ m434 k435 l433 = some y431 ∧ k435 + m434 = w_.tasks.length) (fun p => p.1) (w_.tasks.length, 0, l405) ⟨rfl, rfl, rfl, rfl, rfl, rfl, trivial⟩ ⟨hM, hx, Nat.zero_add _⟩ ?_
 rintro ⟨m434, k435, l433⟩ w438 ⟨hM, hx, hk436⟩
 refine wc_sr <| wv rfl (r_lss rfl rfl) <| wl_sq <| wc_seq ?_
 refine wc_cond rfl (fun hc440 => ?_) (fun hc440 => ?_)
 replace hc440 := of_decide_eq_true hc440
 obtain ⟨m441, z442, rfl, hk436, hx, hx443⟩ := eachN_step hx hk436 hc440
 unfold x_impl_WorldOk_f1 x_impl_WorldOk_b1 at hx
 try dsimp only at hx
 refine wc_skip <| sq_n <| wc_seq <| wc_block <| wc_sr <| wmv rfl rfl ?_
 have hi446 : k435 < w_.tasks.length := by omega
 refine wv rfl (r_ixC u38 sz64 rfl rfl (hM.seeR m4) ⟨by omega, hc440⟩) ?_
 obtain ⟨s448, hM, hc449⟩ := hM.leaf (i := k435) (j := 5) m4 (fun _ => rfl) hi446 rfl
 obtain ⟨s450, hM, hc451⟩ := hM.leaf (i := k435) (j := 6) m5 (fun _ => rfl) hi446 rfl
 obtain ⟨s452, hM, hc453⟩ := hM.leaf (i := k435) (j := 13) m6 (fun _ => rfl) hi446 rfl
 obtain ⟨s454, hM, hc455⟩ := hM.leaf (i := k435) (j := 14) m7 (fun _ => rfl) hi446 rfl
 refine wv rfl (r_ldC (o := k435 * 15) u64 sz64 rfl (us := [(iv ((el w_.tasks k435).c.kind)), (.string ((el w_.tasks k435).c.doc)), (iv ((el w_.tasks k435).c.client)), (iv ((el w_.tasks k435).c.seq)), (iv ((el w_.tasks k435).c.n)), s448.v, s450.v, (iv ((el w_.tasks k435).pc)), (iv ((el w_.tasks k435).inv)), (iv ((el w_.tasks k435).lin)), (iv ((el w_.tasks k435).res)), (iv ((el w_.tasks k435).a.code)), (iv ((el w_.tasks k435).a.rev)), s452.v, s454.v]) rfl (hM.seeR m8) hi446 ⟨(Cs.get (i := k435) (j := 0) (hM.seeR m8) (fun _ => rfl) hi446 rfl), (Cs.get (i := k435) (j := 1) (hM.seeR m8) (fun _ => rfl) hi446 rfl), (Cs.get (i := k435) (j := 2) (hM.seeR m8) (fun _ => rfl) hi446 rfl), (Cs.get (i := k435) (j := 3) (hM.seeR m8) (fun _ => rfl) hi446 rfl), (Cs.get (i := k435) (j := 4) (hM.seeR m8) (fun _ => rfl) hi446 rfl), (hc449 _ (Rel.refl _)), (hc451 _ (Rel.refl _)), (Cs.get (i := k435) (j := 7) (hM.seeR m8) (fun _ => rfl) hi446 rfl), (Cs.get (i := k435) (j := 8) (hM.seeR m8) (fun _ => rfl) hi446 rfl), (Cs.get (i := k435) (j := 9) (hM.seeR m8) (fun _ => rfl) hi446 rfl), (Cs.get (i := k435) (j := 10) (hM.seeR m8) (fun _ => rfl) hi446 rfl), (Cs.get (i := k435) (j := 11) (hM.seeR m8) (fun _ => rfl) hi446 rfl), (Cs.get (i := k435) (j := 12) (hM.seeR m8) (fun _ => rfl) hi446 rfl), (hc453 _ (Rel.refl _)), (hc455 _ (Rel.refl _)), trivial⟩) ?_
 refine w_ex rfl (x_alloc sz64 hM ?_); intro b457 w456 hR458 hM
 refine was rfl rfl ?_
 refine w_exu (x_stB #[(iv ((el w_.tasks k435).c.kind)), (.string ((el w_.tasks k435).c.doc)), (iv ((el w_.tasks k435).c.client)), (iv ((el w_.tasks k435).c.seq)), (iv ((el w_.tasks k435).c.n)), s448.v, s450.v, (iv ((el w_.tasks k435).pc)), (iv ((el w_.tasks k435).inv)), (iv ((el w_.tasks k435).lin)), (iv ((el w_.tasks k435).res)), (iv ((el w_.tasks k435).a.code)), (iv ((el w_.tasks k435).a.rev)), s452.v, s454.v] sz64 rfl rfl rfl rfl rfl rfl hM ?_); intro w461 hM
 refine wl_sq <| wc_seq <| wc_sr <| wv rfl (r_ldBS u64 sz64 rfl (us := [(iv ((el w_.tasks k435).c.kind)), (.string ((el w_.tasks k435).c.doc)), (iv ((el w_.tasks k435).c.client)), (iv ((el w_.tasks k435).c.seq)), (iv ((el w_.tasks k435).c.n)), s448.v, s450.v, (iv ((el w_.tasks k435).pc)), (iv ((el w_.tasks k435).inv)), (iv ((el w_.tasks k435).lin)), (iv ((el w_.tasks k435).res)), (iv ((el w_.tasks k435).a.code)), (iv ((el w_.tasks k435).a.rev)), s452.v, s454.v]) rfl hM m0 rfl) <| bs hx fun _ h465 hx => w_cv hM rfl rfl (fun X S oL hS hR hO => ct_impl_TaskOk _ X S (el w_.tasks k435) s448 s450 s452 s454 hS (hR _ m3) (hR _ m2) (hR _ m1) (hR _ m0) oL h465) fun _ hM => wv rfl (r_not rfl) <| wl_sq ?_
 refine wcx hx rfl (fun hx => ?_) (fun hx => ?_)
 refine wc_sr <| was rfl rfl <| wl_sq <| wc_ret <| sq_ret <| bk_ret <| sq_ret <| lp1_ret ?_
 cases hx
 obtain rfl := oi hx443
 replace hx := hx432
 refine bk_ret <| sq_ret ?_
 obtain rfl := oi hx
 exact fin_u [(bv false)] hM ⟨rfl, trivial⟩ rfl
 refine wc_skip <| sq_n <| wc_sr <| wv rfl (r_fld u64 rfl rfl sz3 rfl) <| wv rfl (r_ldB u3 rfl rfl hM m0 rfl) <| wv rfl (r_eql rfl rfl) <| wl_sq ?_
 refine wcx hx rfl (fun hx => ?_) (fun hx => ?_)
 refine wc_sr <| wv rfl (r_fld u64 rfl rfl sz59 rfl) <| wv rfl (r_fld u59 rfl rfl sz9 rfl) <| wv rfl (r_ldB u9 rfl rfl hM m0 rfl) <| wmv rfl rfl <| bs hx fun r478 h479 hx => w_cv hM rfl rfl (fun X S oL hS hR hO => ct_impl_StripeOf _ X S ((el w_.tasks k435).c.doc) (w_.locks.length : Int) hS  oL h479) fun _ hM => was rfl rfl <| wl_sq <| wc_seq <| wc_sr <| wmv rfl rfl <| wmv rfl rfl <| xgs hx fun hg486 hx => ?_
 have hi485 : r478.toNat < l433.length := by omega
 refine wv rfl (r_ixC u26 sz3 rfl rfl (hM.seeO m2) hg486) <| wv rfl (r_ld u3 rfl rfl (Cs.get (i := r478.toNat) (j := 0) (hM.seeO m2) (fun _ => rfl) hi485 rfl)) <| wv rfl (r_neq rfl rfl) <| wl_sq ?_
 refine wcx hx rfl (fun hx => ?_) (fun hx => ?_)
 refine wc_sr <| was rfl rfl <| wl_sq <| wc_ret <| sq_ret <| bk_ret <| sq_ret <| lp1_ret ?_
 cases hx
 obtain rfl := oi hx443
 replace hx := hx432
 refine bk_ret <| sq_ret ?_
 obtain rfl := oi hx
 exact fin_u [(bv false)] hM ⟨rfl, trivial⟩ rfl
 refine wc_skip <| sq_n <| wc_region <| wmv rfl rfl <| wmv rfl rfl <| wmv rfl rfl <| xgs hx fun hg496 hx => ?_
 have hi495 : r478.toNat < l433.length := by omega
 refine wv rfl (r_ixC u26 sz3 rfl rfl (hM.seeO m2) hg496) ?_
 replace hM := hM.p2
 refine w_exu (x_stE (f := fI) (k := 1) (L := l433) (i := r478.toNat) (j := 0) (k435 : Int) [cI (k435 : Int)] sz3 (fun _ => rfl) rfl rfl hi495 rfl rfl rfl rfl rfl (fun _ => zP (pV _ rfl) zN) hM ?_); intro w497 hM
 refine wl_nil <| bk_n <| sq_n <| wc_region <| wv rfl (r_add rfl rfl ⟨by omega, by omega⟩) <| wmv rfl rfl <| wl_nil ?_
 cases hx
 replace hM := hM.p2
 replace hM := hM.t2
 have hM := hM.fewer (rsC m4 (rsC m5 (rsC m6 (rsC m7 (rsC m8 rsN)))))
 replace hM : St ⟨w, X, S⟩ [oBox b331 #[(bv w_.h.shut), s_w__1.v, s_w__2.v, (iv w_.h.last), s_w__4.v, s_w__5.v, s_w__6.v, (iv w_.step)] 40, oC (cSl 1 fI (l433.set r478.toNat (k435 : Int))) s394.v] [rV s_w__1.v (cSl 5 fDDoc w_.h.docs), rV s_w__2.v (cSl 6 fDSub w_.h.subs), rV s_w__4.v (cSl 1 fI w_.locks), rV s_w__5.v (cSl 2 fDQueue w_.queues), rV s_w__6.v (cSl 15 fDTask w_.tasks)] _ := hM
 exact lp_end (m441, k435 + 1, l433.set r478.toNat (k435 : Int)) (Nat.lt_succ_self _) ⟨rfl, rfl, rfl, rfl, rfl, rfl, trivial⟩ ⟨hM, hx443, hk436⟩
 refine wc_skip <| bk_n <| sq_n <| wc_region <| wv rfl (r_add rfl rfl ⟨by omega, by omega⟩) <| wmv rfl rfl <| wl_nil ?_
 obtain rfl := oi hx
 replace hM := hM.p2.p2
 replace hM := hM.t2
 have hM := hM.fewer (rsC m4 (rsC m5 (rsC m6 (rsC m7 (rsC m8 rsN)))))
 replace hM : St ⟨w, X, S⟩ [oBox b331 #[(bv w_.h.shut), s_w__1.v, s_w__2.v, (iv w_.h.last), s_w__4.v, s_w__5.v, s_w__6.v, (iv w_.step)] 40, oC (cSl 1 fI l433) s394.v] [rV s_w__1.v (cSl 5 fDDoc w_.h.docs), rV s_w__2.v (cSl 6 fDSub w_.h.subs), rV s_w__4.v (cSl 1 fI w_.locks), rV s_w__5.v (cSl 2 fDQueue w_.queues), rV s_w__6.v (cSl 15 fDTask w_.tasks)] _ := hM
 exact lp_end (m441, k435 + 1, l433) (Nat.lt_succ_self _) ⟨rfl, rfl, rfl, rfl, rfl, rfl, trivial⟩ ⟨hM, hx443, hk436⟩
 replace hc440 := of_decide_eq_false hc440
 obtain rfl := eachN_end hx hk436 hc440
 refine wc_exit <| sq_exit <| lp1_exit ?_
 replace hx := hx432
 refine bk_here <| sq_n <| wc_sr <| wmv rfl rfl <| wv rfl (r_fld u40 rfl rfl sz26 rfl) <| wv rfl (r_ldB u26 rfl rfl hM m0 rfl) <| bs hx fun _ h507 hx => w_cv hM rfl rfl (fun X S oL hS hR hO => ct_slices_Equal_int_int _ X S l433 s394 w_.locks s_w__4 hS (seeA hO m1) (hR _ m2) oL h507) fun _ hM => wmv rfl rfl <| bs hx fun c510 hx hx519 => ?_
 refine wl_midH 6 [(83, (bv c510)), (1, (pt b331 0))] hM ?_ fun w520 hM => ?_
 refine cs2 hx (fun hg511 hx => ?_) (fun hg511 hx => ?_)
 refine gv rfl hg511 rfl (r_fld u40 rfl rfl sz38 rfl) <| gv rfl hg511 rfl (r_ldB u38 rfl rfl hM m0 rfl) <| gv rfl hg511 rfl (r_fld u40 rfl rfl sz3 rfl) <| gv rfl hg511 rfl (r_ldB u3 rfl rfl hM m0 rfl) <| bs hx fun _ h526 hx => g_cv hM hg511 rfl rfl rfl (fun X S oL hS hR hO => ct_impl_stepsOk _ X S w_.tasks s_w__6 w_.step hS (hR _ m4) oL h526) fun _ hM => wv rfl (p_t rfl hg511 rfl) ?_
 obtain rfl := oi hx
 exact mid_h ⟨rfl, rfl, trivial⟩ hM
 refine gn hg511 rfl rfl <| gn hg511 rfl rfl <| gn hg511 rfl rfl <| gn hg511 rfl rfl <| gn hg511 rfl rfl <| wv rfl (p_f rfl hg511 rfl) ?_
 obtain rfl := oi hx
 exact mid_h ⟨rfl, rfl, trivial⟩ hM
 replace hx := hx519
 refine wmv rfl rfl <| bs hx fun c529 hx hx535 => ?_
 refine wl_midH 3 [(87, (bv c529))] hM ?_ fun w536 hM => ?_
 refine cs2 hx (fun hg530 hx => ?_) (fun hg530 hx => ?_)
 refine gv rfl hg530 rfl (r_ldBS u40 sz40 rfl (us := [(bv w_.h.shut), s_w__1.v, s_w__2.v, (iv w_.h.last), s_w__4.v, s_w__5.v, s_w__6.v, (iv w_.step)]) rfl hM m0 rfl) <| bs hx fun _ h539 hx => g_cv hM hg530 rfl rfl rfl (fun X S oL hS hR hO => ct_impl_queuesOk _ X S w_ s_w__1 s_w__2 s_w__4 s_w__5 s_w__6 hS (hR _ m0) (hR _ m1) (hR _ m2) (hR _ m3) (hR _ m4) oL h539) fun _ hM => wv rfl (p_t rfl hg530 rfl) ?_
 obtain rfl := oi hx
 exact mid_h ⟨rfl, trivial⟩ hM
 refine gn hg530 rfl rfl <| gn hg530 rfl rfl <| wv rfl (p_f rfl hg530 rfl) ?_
 obtain rfl := oi hx
 exact mid_h ⟨rfl, trivial⟩ hM
 replace hx := hx535
 refine was rfl rfl <| wl_sq <| wc_ret ?_
 obtain rfl := oi hx
 exact fin_u [(bv c529)] hM ⟨rfl, trivial⟩ rfl

noncomputable def x_spec_l14Has_b0 (n : Int) (_l : List Int) (_k5 : Nat) (x28 : Int) : Option (Lr Unit (Sum Unit Bool)) :=
  bif decide (x28 = n) then (some (Lr.out (Sum.inr (true)))) else (some (Lr.go ()))
noncomputable def x_spec_l14Has_f0 (n : Int) (l : List Int) (k5 : Nat) (_s29 : Unit) : Option (Lr Unit (Sum Unit Bool)) := x_spec_l14Has_b0 n l k5 (el l k5)
noncomputable def x_spec_l14Has (l : List Int) (n : Int) : Option Bool :=
  Option.bind (eachN (x_spec_l14Has_f0 n l) (fun (_s29 : Unit) => (Sum.inl () : Sum Unit Bool)) l.length 0 ()) fun (y30 : Sum Unit Bool) => Sum.elim (fun _y31 => some false) (fun y32 => some y32) y30
theorem ct_spec_l14Has (w : World) (X S : Bs) (l : List Int) (s_l : Sv) (n : Int) (hS : SX X S w) (a_l_0 : (cSl 1 fI l).rd S w s_l.v) (oL : Sep [] X w) {r : Bool} (hx : x_spec_l14Has l n = some r) :
 Ret Tryz.prog 100 [s_l.v, (iv n)] w (KV X S w (bv r)) := by
 unfold x_spec_l14Has at hx
 refine enter Tryz.func100 rfl Tryz.ntmps100 (by kernel_rfl) rfl ?_
 have hM := (St.enter oL hS).addV a_l_0
 refine wc_sr <| was rfl rfl <| wl_sq <| wc_seq <| wc_sr <| wmv rfl rfl <| wv rfl (r_lenC u26 rfl (hM.seeR m0)) <| wmv rfl rfl <| wl_sq <| wc_block <| bs hx fun y38 hx hx39 => ?_
 have hl43 := Cs.le (hM.seeR m0)
 refine wc_loop (un fun (m40 : Nat) => fun (k41 : Nat) => [(1, (iv n)), (7, s_l.v), (8, (iv (l.length : Int))), (9, (iv (k41 : Int)))]) (un fun (m40 : Nat) => fun (k41 : Nat) w' => St ⟨w, X, S⟩ [] [rV s_l.v (cSl 1 fI l)] w' ∧ eachN _ _ m40 k41 () = some y38 ∧ k41 + m40 = l.length) (fun p => p.1) (l.length, 0) ⟨rfl, rfl, rfl, rfl, trivial⟩ ⟨hM, hx, Nat.zero_add _⟩ ?_
 rintro ⟨m40, k41⟩ w44 ⟨hM, hx, hk42⟩
 refine wc_sr <| wv rfl (r_lss rfl rfl) <| wl_sq <| wc_seq ?_
 refine wc_cond rfl (fun hc46 => ?_) (fun hc46 => ?_)
 replace hc46 := of_decide_eq_true hc46
 obtain ⟨m47, z48, rfl, hk42, hx, hx49⟩ := eachN_step hx hk42 hc46
 unfold x_spec_l14Has_f0 x_spec_l14Has_b0 at hx
 try dsimp only at hx
 refine wc_skip <| sq_n <| wc_seq <| wc_block <| wc_sr ?_
 have hi51 : k41 < l.length := by omega
 refine wv rfl (r_ixC u26 sz3 rfl rfl (hM.seeR m0) ⟨by omega, hc46⟩) <| wv rfl (r_ld u3 rfl rfl (Cs.get (i := k41) (j := 0) (hM.seeR m0) (fun _ => rfl) hi51 rfl)) <| was rfl rfl <| wl_sq <| wc_sr <| wmv rfl rfl <| wmv rfl rfl <| wv rfl (r_eql rfl rfl) <| wl_sq ?_
 refine wcx hx rfl (fun hx => ?_) (fun hx => ?_)
 refine wc_sr <| was rfl rfl <| wl_sq <| wc_ret <| bk_ret <| sq_ret <| lp1_ret ?_
 cases hx
 obtain rfl := oi hx49
 replace hx := hx39
 refine bk_ret <| sq_ret ?_
 obtain rfl := oi hx
 exact fin_u [(bv true)] hM ⟨rfl, trivial⟩ rfl
 refine wc_skip <| bk_n <| sq_n <| wc_region <| wv rfl (r_add rfl rfl ⟨by omega, by omega⟩) <| wmv rfl rfl <| wl_nil ?_
 cases hx
 exact lp_end (m47, k41 + 1) (Nat.lt_succ_self _) ⟨rfl, rfl, rfl, rfl, trivial⟩ ⟨hM, hx49, hk42⟩
 replace hc46 := of_decide_eq_false hc46
 obtain rfl := eachN_end hx hk42 hc46
 refine wc_exit <| sq_exit <| lp1_exit ?_
 replace hx := hx39
 refine bk_here <| sq_n <| wc_sr <| was rfl rfl <| wl_sq <| wc_ret ?_
 obtain rfl := oi hx
 exact fin_u [(bv false)] hM ⟨rfl, trivial⟩ rfl

noncomputable def x_spec_l14Steps_b1 (w_ : DWorld) (_k15 : Nat) (_k164 : Nat) (x240 : Int) (seen165 : List Int) : Option (Lr (List Int) (Sum (List Int) Bool)) :=
  bif decide (x240 = (-1)) then (some (Lr.go seen165)) else (Option.bind (bif decide (w_.step ≤ x240) then (some true) else (Option.bind (x_spec_l14Has seen165 x240) fun r227 => some r227)) fun c218 => bif c218 then (some (Lr.out (Sum.inr (false)))) else (xg (seen165.length < 1099511627776) <| some (Lr.go (seen165 ++ [x240]))))
noncomputable def x_spec_l14Steps_f1 (w_ : DWorld) (k15 : Nat) (k164 : Nat) (s241 : List Int) : Option (Lr (List Int) (Sum (List Int) Bool)) := x_spec_l14Steps_b1 w_ k15 k164 (el [(el w_.tasks k15).inv, (el w_.tasks k15).lin, (el w_.tasks k15).res] k164) s241
noncomputable def x_spec_l14Steps_b0 (w_ : DWorld) (k15 : Nat) (x249 : DTask) (seen16 : List Int) : Option (Lr (List Int) (Sum Unit Bool)) :=
  Option.bind (eachN (x_spec_l14Steps_f1 w_ k15) (fun (s241 : List Int) => (Sum.inl s241 : Sum (List Int) Bool)) [x249.inv, x249.lin, x249.res].length 0 seen16) fun (y242 : Sum (List Int) Bool) => Sum.elim (fun y243 => some (Lr.go y243)) (fun y244 => some (Lr.out (Sum.inr (y244)))) y242
noncomputable def x_spec_l14Steps_f0 (w_ : DWorld) (k15 : Nat) (s250 : List Int) : Option (Lr (List Int) (Sum Unit Bool)) := x_spec_l14Steps_b0 w_ k15 (el w_.tasks k15) s250
noncomputable def x_spec_l14Steps (w_ : DWorld) : Option Bool :=
  Option.bind (eachN (x_spec_l14Steps_f0 w_) (fun (_s250 : List Int) => (Sum.inl () : Sum Unit Bool)) w_.tasks.length 0 []) fun (y251 : Sum Unit Bool) => Sum.elim (fun _y252 => some true) (fun y253 => some y253) y251
theorem ct_spec_l14Steps (w : World) (X S : Bs) (w_ : DWorld) (s_w__1 : Sv) (s_w__2 : Sv) (s_w__4 : Sv) (s_w__5 : Sv) (s_w__6 : Sv) (hS : SX X S w) (a_w__1 : (cSl 5 fDDoc w_.h.docs).rd S w s_w__1.v) (a_w__2 : (cSl 6 fDSub w_.h.subs).rd S w s_w__2.v) (a_w__4 : (cSl 1 fI w_.locks).rd S w s_w__4.v) (a_w__5 : (cSl 2 fDQueue w_.queues).rd S w s_w__5.v) (a_w__6 : (cSl 15 fDTask w_.tasks).rd S w s_w__6.v) (oL : Sep [] X w) {r : Bool} (hx : x_spec_l14Steps w_ = some r) :
 Ret Tryz.prog 48 [(.agg #[(bv w_.h.shut), s_w__1.v, s_w__2.v, (iv w_.h.last), s_w__4.v, s_w__5.v, s_w__6.v, (iv w_.step)])] w (KV X S w (bv r)) := by
 unfold x_spec_l14Steps at hx
 refine enter Tryz.func48 rfl Tryz.ntmps48 (by kernel_rfl) rfl ?_
 have hM := (((((St.enter oL hS).addV a_w__1).addV a_w__2).addV a_w__4).addV a_w__5).addV a_w__6
 refine wc_sr ?_
 refine w_ex rfl (x_box rfl hM ?_); intro b256 w255 hR257 hM
 refine was rfl rfl <| wl_sq <| wc_sr ?_
 refine w_ex rfl (x_empty (f := fI) u26 sz3 (fun _ => rfl) hM ?_); intro s261 w260 hR262 hM
 refine was rfl rfl <| wl_sq <| wc_seq <| wc_sr <| wv rfl (r_fld u40 rfl rfl sz38 rfl) <| wv rfl (r_ldB u38 rfl rfl hM m1 rfl) <| wv rfl (r_lenC u38 rfl (hM.seeR m0)) <| wmv rfl rfl <| wl_sq <| wc_block <| bs hx fun y269 hx hx270 => ?_
 replace hM := hM.p1
 have hM := hM.fewer (rsC m4 (rsC m3 (rsC m2 (rsC m1 (rsC m0 rsN)))))
 replace hM : St ⟨w, X, S⟩ [oBox b256 #[(bv w_.h.shut), s_w__1.v, s_w__2.v, (iv w_.h.last), s_w__4.v, s_w__5.v, s_w__6.v, (iv w_.step)] 40, oC (cSl 1 fI ([] : List Int)) s261.v] [rV s_w__1.v (cSl 5 fDDoc w_.h.docs), rV s_w__2.v (cSl 6 fDSub w_.h.subs), rV s_w__4.v (cSl 1 fI w_.locks), rV s_w__5.v (cSl 2 fDQueue w_.queues), rV s_w__6.v (cSl 15 fDTask w_.tasks)] _ := hM
 have hl277 := Cs.le (hM.seeR m4)
 refine wc_loop (un fun (m274 : Nat) => un fun (k275 : Nat) => un fun (seen271 : List Int) => fun (s273 : Sv) => [(1, (pt b256 0)), (3, s273.v), (10, s_w__6.v), (11, (iv (w_.tasks.length : Int))), (12, (iv (k275 : Int)))]) (un fun (m274 : Nat) => un fun (k275 : Nat) => un fun (seen271 : List Int) => fun (s273 : Sv) w' => St ⟨w, X, S⟩ [oBox b256 #[(bv w_.h.shut), s_w__1.v, s_w__2.v, (iv w_.h.last), s_w__4.v, s_w__5.v, s_w__6.v, (iv w_.step)] 40, oC (cSl 1 fI seen271) s273.v] [rV s_w__1.v (cSl 5 fDDoc w_.h.docs), rV s_w__2.v (cSl 6 fDSub w_.h.subs), rV s_w__4.v (cSl 1 fI w_.locks), rV s_w__5.v (cSl 2 fDQueue w_.queues), rV s_w__6.v (cSl 15 fDTask w_.tasks)] w' ∧ eachN _ _ m274 k275 seen271 = some y269 ∧ k275 + m274 = w_.tasks.length) (fun p => p.1) (w_.tasks.length, 0, [], s261) ⟨rfl, rfl, rfl, rfl, rfl, trivial⟩ ⟨hM, hx, Nat.zero_add _⟩ ?_
 rintro ⟨m274, k275, seen271, s273⟩ w278 ⟨hM, hx, hk276⟩
 refine wc_sr <| wv rfl (r_lss rfl rfl) <| wl_sq <| wc_seq ?_
 refine wc_cond rfl (fun hc280 => ?_) (fun hc280 => ?_)
 replace hc280 := of_decide_eq_true hc280
 obtain ⟨m281, z282, rfl, hk276, hx, hx283⟩ := eachN_step hx hk276 hc280
 unfold x_spec_l14Steps_f0 x_spec_l14Steps_b0 at hx
 try dsimp only at hx
 refine wc_skip <| sq_n <| wc_seq <| wc_block <| wc_sr ?_
 have hi285 : k275 < w_.tasks.length := by omega
 refine wv rfl (r_ixC u38 sz64 rfl rfl (hM.seeR m4) ⟨by omega, hc280⟩) ?_
 obtain ⟨s287, hM, hc288⟩ := hM.leaf (i := k275) (j := 5) m4 (fun _ => rfl) hi285 rfl
 obtain ⟨s289, hM, hc290⟩ := hM.leaf (i := k275) (j := 6) m5 (fun _ => rfl) hi285 rfl
 obtain ⟨s291, hM, hc292⟩ := hM.leaf (i := k275) (j := 13) m6 (fun _ => rfl) hi285 rfl
 obtain ⟨s293, hM, hc294⟩ := hM.leaf (i := k275) (j := 14) m7 (fun _ => rfl) hi285 rfl
 refine wv rfl (r_ldC (o := k275 * 15) u64 sz64 rfl (us := [(iv ((el w_.tasks k275).c.kind)), (.string ((el w_.tasks k275).c.doc)), (iv ((el w_.tasks k275).c.client)), (iv ((el w_.tasks k275).c.seq)), (iv ((el w_.tasks k275).c.n)), s287.v, s289.v, (iv ((el w_.tasks k275).pc)), (iv ((el w_.tasks k275).inv)), (iv ((el w_.tasks k275).lin)), (iv ((el w_.tasks k275).res)), (iv ((el w_.tasks k275).a.code)), (iv ((el w_.tasks k275).a.rev)), s291.v, s293.v]) rfl (hM.seeR m8) hi285 ⟨(Cs.get (i := k275) (j := 0) (hM.seeR m8) (fun _ => rfl) hi285 rfl), (Cs.get (i := k275) (j := 1) (hM.seeR m8) (fun _ => rfl) hi285 rfl), (Cs.get (i := k275) (j := 2) (hM.seeR m8) (fun _ => rfl) hi285 rfl), (Cs.get (i := k275) (j := 3) (hM.seeR m8) (fun _ => rfl) hi285 rfl), (Cs.get (i := k275) (j := 4) (hM.seeR m8) (fun _ => rfl) hi285 rfl), (hc288 _ (Rel.refl _)), (hc290 _ (Rel.refl _)), (Cs.get (i := k275) (j := 7) (hM.seeR m8) (fun _ => rfl) hi285 rfl), (Cs.get (i := k275) (j := 8) (hM.seeR m8) (fun _ => rfl) hi285 rfl), (Cs.get (i := k275) (j := 9) (hM.seeR m8) (fun _ => rfl) hi285 rfl), (Cs.get (i := k275) (j := 10) (hM.seeR m8) (fun _ => rfl) hi285 rfl), (Cs.get (i := k275) (j := 11) (hM.seeR m8) (fun _ => rfl) hi285 rfl), (Cs.get (i := k275) (j := 12) (hM.seeR m8) (fun _ => rfl) hi285 rfl), (hc292 _ (Rel.refl _)), (hc294 _ (Rel.refl _)), trivial⟩) ?_
 refine w_ex rfl (x_alloc sz64 hM ?_); intro b296 w295 hR297 hM
 refine w_exu (x_stB #[(iv ((el w_.tasks k275).c.kind)), (.string ((el w_.tasks k275).c.doc)), (iv ((el w_.tasks k275).c.client)), (iv ((el w_.tasks k275).c.seq)), (iv ((el w_.tasks k275).c.n)), s287.v, s289.v, (iv ((el w_.tasks k275).pc)), (iv ((el w_.tasks k275).inv)), (iv ((el w_.tasks k275).lin)), (iv ((el w_.tasks k275).res)), (iv ((el w_.tasks k275).a.code)), (iv ((el w_.tasks k275).a.rev)), s291.v, s293.v] sz64 rfl rfl rfl rfl rfl rfl hM ?_); intro w299 hM
 refine wl_sq <| wc_sr <| wv rfl (r_fld u64 rfl rfl sz3 rfl) <| wv rfl (r_ldB u3 rfl rfl hM m0 rfl) <| wv rfl (r_fld u64 rfl rfl sz3 rfl) <| wv rfl (r_ldB u3 rfl rfl hM m0 rfl) <| wv rfl (r_fld u64 rfl rfl sz3 rfl) <| wv rfl (r_ldB u3 rfl rfl hM m0 rfl) ?_
 refine w_ex rfl (x_lit (f := fI) (own := []) [(el w_.tasks k275).inv, (el w_.tasks k275).lin, (el w_.tasks k275).res] [(iv ((el w_.tasks k275).inv)), (iv ((el w_.tasks k275).lin)), (iv ((el w_.tasks k275).res))] 3 u26 sz3 (fun _ => rfl) rfl rfl rfl rfl rfl (by kernel_rfl) (fun _ => zP (pV _ rfl) (zP (pV _ rfl) (zP (pV _ rfl) zN))) hM ?_); intro s308 w307 hR309 hM
 refine wv rfl (r_lenC u26 rfl (hM.seeO m0)) <| wmv rfl rfl <| wl_sq <| wc_block <| bs hx fun y313 hx hx314 => ?_
 replace hM := hM.p3.p1.p3
 replace hM := hM.t3
 have hM := hM.fewer (rsC m4 (rsC m5 (rsC m6 (rsC m7 (rsC m8 rsN)))))
 replace hM : St ⟨w, X, S⟩ [oBox b256 #[(bv w_.h.shut), s_w__1.v, s_w__2.v, (iv w_.h.last), s_w__4.v, s_w__5.v, s_w__6.v, (iv w_.step)] 40, oC (cSl 1 fI [(el w_.tasks k275).inv, (el w_.tasks k275).lin, (el w_.tasks k275).res]) s308.v, oC (cSl 1 fI seen271) s273.v] [rV s_w__1.v (cSl 5 fDDoc w_.h.docs), rV s_w__2.v (cSl 6 fDSub w_.h.subs), rV s_w__4.v (cSl 1 fI w_.locks), rV s_w__5.v (cSl 2 fDQueue w_.queues), rV s_w__6.v (cSl 15 fDTask w_.tasks)] _ := hM
 have hl321 := Cs.le (hM.seeO m1)
 refine wc_loop (un fun (m318 : Nat) => un fun (k319 : Nat) => un fun (seen315 : List Int) => fun (s317 : Sv) => [(1, (pt b256 0)), (3, s317.v), (10, s_w__6.v), (11, (iv (w_.tasks.length : Int))), (12, (iv (k275 : Int))), (22, s308.v), (23, (iv ([(el w_.tasks k275).inv, (el w_.tasks k275).lin, (el w_.tasks k275).res].length : Int))), (24, (iv (k319 : Int)))]) (un fun (m318 : Nat) => un fun (k319 : Nat) => un fun (seen315 : List Int) => fun (s317 : Sv) w' => St ⟨w, X, S⟩ [oBox b256 #[(bv w_.h.shut), s_w__1.v, s_w__2.v, (iv w_.h.last), s_w__4.v, s_w__5.v, s_w__6.v, (iv w_.step)] 40, oC (cSl 1 fI [(el w_.tasks k275).inv, (el w_.tasks k275).lin, (el w_.tasks k275).res]) s308.v, oC (cSl 1 fI seen315) s317.v] [rV s_w__1.v (cSl 5 fDDoc w_.h.docs), rV s_w__2.v (cSl 6 fDSub w_.h.subs), rV s_w__4.v (cSl 1 fI w_.locks), rV s_w__5.v (cSl 2 fDQueue w_.queues), rV s_w__6.v (cSl 15 fDTask w_.tasks)] w' ∧ eachN _ _ m318 k319 seen315 = some y313 ∧ k319 + m318 = [(el w_.tasks k275).inv, (el w_.tasks k275).lin, (el w_.tasks k275).res].length) (fun p => p.1) ([(el w_.tasks k275).inv, (el w_.tasks k275).lin, (el w_.tasks k275).res].length, 0, seen271, s273) ⟨rfl, rfl, rfl, rfl, rfl, rfl, rfl, rfl, trivial⟩ ⟨hM, hx, Nat.zero_add _⟩ ?_
 rintro ⟨m318, k319, seen315, s317⟩ w322 ⟨hM, hx, hk320⟩
 refine wc_sr <| wv rfl (r_lss rfl rfl) <| wl_sq <| wc_seq ?_
 refine wc_cond rfl (fun hc324 => ?_) (fun hc324 => ?_)
 replace hc324 := of_decide_eq_true hc324
 obtain ⟨m325, z326, rfl, hk320, hx, hx327⟩ := eachN_step hx hk320 hc324
 unfold x_spec_l14Steps_f1 x_spec_l14Steps_b1 at hx
 try dsimp only at hx
 refine wc_skip <| sq_n <| wc_seq <| wc_block <| wc_sr ?_
 have hi329 : k319 < [(el w_.tasks k275).inv, (el w_.tasks k275).lin, (el w_.tasks k275).res].length := by omega
 refine wv rfl (r_ixC u26 sz3 rfl rfl (hM.seeO m1) ⟨by omega, hc324⟩) <| wv rfl (r_ld u3 rfl rfl (Cs.get (i := k319) (j := 0) (hM.seeO m1) (fun _ => rfl) hi329 rfl)) <| was rfl rfl <| wl_sq <| wc_seq <| wc_sr <| wmv rfl rfl <| wv rfl (r_eql rfl rfl) <| wl_sq ?_
 refine wcx hx rfl (fun hx => ?_) (fun hx => ?_)
 refine wc_exit <| sq_exit <| bk_here <| sq_n <| wc_region <| wv rfl (r_add rfl rfl ⟨by omega, by omega⟩) <| wmv rfl rfl <| wl_nil ?_
 obtain rfl := oi hx
 exact lp_end (m325, k319 + 1, seen315, s317) (Nat.lt_succ_self _) ⟨rfl, rfl, rfl, rfl, rfl, rfl, rfl, rfl, trivial⟩ ⟨hM, hx327, hk320⟩
 refine wc_skip <| sq_n <| wc_seq <| wc_sr <| wmv rfl rfl <| wv rfl (r_fld u40 rfl rfl sz3 rfl) <| wv rfl (r_ldB u3 rfl rfl hM m0 rfl) <| wv rfl (r_geq rfl rfl) <| wmv rfl rfl <| bs hx fun c342 hx hx349 => ?_
 refine wl_midH 4 [(38, (bv c342)), (1, (pt b256 0)), (3, s317.v), (7, (iv (el [(el w_.tasks k275).inv, (el w_.tasks k275).lin, (el w_.tasks k275).res] k319))), (10, s_w__6.v), (11, (iv (w_.tasks.length : Int))), (12, (iv (k275 : Int))), (22, s308.v), (23, (iv ([(el w_.tasks k275).inv, (el w_.tasks k275).lin, (el w_.tasks k275).res].length : Int))), (24, (iv (k319 : Int)))] hM ?_ fun w350 hM => ?_
 refine cs2 hx (fun hg343 hx => ?_) (fun hg343 hx => ?_)
 refine gn hg343 rfl rfl <| gn hg343 rfl rfl <| gn hg343 rfl rfl <| wv rfl (p_t rfl hg343 rfl) ?_
 obtain rfl := oi hx
 exact mid_h ⟨rfl, rfl, rfl, rfl, rfl, rfl, rfl, rfl, rfl, rfl, trivial⟩ hM
 refine gv rfl hg343 rfl (r_move rfl) <| gv rfl hg343 rfl (r_move rfl) <| bs hx fun _ h354 hx => g_cv hM hg343 rfl rfl rfl (fun X S oL hS hR hO => ct_spec_l14Has _ X S seen315 s317 (el [(el w_.tasks k275).inv, (el w_.tasks k275).lin, (el w_.tasks k275).res] k319) hS (seeA hO m2) oL h354) fun _ hM => wv rfl (p_f rfl hg343 rfl) ?_
 obtain rfl := oi hx
 exact mid_h ⟨rfl, rfl, rfl, rfl, rfl, rfl, rfl, rfl, rfl, rfl, trivial⟩ hM
 replace hx := hx349
 refine wl_sq ?_
 refine wcx hx rfl (fun hx => ?_) (fun hx => ?_)
 refine wc_sr <| was rfl rfl <| wl_sq <| wc_ret <| sq_ret <| bk_ret <| sq_ret <| lp1_ret ?_
 cases hx
 obtain rfl := oi hx327
 replace hx := hx314
 refine bk_ret <| bk_ret <| sq_ret <| lp1_ret ?_
 cases hx
 obtain rfl := oi hx283
 replace hx := hx270
 refine bk_ret <| sq_ret ?_
 obtain rfl := oi hx
 exact fin_u [(bv false)] hM ⟨rfl, trivial⟩ rfl
 refine wc_skip <| sq_n <| wc_region <| wmv rfl rfl <| wmv rfl rfl ?_
 replace hM := hM.p2
 refine xgs hx fun hg363 hx => ?_
 refine w_push (f := fI) (el [(el w_.tasks k275).inv, (el w_.tasks k275).lin, (el w_.tasks k275).res] k319) rfl rfl u26 sz3 rfl rfl rfl rfl (fun _ => rfl) hM (fun _ => zP (pV _ rfl) zN) rfl hg363 rfl ?_; intro u361 s362 w360 hM
 refine was rfl rfl <| wl_nil <| bk_n <| sq_n <| wc_region <| wv rfl (r_add rfl rfl ⟨by omega, by omega⟩) <| wmv rfl rfl <| wl_nil ?_
 cases hx
 replace hM := hM.p2.p2
 exact lp_end (m325, k319 + 1, seen315 ++ [el [(el w_.tasks k275).inv, (el w_.tasks k275).lin, (el w_.tasks k275).res] k319], s362) (Nat.lt_succ_self _) ⟨rfl, rfl, rfl, rfl, rfl, rfl, rfl, rfl, trivial⟩ ⟨hM, hx327, hk320⟩
 replace hc324 := of_decide_eq_false hc324
 obtain rfl := eachN_end hx hk320 hc324
 refine wc_exit <| sq_exit <| lp1_exit ?_
 replace hx := hx314
 refine bk_here <| bk_n <| sq_n <| wc_region <| wv rfl (r_add rfl rfl ⟨by omega, by omega⟩) <| wmv rfl rfl <| wl_nil ?_
 obtain rfl := oi hx
 replace hM := hM.p2.p1
 replace hM := hM.t2
 exact lp_end (m281, k275 + 1, seen315, s317) (Nat.lt_succ_self _) ⟨rfl, rfl, rfl, rfl, rfl, trivial⟩ ⟨hM, hx283, hk276⟩
 replace hc280 := of_decide_eq_false hc280
 obtain rfl := eachN_end hx hk276 hc280
 refine wc_exit <| sq_exit <| lp1_exit ?_
 replace hx := hx270
 refine bk_here <| sq_n <| wc_sr <| was rfl rfl <| wl_sq <| wc_ret ?_
 obtain rfl := oi hx
 exact fin_u [(bv true)] hM ⟨rfl, trivial⟩ rfl

noncomputable def x_spec_Fnv_b0 (s : ByteArray) (h4 : Int) (i5 : Int) : Option (Lr (Int × Int) Int) :=
  bif decide (i5 < (s.size : Int)) then (xg (0 ≤ i5 ∧ i5 < (s.size : Int)) <| xg (inI ((bXor h4 ((sget s i5.toNat).toNat : Int)) * 16777619)) <| xg (0 ≤ ((bXor h4 ((sget s i5.toNat).toNat : Int)) * 16777619) ∧ 0 < (4294967296 : Int)) <| xg (inI (i5 + 1)) <| some (Lr.go (((bXor h4 ((sget s i5.toNat).toNat : Int)) * 16777619) % 4294967296, i5 + 1))) else (some (Lr.out h4))
noncomputable def x_spec_Fnv_f0 (s : ByteArray) (s46 : Int × Int) : Option (Lr (Int × Int) Int) := x_spec_Fnv_b0 s s46.1 s46.2
noncomputable def x_spec_Fnv (s : ByteArray) : Option Int :=
  Option.bind (iter (x_spec_Fnv_f0 s) (2166136261, 0)) fun (y47 : Int) => some y47
theorem ct_spec_Fnv (w : World) (X S : Bs) (s : ByteArray) (hS : SX X S w)  (oL : Sep [] X w) {r : Int} (hx : x_spec_Fnv s = some r) :
 Ret Tryz.prog 144 [(.string s)] w (KV X S w (iv r)) := by
 unfold x_spec_Fnv at hx
 refine enter Tryz.func144 rfl Tryz.ntmps144 (by kernel_rfl) rfl ?_
 have hM := St.enter oL hS
 refine wc_sr <| was rfl rfl <| wl_sq <| wc_sr <| was rfl rfl <| wl_sq <| wc_seq <| wc_sr <| was rfl rfl <| wl_sq <| wc_block <| bs hx fun y53 hx hx54 => ?_
 obtain ⟨m59, hx⟩ := iter_run hx
 refine wc_loop (un fun (m57 : Nat) => un fun (h55 : Int) => fun (i56 : Int) => [(0, (.string s)), (3, (iv h55)), (4, (iv i56))]) (un fun (m57 : Nat) => un fun (h55 : Int) => fun (i56 : Int) w' => St ⟨w, X, S⟩ [] [] w' ∧ iterN _ m57 (h55, i56) = some y53) (fun p => p.1) (m59, 2166136261, 0) ⟨rfl, rfl, rfl, trivial⟩ ⟨hM, hx⟩ ?_
 rintro ⟨m57, h55, i56⟩ w60 ⟨hM, hx⟩
 obtain ⟨m61, z62, rfl, hx, hx63⟩ := iterN_step hx
 unfold x_spec_Fnv_f0 x_spec_Fnv_b0 at hx
 try dsimp only at hx
 refine wc_seq <| wc_sr <| wmv rfl rfl <| wmv rfl rfl <| wv rfl (r_lens u9 rfl) <| wv rfl (r_lss rfl rfl) <| wl_sq ?_
 refine wcx hx rfl (fun hx => ?_) (fun hx => ?_)
 refine wc_skip <| sq_n <| wc_seq <| wc_block <| wc_region <| wmv rfl rfl <| wmv rfl rfl <| wmv rfl rfl <| xgs hx fun hg73 hx => wv rfl (r_sidx u9 rfl rfl hg73) <| wv rfl (r_cvt u5 u3 rfl (u8_cvt _)) <| wv rfl (r_xor rfl rfl) <| xgs hx fun hg77 hx => wv rfl (r_mul rfl rfl hg77) ?_
 refine xgs hx fun hg79 hx => wv rfl (r_rem rfl rfl hg79) <| was rfl rfl <| wl_nil <| bk_n <| sq_n <| wc_region <| wmv rfl rfl <| xgs hx fun hg83 hx => wv rfl (r_add rfl rfl hg83) <| was rfl rfl <| wl_nil ?_
 cases hx
 exact lp_end (m61, ((bXor h55 ((sget s i56.toNat).toNat : Int)) * 16777619) % 4294967296, i56 + 1) (Nat.lt_succ_self _) ⟨rfl, rfl, rfl, trivial⟩ ⟨hM, hx63⟩
 refine wc_exit <| sq_exit <| lp1_exit ?_
 cases hx
 obtain rfl := oi hx63
 replace hx := hx54
 refine bk_here <| sq_n <| wc_sr <| wmv rfl rfl <| was rfl rfl <| wl_sq <| wc_ret ?_
 obtain rfl := oi hx
 exact fin_u [(iv h55)] hM ⟨rfl, trivial⟩ rfl

noncomputable def x_spec_StripeOf (name : ByteArray) (n : Int) : Option Int :=
  bif decide (n < 1) then (some 0) else (Option.bind (x_spec_Fnv name) fun r6 => xg (0 ≤ r6 ∧ 0 < n) <| some (r6 % n))
theorem ct_spec_StripeOf (w : World) (X S : Bs) (name : ByteArray) (n : Int) (hS : SX X S w)  (oL : Sep [] X w) {r : Int} (hx : x_spec_StripeOf name n = some r) :
 Ret Tryz.prog 101 [(.string name), (iv n)] w (KV X S w (iv r)) := by
 unfold x_spec_StripeOf at hx
 refine enter Tryz.func101 rfl Tryz.ntmps101 (by kernel_rfl) rfl ?_
 have hM := St.enter oL hS
 refine wc_sr <| was rfl rfl <| wl_sq <| wc_seq <| wc_sr <| wmv rfl rfl <| wv rfl (r_lss rfl rfl) <| wl_sq ?_
 refine wcx hx rfl (fun hx => ?_) (fun hx => ?_)
 refine wc_sr <| was rfl rfl <| wl_sq <| wc_ret <| sq_ret ?_
 obtain rfl := oi hx
 exact fin_u [(iv 0)] hM ⟨rfl, trivial⟩ rfl
 refine wc_skip <| sq_n <| wc_sr <| wmv rfl rfl <| bs hx fun r19 h20 hx => w_cv hM rfl rfl (fun X S oL hS hR hO => ct_spec_Fnv _ X S name hS  oL h20) fun _ hM => wmv rfl rfl <| xgs hx fun hg24 hx => wv rfl (r_rem rfl rfl hg24) <| was rfl rfl <| wl_sq <| wc_ret ?_
 obtain rfl := oi hx
 exact fin_u [(iv (r19 % n))] hM ⟨rfl, trivial⟩ rfl

noncomputable def x_spec_l14Locks_b0 (w_ : DWorld) (k10 : Nat) (x179 : Int) : Option (Lr Unit (Sum Unit Unit)) :=
  bif decide (x179 = (-1)) then (some (Lr.go ())) else (xg (inI ((w_.tasks.length : Int) - 1)) <| Option.bind (x_spec_l01In x179 0 ((w_.tasks.length : Int) - 1)) fun r112 => Option.bind (bif !r112 then (some true) else (xg (0 ≤ x179 ∧ x179 < (w_.tasks.length : Int)) <| some (!decide (((el w_.tasks (x179.toNat)).pc) = 1)))) fun c117 => Option.bind (bif c117 then (some true) else (xg (0 ≤ x179 ∧ x179 < (w_.tasks.length : Int)) <| Option.bind (x_spec_StripeOf ((el w_.tasks (x179.toNat)).c.doc) (w_.locks.length : Int)) fun r169 => some (!decide (r169 = (k10 : Int))))) fun c138 => bif c138 then (some (Lr.out (Sum.inr (())))) else (some (Lr.go ())))
noncomputable def x_spec_l14Locks_f0 (w_ : DWorld) (k10 : Nat) (_s180 : Unit) : Option (Lr Unit (Sum Unit Unit)) := x_spec_l14Locks_b0 w_ k10 (el w_.locks k10)
noncomputable def x_spec_l14Locks_b1 (w_ : DWorld) (k188 : Nat) (x319 : DTask) : Option (Lr Unit (Sum Unit Bool)) :=
  Option.bind (bif decide ((x319.pc) = 1) then (Option.bind (x_spec_StripeOf (x319.c.doc) (w_.locks.length : Int)) fun r305 => xg (0 ≤ r305 ∧ r305 < (w_.locks.length : Int)) <| some (!decide ((el w_.locks r305.toNat) = (k188 : Int)))) else (some false)) fun c278 => bif c278 then (some (Lr.out (Sum.inr (false)))) else (some (Lr.go ()))
noncomputable def x_spec_l14Locks_f1 (w_ : DWorld) (k188 : Nat) (_s320 : Unit) : Option (Lr Unit (Sum Unit Bool)) := x_spec_l14Locks_b1 w_ k188 (el w_.tasks k188)
noncomputable def x_spec_l14Locks (w_ : DWorld) : Option Bool :=
  Option.bind (eachN (x_spec_l14Locks_f0 w_) (fun (_s180 : Unit) => (Sum.inl () : Sum Unit Unit)) w_.locks.length 0 ()) fun (y181 : Sum Unit Unit) => Sum.elim (fun _y182 => Option.bind (eachN (x_spec_l14Locks_f1 w_) (fun (_s320 : Unit) => (Sum.inl () : Sum Unit Bool)) w_.tasks.length 0 ()) fun (y321 : Sum Unit Bool) => Sum.elim (fun _y322 => some true) (fun y323 => some y323) y321) (fun _y183 => some false) y181
theorem ct_spec_l14Locks (w : World) (X S : Bs) (w_ : DWorld) (s_w__1 : Sv) (s_w__2 : Sv) (s_w__4 : Sv) (s_w__5 : Sv) (s_w__6 : Sv) (hS : SX X S w) (a_w__1 : (cSl 5 fDDoc w_.h.docs).rd S w s_w__1.v) (a_w__2 : (cSl 6 fDSub w_.h.subs).rd S w s_w__2.v) (a_w__4 : (cSl 1 fI w_.locks).rd S w s_w__4.v) (a_w__5 : (cSl 2 fDQueue w_.queues).rd S w s_w__5.v) (a_w__6 : (cSl 15 fDTask w_.tasks).rd S w s_w__6.v) (oL : Sep [] X w) {r : Bool} (hx : x_spec_l14Locks w_ = some r) :
 Ret Tryz.prog 49 [(.agg #[(bv w_.h.shut), s_w__1.v, s_w__2.v, (iv w_.h.last), s_w__4.v, s_w__5.v, s_w__6.v, (iv w_.step)])] w (KV X S w (bv r)) := by
 unfold x_spec_l14Locks at hx
 refine enter Tryz.func49 rfl Tryz.ntmps49 (by kernel_rfl) rfl ?_
 have hM := (((((St.enter oL hS).addV a_w__1).addV a_w__2).addV a_w__4).addV a_w__5).addV a_w__6
 refine wc_sr ?_
 refine w_ex rfl (x_box rfl hM ?_); intro b326 w325 hR327 hM
 refine was rfl rfl <| wl_sq <| wc_seq <| wc_sr <| wv rfl (r_fld u40 rfl rfl sz26 rfl) <| wv rfl (r_ldB u26 rfl rfl hM m0 rfl) <| wv rfl (r_lenC u26 rfl (hM.seeR m2)) <| wmv rfl rfl <| wl_sq <| wc_block <| bs hx fun y334 hx hx335 => ?_
 have hM := hM.fewer (rsC m4 (rsC m3 (rsC m2 (rsC m1 (rsC m0 rsN)))))
 replace hM : St ⟨w, X, S⟩ [oBox b326 #[(bv w_.h.shut), s_w__1.v, s_w__2.v, (iv w_.h.last), s_w__4.v, s_w__5.v, s_w__6.v, (iv w_.step)] 40] [rV s_w__1.v (cSl 5 fDDoc w_.h.docs), rV s_w__2.v (cSl 6 fDSub w_.h.subs), rV s_w__4.v (cSl 1 fI w_.locks), rV s_w__5.v (cSl 2 fDQueue w_.queues), rV s_w__6.v (cSl 15 fDTask w_.tasks)] _ := hM
 have hl339 := Cs.le (hM.seeR m2)
 refine wc_loop (un fun (m336 : Nat) => fun (k337 : Nat) => [(1, (pt b326 0)), (8, s_w__4.v), (9, (iv (w_.locks.length : Int))), (10, (iv (k337 : Int)))]) (un fun (m336 : Nat) => fun (k337 : Nat) w' => St ⟨w, X, S⟩ [oBox b326 #[(bv w_.h.shut), s_w__1.v, s_w__2.v, (iv w_.h.last), s_w__4.v, s_w__5.v, s_w__6.v, (iv w_.step)] 40] [rV s_w__1.v (cSl 5 fDDoc w_.h.docs), rV s_w__2.v (cSl 6 fDSub w_.h.subs), rV s_w__4.v (cSl 1 fI w_.locks), rV s_w__5.v (cSl 2 fDQueue w_.queues), rV s_w__6.v (cSl 15 fDTask w_.tasks)] w' ∧ eachN _ _ m336 k337 () = some y334 ∧ k337 + m336 = w_.locks.length) (fun p => p.1) (w_.locks.length, 0) ⟨rfl, rfl, rfl, rfl, trivial⟩ ⟨hM, hx, Nat.zero_add _⟩ ?_
 rintro ⟨m336, k337⟩ w340 ⟨hM, hx, hk338⟩
 refine wc_sr <| wv rfl (r_lss rfl rfl) <| wl_sq <| wc_seq ?_
 refine wc_cond rfl (fun hc342 => ?_) (fun hc342 => ?_)
 replace hc342 := of_decide_eq_true hc342
 obtain ⟨m343, z344, rfl, hk338, hx, hx345⟩ := eachN_step hx hk338 hc342
 unfold x_spec_l14Locks_f0 x_spec_l14Locks_b0 at hx
 try dsimp only at hx
 refine wc_skip <| sq_n <| wc_seq <| wc_block <| wc_sr <| wmv rfl rfl ?_
 have hi348 : k337 < w_.locks.length := by omega
 refine wv rfl (r_ixC u26 sz3 rfl rfl (hM.seeR m2) ⟨by omega, hc342⟩) <| wv rfl (r_ld u3 rfl rfl (Cs.get (i := k337) (j := 0) (hM.seeR m2) (fun _ => rfl) hi348 rfl)) <| was rfl rfl <| was rfl rfl <| wl_sq <| wc_seq <| wc_sr <| wmv rfl rfl <| wv rfl (r_eql rfl rfl) <| wl_sq ?_
 refine wcx hx rfl (fun hx => ?_) (fun hx => ?_)
 refine wc_exit <| sq_exit <| bk_here <| sq_n <| wc_region <| wv rfl (r_add rfl rfl ⟨by omega, by omega⟩) <| wmv rfl rfl <| wl_nil ?_
 cases hx
 exact lp_end (m343, k337 + 1) (Nat.lt_succ_self _) ⟨rfl, rfl, rfl, rfl, trivial⟩ ⟨hM, hx345, hk338⟩
 refine wc_skip <| sq_n <| wc_seq <| wc_draw [(0, 0), (1, 0), (2, 0), (3, 0), (4, 0), (5, 0), (6, 0), (7, 0), (8, 0), (9, 0), (10, 0), (11, 0), (12, 0), (13, 0), (14, 0), (15, 0), (16, 0), (17, 0), (18, 0), (19, 0), (20, 0), (21, 0), (22, 0), (23, 0), (24, 0), (25, 0), (26, 0), (27, 0), (28, 0), (29, 0), (30, 0)] Tryz_mixed (by kernel_rfl) rfl (by kernel_rfl) rfl <| omv rfl rfl <| ov rfl (fun w' h' => r_fld u40 rfl rfl sz38 rfl) <| ov rfl (fun w' h' => r_ldB u38 rfl rfl (hM.call h') m0 rfl) <| ov rfl (fun w' h' => r_lenC u38 rfl ((hM.call h').seeR m4)) <| xgs hx fun hg362 hx => ov rfl (fun w' h' => r_sub rfl rfl hg362) <| bs hx fun _ h364 hx => oc rfl rfl (fun w' h' => (hM.call h').callV fun X S oL hS hR hO => ct_spec_l01In _ X S (el w_.locks k337) (0 : Int) ((w_.tasks.length : Int) - 1) hS  oL h364) <| ov rfl (fun w' h' => r_not rfl) <| omv rfl rfl ?_
 refine bs hx fun c368 hx hx379 => ?_
 refine wo_mid 8 [(32, (bv c368)), (1, (pt b326 0)), (3, (iv (k337 : Int))), (4, (iv (el w_.locks k337))), (8, s_w__4.v), (9, (iv (w_.locks.length : Int))), (10, (iv (k337 : Int)))] rfl ?_ ?_
 refine cs2 hx (fun hg369 hx => ?_) (fun hg369 hx => ?_)
 refine ogs rfl (isB_no hg369) rfl <| ogs rfl (isB_no hg369) rfl <| ogs rfl (isB_no hg369) rfl <| ogs rfl (isB_no hg369) rfl <| ogs rfl (isB_no hg369) rfl <| ogs rfl (isB_no hg369) rfl <| ogs rfl (isB_no hg369) rfl <| ov rfl (fun w' h' => p_t rfl hg369 rfl) ?_
 obtain rfl := oi hx
 exact mid_onil ⟨rfl, rfl, rfl, rfl, rfl, rfl, rfl, trivial⟩
 refine ogv rfl hg369 rfl (fun w' h' => r_fld u40 rfl rfl sz38 rfl) <| ogv rfl hg369 rfl (fun w' h' => r_ldB u38 rfl rfl (hM.call h') m0 rfl) <| ogv rfl hg369 rfl (fun w' h' => r_move rfl) <| xgs hx fun hg385 hx => ?_
 have hi384 : ((el w_.locks k337).toNat) < w_.tasks.length := by omega
 refine ogv rfl hg369 rfl (fun w' h' => r_ixC u38 sz64 rfl rfl ((hM.call h').seeR m4) hg385) <| ogv rfl hg369 rfl (fun w' h' => r_fldC (i := ((el w_.locks k337).toNat)) u64 rfl rfl sz3 rfl ((hM.call h').seeR m4) hi384) <| ogv rfl hg369 rfl (fun w' h' => r_ld u3 rfl rfl (Cs.get (i := ((el w_.locks k337).toNat)) (j := 7) ((hM.call h').seeR m4) (fun _ => rfl) hi384 rfl)) <| ogv rfl hg369 rfl (fun w' h' => r_neq rfl rfl) <| ov rfl (fun w' h' => p_f rfl hg369 rfl) ?_
 cases hx
 exact mid_onil ⟨rfl, rfl, rfl, rfl, rfl, rfl, rfl, trivial⟩
 replace hx := hx379
 refine omv rfl rfl <| bs hx fun c390 hx hx409 => ?_
 refine wo_mid 14 [(47, (bv c390)), (1, (pt b326 0)), (8, s_w__4.v), (9, (iv (w_.locks.length : Int))), (10, (iv (k337 : Int)))] rfl ?_ ?_
 refine cs2 hx (fun hg391 hx => ?_) (fun hg391 hx => ?_)
 refine ogs rfl (isB_no hg391) rfl <| ogs rfl (isB_no hg391) rfl <| ogs rfl (isB_no hg391) rfl <| ogs rfl (isB_no hg391) rfl <| ogs rfl (isB_no hg391) rfl <| ogs rfl (isB_no hg391) rfl <| ogs rfl (isB_no hg391) rfl <| ogs rfl (isB_no hg391) rfl <| ogs rfl (isB_no hg391) rfl <| ogs rfl (isB_no hg391) rfl <| ogs rfl (isB_no hg391) rfl <| ogs rfl (isB_no hg391) rfl <| ogs rfl (isB_no hg391) rfl <| ov rfl (fun w' h' => p_t rfl hg391 rfl) ?_
 obtain rfl := oi hx
 exact mid_onil ⟨rfl, rfl, rfl, rfl, rfl, trivial⟩
 refine ogv rfl hg391 rfl (fun w' h' => r_fld u40 rfl rfl sz38 rfl) <| ogv rfl hg391 rfl (fun w' h' => r_ldB u38 rfl rfl (hM.call h') m0 rfl) <| ogv rfl hg391 rfl (fun w' h' => r_move rfl) <| xgs hx fun hg415 hx => ?_
 have hi414 : ((el w_.locks k337).toNat) < w_.tasks.length := by omega
 refine ogv rfl hg391 rfl (fun w' h' => r_ixC u38 sz64 rfl rfl ((hM.call h').seeR m4) hg415) <| ogv rfl hg391 rfl (fun w' h' => r_fldC (i := ((el w_.locks k337).toNat)) u64 rfl rfl sz59 rfl ((hM.call h').seeR m4) hi414) <| ogv rfl hg391 rfl (fun w' h' => r_fldC (i := ((el w_.locks k337).toNat)) u59 rfl rfl sz9 rfl ((hM.call h').seeR m4) hi414) <| ogv rfl hg391 rfl (fun w' h' => r_ld u9 rfl rfl (Cs.get (i := ((el w_.locks k337).toNat)) (j := 1) ((hM.call h').seeR m4) (fun _ => rfl) hi414 rfl)) <| ogv rfl hg391 rfl (fun w' h' => r_fld u40 rfl rfl sz26 rfl) <| ogv rfl hg391 rfl (fun w' h' => r_ldB u26 rfl rfl (hM.call h') m0 rfl) <| ogv rfl hg391 rfl (fun w' h' => r_lenC u26 rfl ((hM.call h').seeR m2)) <| bs hx fun _ h423 hx => ogc rfl hg391 rfl rfl (fun w' h' => (hM.call h').callV fun X S oL hS hR hO => ct_spec_StripeOf _ X S ((el w_.tasks ((el w_.locks k337).toNat)).c.doc) (w_.locks.length : Int) hS  oL h423) <| ogv rfl hg391 rfl (fun w' h' => r_move rfl) <| ogv rfl hg391 rfl (fun w' h' => r_neq rfl rfl) <| ov rfl (fun w' h' => p_f rfl hg391 rfl) ?_
 cases hx
 exact mid_onil ⟨rfl, rfl, rfl, rfl, rfl, trivial⟩
 replace hx := hx409
 refine o_nilM hM fun _ hM => sq_n ?_
 refine wcx hx rfl (fun hx => ?_) (fun hx => ?_)
 refine wc_sr <| was rfl rfl <| wl_sq <| wc_ret <| bk_ret <| sq_ret <| lp1_ret ?_
 cases hx
 obtain rfl := oi hx345
 replace hx := hx335
 refine bk_ret <| sq_ret ?_
 obtain rfl := oi hx
 exact fin_u [(bv false)] hM ⟨rfl, trivial⟩ rfl
 refine wc_skip <| bk_n <| sq_n <| wc_region <| wv rfl (r_add rfl rfl ⟨by omega, by omega⟩) <| wmv rfl rfl <| wl_nil ?_
 cases hx
 exact lp_end (m343, k337 + 1) (Nat.lt_succ_self _) ⟨rfl, rfl, rfl, rfl, trivial⟩ ⟨hM, hx345, hk338⟩
 replace hc342 := of_decide_eq_false hc342
 obtain rfl := eachN_end hx hk338 hc342
 refine wc_exit <| sq_exit <| lp1_exit ?_
 replace hx := hx335
 refine bk_here <| sq_n <| wc_seq <| wc_sr <| wv rfl (r_fld u40 rfl rfl sz38 rfl) <| wv rfl (r_ldB u38 rfl rfl hM m0 rfl) <| wv rfl (r_lenC u38 rfl (hM.seeR m4)) <| wmv rfl rfl <| wl_sq <| wc_block <| bs hx fun y437 hx hx438 => ?_
 have hl442 := Cs.le (hM.seeR m4)
 refine wc_loop (un fun (m439 : Nat) => fun (k440 : Nat) => [(1, (pt b326 0)), (50, s_w__6.v), (51, (iv (w_.tasks.length : Int))), (52, (iv (k440 : Int)))]) (un fun (m439 : Nat) => fun (k440 : Nat) w' => St ⟨w, X, S⟩ [oBox b326 #[(bv w_.h.shut), s_w__1.v, s_w__2.v, (iv w_.h.last), s_w__4.v, s_w__5.v, s_w__6.v, (iv w_.step)] 40] [rV s_w__1.v (cSl 5 fDDoc w_.h.docs), rV s_w__2.v (cSl 6 fDSub w_.h.subs), rV s_w__4.v (cSl 1 fI w_.locks), rV s_w__5.v (cSl 2 fDQueue w_.queues), rV s_w__6.v (cSl 15 fDTask w_.tasks)] w' ∧ eachN _ _ m439 k440 () = some y437 ∧ k440 + m439 = w_.tasks.length) (fun p => p.1) (w_.tasks.length, 0) ⟨rfl, rfl, rfl, rfl, trivial⟩ ⟨hM, hx, Nat.zero_add _⟩ ?_
 rintro ⟨m439, k440⟩ w443 ⟨hM, hx, hk441⟩
 refine wc_sr <| wv rfl (r_lss rfl rfl) <| wl_sq <| wc_seq ?_
 refine wc_cond rfl (fun hc445 => ?_) (fun hc445 => ?_)
 replace hc445 := of_decide_eq_true hc445
 obtain ⟨m446, z447, rfl, hk441, hx, hx448⟩ := eachN_step hx hk441 hc445
 unfold x_spec_l14Locks_f1 x_spec_l14Locks_b1 at hx
 try dsimp only at hx
 refine wc_skip <| sq_n <| wc_seq <| wc_block <| wc_sr <| wmv rfl rfl ?_
 have hi451 : k440 < w_.tasks.length := by omega
 refine wv rfl (r_ixC u38 sz64 rfl rfl (hM.seeR m4) ⟨by omega, hc445⟩) ?_
 obtain ⟨s453, hM, hc454⟩ := hM.leaf (i := k440) (j := 5) m4 (fun _ => rfl) hi451 rfl
 obtain ⟨s455, hM, hc456⟩ := hM.leaf (i := k440) (j := 6) m5 (fun _ => rfl) hi451 rfl
 obtain ⟨s457, hM, hc458⟩ := hM.leaf (i := k440) (j := 13) m6 (fun _ => rfl) hi451 rfl
 obtain ⟨s459, hM, hc460⟩ := hM.leaf (i := k440) (j := 14) m7 (fun _ => rfl) hi451 rfl
 refine wv rfl (r_ldC (o := k440 * 15) u64 sz64 rfl (us := [(iv ((el w_.tasks k440).c.kind)), (.string ((el w_.tasks k440).c.doc)), (iv ((el w_.tasks k440).c.client)), (iv ((el w_.tasks k440).c.seq)), (iv ((el w_.tasks k440).c.n)), s453.v, s455.v, (iv ((el w_.tasks k440).pc)), (iv ((el w_.tasks k440).inv)), (iv ((el w_.tasks k440).lin)), (iv ((el w_.tasks k440).res)), (iv ((el w_.tasks k440).a.code)), (iv ((el w_.tasks k440).a.rev)), s457.v, s459.v]) rfl (hM.seeR m8) hi451 ⟨(Cs.get (i := k440) (j := 0) (hM.seeR m8) (fun _ => rfl) hi451 rfl), (Cs.get (i := k440) (j := 1) (hM.seeR m8) (fun _ => rfl) hi451 rfl), (Cs.get (i := k440) (j := 2) (hM.seeR m8) (fun _ => rfl) hi451 rfl), (Cs.get (i := k440) (j := 3) (hM.seeR m8) (fun _ => rfl) hi451 rfl), (Cs.get (i := k440) (j := 4) (hM.seeR m8) (fun _ => rfl) hi451 rfl), (hc454 _ (Rel.refl _)), (hc456 _ (Rel.refl _)), (Cs.get (i := k440) (j := 7) (hM.seeR m8) (fun _ => rfl) hi451 rfl), (Cs.get (i := k440) (j := 8) (hM.seeR m8) (fun _ => rfl) hi451 rfl), (Cs.get (i := k440) (j := 9) (hM.seeR m8) (fun _ => rfl) hi451 rfl), (Cs.get (i := k440) (j := 10) (hM.seeR m8) (fun _ => rfl) hi451 rfl), (Cs.get (i := k440) (j := 11) (hM.seeR m8) (fun _ => rfl) hi451 rfl), (Cs.get (i := k440) (j := 12) (hM.seeR m8) (fun _ => rfl) hi451 rfl), (hc458 _ (Rel.refl _)), (hc460 _ (Rel.refl _)), trivial⟩) ?_
 refine w_ex rfl (x_alloc sz64 hM ?_); intro b462 w461 hR463 hM
 refine was rfl rfl ?_
 refine w_exu (x_stB #[(iv ((el w_.tasks k440).c.kind)), (.string ((el w_.tasks k440).c.doc)), (iv ((el w_.tasks k440).c.client)), (iv ((el w_.tasks k440).c.seq)), (iv ((el w_.tasks k440).c.n)), s453.v, s455.v, (iv ((el w_.tasks k440).pc)), (iv ((el w_.tasks k440).inv)), (iv ((el w_.tasks k440).lin)), (iv ((el w_.tasks k440).res)), (iv ((el w_.tasks k440).a.code)), (iv ((el w_.tasks k440).a.rev)), s457.v, s459.v] sz64 rfl rfl rfl rfl rfl rfl hM ?_); intro w466 hM
 refine wl_sq <| wc_seq <| wc_draw [(0, 0), (1, 0), (2, 0), (3, 0), (4, 0), (5, 0), (6, 0), (7, 0), (8, 0), (9, 0), (10, 0), (11, 0), (12, 0), (13, 0), (14, 0), (15, 0), (16, 0), (17, 0)] Tryz_mixed (by kernel_rfl) rfl (by kernel_rfl) rfl <| ov rfl (fun w' h' => r_fld u64 rfl rfl sz3 rfl) <| ov rfl (fun w' h' => r_ldB u3 rfl rfl (hM.call h') m0 rfl) <| ov rfl (fun w' h' => r_eql rfl rfl) <| omv rfl rfl <| bs hx fun c472 hx hx491 => ?_
 refine wo_mid 14 [(74, (bv c472)), (1, (pt b326 0)), (50, s_w__6.v), (51, (iv (w_.tasks.length : Int))), (52, (iv (k440 : Int)))] rfl ?_ ?_
 refine cs2 hx (fun hg473 hx => ?_) (fun hg473 hx => ?_)
 refine ogv rfl hg473 rfl (fun w' h' => r_fld u40 rfl rfl sz26 rfl) <| ogv rfl hg473 rfl (fun w' h' => r_ldB u26 rfl rfl (hM.call h') m1 rfl) <| ogv rfl hg473 rfl (fun w' h' => r_fld u64 rfl rfl sz59 rfl) <| ogv rfl hg473 rfl (fun w' h' => r_fld u59 rfl rfl sz9 rfl) <| ogv rfl hg473 rfl (fun w' h' => r_ldB u9 rfl rfl (hM.call h') m0 rfl) <| ogv rfl hg473 rfl (fun w' h' => r_fld u40 rfl rfl sz26 rfl) <| ogv rfl hg473 rfl (fun w' h' => r_ldB u26 rfl rfl (hM.call h') m1 rfl) <| ogv rfl hg473 rfl (fun w' h' => r_lenC u26 rfl ((hM.call h').seeR m6)) <| bs hx fun r500 h501 hx => ogc rfl hg473 rfl rfl (fun w' h' => (hM.call h').callV fun X S oL hS hR hO => ct_spec_StripeOf _ X S ((el w_.tasks k440).c.doc) (w_.locks.length : Int) hS  oL h501) <| xgs hx fun hg505 hx => ?_
 have hi504 : r500.toNat < w_.locks.length := by omega
 refine ogv rfl hg473 rfl (fun w' h' => r_ixC u26 sz3 rfl rfl ((hM.call h').seeR m6) hg505) <| ogv rfl hg473 rfl (fun w' h' => r_ld u3 rfl rfl (Cs.get (i := r500.toNat) (j := 0) ((hM.call h').seeR m6) (fun _ => rfl) hi504 rfl)) <| ogv rfl hg473 rfl (fun w' h' => r_move rfl) <| ogv rfl hg473 rfl (fun w' h' => r_neq rfl rfl) <| ov rfl (fun w' h' => p_t rfl hg473 rfl) ?_
 cases hx
 exact mid_onil ⟨rfl, rfl, rfl, rfl, rfl, trivial⟩
 refine ogs rfl (isB_no hg473) rfl <| ogs rfl (isB_no hg473) rfl <| ogs rfl (isB_no hg473) rfl <| ogs rfl (isB_no hg473) rfl <| ogs rfl (isB_no hg473) rfl <| ogs rfl (isB_no hg473) rfl <| ogs rfl (isB_no hg473) rfl <| ogs rfl (isB_no hg473) rfl <| ogs rfl (isB_no hg473) rfl <| ogs rfl (isB_no hg473) rfl <| ogs rfl (isB_no hg473) rfl <| ogs rfl (isB_no hg473) rfl <| ogs rfl (isB_no hg473) rfl <| ov rfl (fun w' h' => p_f rfl hg473 rfl) ?_
 obtain rfl := oi hx
 exact mid_onil ⟨rfl, rfl, rfl, rfl, rfl, trivial⟩
 replace hx := hx491
 refine o_nilM hM fun _ hM => sq_n ?_
 refine wcx hx rfl (fun hx => ?_) (fun hx => ?_)
 refine wc_sr <| was rfl rfl <| wl_sq <| wc_ret <| bk_ret <| sq_ret <| lp1_ret ?_
 cases hx
 obtain rfl := oi hx448
 replace hx := hx438
 refine bk_ret <| sq_ret ?_
 obtain rfl := oi hx
 exact fin_u [(bv false)] hM ⟨rfl, trivial⟩ rfl
 refine wc_skip <| bk_n <| sq_n <| wc_region <| wv rfl (r_add rfl rfl ⟨by omega, by omega⟩) <| wmv rfl rfl <| wl_nil ?_
 cases hx
 replace hM := hM.p1
 replace hM := hM.t1
 have hM := hM.fewer (rsC m4 (rsC m5 (rsC m6 (rsC m7 (rsC m8 rsN)))))
 replace hM : St ⟨w, X, S⟩ [oBox b326 #[(bv w_.h.shut), s_w__1.v, s_w__2.v, (iv w_.h.last), s_w__4.v, s_w__5.v, s_w__6.v, (iv w_.step)] 40] [rV s_w__1.v (cSl 5 fDDoc w_.h.docs), rV s_w__2.v (cSl 6 fDSub w_.h.subs), rV s_w__4.v (cSl 1 fI w_.locks), rV s_w__5.v (cSl 2 fDQueue w_.queues), rV s_w__6.v (cSl 15 fDTask w_.tasks)] _ := hM
 exact lp_end (m446, k440 + 1) (Nat.lt_succ_self _) ⟨rfl, rfl, rfl, rfl, trivial⟩ ⟨hM, hx448, hk441⟩
 replace hc445 := of_decide_eq_false hc445
 obtain rfl := eachN_end hx hk441 hc445
 refine wc_exit <| sq_exit <| lp1_exit ?_
 replace hx := hx438
 refine bk_here <| sq_n <| wc_sr <| was rfl rfl <| wl_sq <| wc_ret ?_
 obtain rfl := oi hx
 exact fin_u [(bv true)] hM ⟨rfl, trivial⟩ rfl

noncomputable def x_spec_l14Queues_b1 (w_ : DWorld) (k15 : Nat) (_k384 : Nat) (x564 : Int) (all385 : List Int) : Option (Lr (List Int) (Sum (List Int) Bool)) :=
  xg (inI ((w_.tasks.length : Int) - 1)) <| Option.bind (x_spec_l01In x564 0 ((w_.tasks.length : Int) - 1)) fun r487 => Option.bind (bif !r487 then (some true) else (xg (0 ≤ x564 ∧ x564 < (w_.tasks.length : Int)) <| some (!decide (((el w_.tasks (x564.toNat)).pc) = 2)))) fun c492 => Option.bind (bif c492 then (some true) else (xg (0 ≤ x564 ∧ x564 < (w_.tasks.length : Int)) <| some (!decide ((el w_.tasks (x564.toNat)).c.doc = (el w_.queues k15).doc)))) fun c513 => Option.bind (bif c513 then (some true) else (Option.bind (x_spec_l14Has all385 x564) fun r549 => some r549)) fun c540 => bif c540 then (some (Lr.out (Sum.inr (false)))) else (xg (all385.length < 1099511627776) <| some (Lr.go (all385 ++ [x564])))
noncomputable def x_spec_l14Queues_f1 (w_ : DWorld) (k15 : Nat) (k384 : Nat) (s565 : List Int) : Option (Lr (List Int) (Sum (List Int) Bool)) := x_spec_l14Queues_b1 w_ k15 k384 (el ((el w_.queues k15).list) k384) s565
noncomputable def x_spec_l14Queues_b0 (w_ : DWorld) (k15 : Nat) (x573 : DQueue) (all16 : List Int) : Option (Lr (List Int) (Sum (List Int) Bool)) :=
  Option.bind (bif decide ((0 : Int) < (k15 : Int)) then (xg (inI ((k15 : Int) - 1)) <| xg (0 ≤ ((k15 : Int) - 1) ∧ ((k15 : Int) - 1) < (w_.queues.length : Int)) <| some (!sLt ((el w_.queues (((k15 : Int) - 1).toNat)).doc) (x573.doc))) else (some false)) fun c313 => Option.bind (bif c313 then (some true) else (Option.bind (x_spec_l01In ((x573.list).length : Int) 1 2) fun r354 => some (!r354))) fun c342 => Option.bind (bif c342 then (some true) else (Option.bind (x_spec_HubDoc w_.h (x573.doc)) fun r373 => some (decide (r373 < 0)))) fun c359 => bif c359 then (some (Lr.out (Sum.inr (false)))) else (Option.bind (eachN (x_spec_l14Queues_f1 w_ k15) (fun (s565 : List Int) => (Sum.inl s565 : Sum (List Int) Bool)) (x573.list).length 0 all16) fun (y566 : Sum (List Int) Bool) => Sum.elim (fun y567 => some (Lr.go y567)) (fun y568 => some (Lr.out (Sum.inr (y568)))) y566)
noncomputable def x_spec_l14Queues_f0 (w_ : DWorld) (k15 : Nat) (s574 : List Int) : Option (Lr (List Int) (Sum (List Int) Bool)) := x_spec_l14Queues_b0 w_ k15 (el w_.queues k15) s574
noncomputable def x_spec_l14Queues_b2 (y576 : List Int) (_w_ : DWorld) (k584 : Nat) (x667 : DTask) : Option (Lr Unit (Sum Unit Bool)) :=
  Option.bind (bif decide ((x667.pc) = 2) then (Option.bind (x_spec_l14Has y576 (k584 : Int)) fun r660 => some (!r660)) else (some false)) fun c650 => bif c650 then (some (Lr.out (Sum.inr (false)))) else (some (Lr.go ()))
noncomputable def x_spec_l14Queues_f2 (y576 : List Int) (w_ : DWorld) (k584 : Nat) (_s668 : Unit) : Option (Lr Unit (Sum Unit Bool)) := x_spec_l14Queues_b2 y576 w_ k584 (el w_.tasks k584)
noncomputable def x_spec_l14Queues (w_ : DWorld) : Option Bool :=
  Option.bind (eachN (x_spec_l14Queues_f0 w_) (fun (s574 : List Int) => (Sum.inl s574 : Sum (List Int) Bool)) w_.queues.length 0 []) fun (y575 : Sum (List Int) Bool) => Sum.elim (fun y576 => Option.bind (eachN (x_spec_l14Queues_f2 y576 w_) (fun (_s668 : Unit) => (Sum.inl () : Sum Unit Bool)) w_.tasks.length 0 ()) fun (y669 : Sum Unit Bool) => Sum.elim (fun _y670 => some true) (fun y671 => some y671) y669) (fun y577 => some y577) y575
theorem ct_spec_l14Queues (w : World) (X S : Bs) (w_ : DWorld) (s_w__1 : Sv) (s_w__2 : Sv) (s_w__4 : Sv) (s_w__5 : Sv) (s_w__6 : Sv) (hS : SX X S w) (a_w__1 : (cSl 5 fDDoc w_.h.docs).rd S w s_w__1.v) (a_w__2 : (cSl 6 fDSub w_.h.subs).rd S w s_w__2.v) (a_w__4 : (cSl 1 fI w_.locks).rd S w s_w__4.v) (a_w__5 : (cSl 2 fDQueue w_.queues).rd S w s_w__5.v) (a_w__6 : (cSl 15 fDTask w_.tasks).rd S w s_w__6.v) (oL : Sep [] X w) {r : Bool} (hx : x_spec_l14Queues w_ = some r) :
 Ret Tryz.prog 50 [(.agg #[(bv w_.h.shut), s_w__1.v, s_w__2.v, (iv w_.h.last), s_w__4.v, s_w__5.v, s_w__6.v, (iv w_.step)])] w (KV X S w (bv r)) := by
 unfold x_spec_l14Queues at hx
 refine enter Tryz.func50 rfl Tryz.ntmps50 (by kernel_rfl) rfl ?_
 have hM := (((((St.enter oL hS).addV a_w__1).addV a_w__2).addV a_w__4).addV a_w__5).addV a_w__6
 refine wc_sr ?_
 refine w_ex rfl (x_box rfl hM ?_); intro b674 w673 hR675 hM
 refine was rfl rfl <| wl_sq <| wc_sr ?_
 refine w_ex rfl (x_empty (f := fI) u26 sz3 (fun _ => rfl) hM ?_); intro s679 w678 hR680 hM
 refine was rfl rfl <| wl_sq <| wc_seq <| wc_sr <| wv rfl (r_fld u40 rfl rfl sz37 rfl) <| wv rfl (r_ldB u37 rfl rfl hM m1 rfl) <| wv rfl (r_lenC u37 rfl (hM.seeR m1)) <| wmv rfl rfl <| wl_sq <| wc_block <| bs hx fun y687 hx hx688 => ?_
 replace hM := hM.p1
 have hM := hM.fewer (rsC m4 (rsC m3 (rsC m2 (rsC m1 (rsC m0 rsN)))))
 replace hM : St ⟨w, X, S⟩ [oBox b674 #[(bv w_.h.shut), s_w__1.v, s_w__2.v, (iv w_.h.last), s_w__4.v, s_w__5.v, s_w__6.v, (iv w_.step)] 40, oC (cSl 1 fI ([] : List Int)) s679.v] [rV s_w__1.v (cSl 5 fDDoc w_.h.docs), rV s_w__2.v (cSl 6 fDSub w_.h.subs), rV s_w__4.v (cSl 1 fI w_.locks), rV s_w__5.v (cSl 2 fDQueue w_.queues), rV s_w__6.v (cSl 15 fDTask w_.tasks)] _ := hM
 have hl695 := Cs.le (hM.seeR m3)
 refine wc_loop (un fun (m692 : Nat) => un fun (k693 : Nat) => un fun (all689 : List Int) => fun (s691 : Sv) => [(1, (pt b674 0)), (3, s691.v), (12, s_w__5.v), (13, (iv (w_.queues.length : Int))), (14, (iv (k693 : Int)))]) (un fun (m692 : Nat) => un fun (k693 : Nat) => un fun (all689 : List Int) => fun (s691 : Sv) w' => St ⟨w, X, S⟩ [oBox b674 #[(bv w_.h.shut), s_w__1.v, s_w__2.v, (iv w_.h.last), s_w__4.v, s_w__5.v, s_w__6.v, (iv w_.step)] 40, oC (cSl 1 fI all689) s691.v] [rV s_w__1.v (cSl 5 fDDoc w_.h.docs), rV s_w__2.v (cSl 6 fDSub w_.h.subs), rV s_w__4.v (cSl 1 fI w_.locks), rV s_w__5.v (cSl 2 fDQueue w_.queues), rV s_w__6.v (cSl 15 fDTask w_.tasks)] w' ∧ eachN _ _ m692 k693 all689 = some y687 ∧ k693 + m692 = w_.queues.length) (fun p => p.1) (w_.queues.length, 0, [], s679) ⟨rfl, rfl, rfl, rfl, rfl, trivial⟩ ⟨hM, hx, Nat.zero_add _⟩ ?_
 rintro ⟨m692, k693, all689, s691⟩ w696 ⟨hM, hx, hk694⟩
 refine wc_sr <| wv rfl (r_lss rfl rfl) <| wl_sq <| wc_seq ?_
 refine wc_cond rfl (fun hc698 => ?_) (fun hc698 => ?_)
 replace hc698 := of_decide_eq_true hc698
 obtain ⟨m699, z700, rfl, hk694, hx, hx701⟩ := eachN_step hx hk694 hc698
 unfold x_spec_l14Queues_f0 x_spec_l14Queues_b0 at hx
 try dsimp only at hx
 refine wc_skip <| sq_n <| wc_seq <| wc_block <| wc_sr <| wmv rfl rfl ?_
 have hi704 : k693 < w_.queues.length := by omega
 refine wv rfl (r_ixC u37 sz56 rfl rfl (hM.seeR m3) ⟨by omega, hc698⟩) ?_
 obtain ⟨s706, hM, hc707⟩ := hM.leaf (i := k693) (j := 1) m3 (fun _ => rfl) hi704 rfl
 refine wv rfl (r_ldC (o := k693 * 2) u56 sz56 rfl (us := [(.string ((el w_.queues k693).doc)), s706.v]) rfl (hM.seeR m4) hi704 ⟨(Cs.get (i := k693) (j := 0) (hM.seeR m4) (fun _ => rfl) hi704 rfl), (hc707 _ (Rel.refl _)), trivial⟩) ?_
 refine w_ex rfl (x_alloc sz56 hM ?_); intro b709 w708 hR710 hM
 refine was rfl rfl ?_
 refine w_exu (x_stB #[(.string ((el w_.queues k693).doc)), s706.v] sz56 rfl rfl rfl rfl rfl rfl hM ?_); intro w713 hM
 refine wl_sq <| wc_seq <| wc_seq <| wc_draw [(0, 0), (1, 0), (2, 0), (3, 0), (4, 0), (5, 0), (6, 0), (7, 0), (8, 0), (9, 0), (10, 0), (11, 0), (12, 0), (13, 0), (14, 0), (15, 0), (16, 0), (17, 0), (18, 0), (19, 0), (20, 0), (21, 0), (22, 0), (23, 0), (24, 0), (25, 0), (26, 0), (27, 0), (28, 0)] Tryz_mixed (by kernel_rfl) rfl (by kernel_rfl) rfl <| omv rfl rfl <| ov rfl (fun w' h' => r_gtr rfl rfl) <| omv rfl rfl <| bs hx fun c718 hx hx733 => ?_
 refine wo_mid 11 [(32, (bv c718)), (1, (pt b674 0)), (3, s691.v), (5, (pt b709 0)), (12, s_w__5.v), (13, (iv (w_.queues.length : Int))), (14, (iv (k693 : Int)))] rfl ?_ ?_
 refine cs2 hx (fun hg719 hx => ?_) (fun hg719 hx => ?_)
 refine ogv rfl hg719 rfl (fun w' h' => r_fld u40 rfl rfl sz37 rfl) <| ogv rfl hg719 rfl (fun w' h' => r_ldB u37 rfl rfl (hM.call h') m1 rfl) <| ogv rfl hg719 rfl (fun w' h' => r_move rfl) <| xgs hx fun hg738 hx => ogv rfl hg719 rfl (fun w' h' => r_sub rfl rfl hg738) <| xgs hx fun hg741 hx => ?_
 have hi740 : (((k693 : Int) - 1).toNat) < w_.queues.length := by omega
 refine ogv rfl hg719 rfl (fun w' h' => r_ixC u37 sz56 rfl rfl ((hM.call h').seeR m4) hg741) <| ogv rfl hg719 rfl (fun w' h' => r_fldC (i := (((k693 : Int) - 1).toNat)) u56 rfl rfl sz9 rfl ((hM.call h').seeR m4) hi740) <| ogv rfl hg719 rfl (fun w' h' => r_ld u9 rfl rfl (Cs.get (i := (((k693 : Int) - 1).toNat)) (j := 0) ((hM.call h').seeR m4) (fun _ => rfl) hi740 rfl)) <| ogv rfl hg719 rfl (fun w' h' => r_fld u56 rfl rfl sz9 rfl) <| ogv rfl hg719 rfl (fun w' h' => r_ldB u9 rfl rfl (hM.call h') m0 rfl) <| ogv rfl hg719 rfl (fun w' h' => r_geqs rfl rfl) <| ov rfl (fun w' h' => p_t rfl hg719 rfl) ?_
 cases hx
 exact mid_onil ⟨rfl, rfl, rfl, rfl, rfl, rfl, rfl, trivial⟩
 refine ogs rfl (isB_no hg719) rfl <| ogs rfl (isB_no hg719) rfl <| ogs rfl (isB_no hg719) rfl <| ogs rfl (isB_no hg719) rfl <| ogs rfl (isB_no hg719) rfl <| ogs rfl (isB_no hg719) rfl <| ogs rfl (isB_no hg719) rfl <| ogs rfl (isB_no hg719) rfl <| ogs rfl (isB_no hg719) rfl <| ogs rfl (isB_no hg719) rfl <| ov rfl (fun w' h' => p_f rfl hg719 rfl) ?_
 obtain rfl := oi hx
 exact mid_onil ⟨rfl, rfl, rfl, rfl, rfl, rfl, rfl, trivial⟩
 replace hx := hx733
 refine omv rfl rfl <| bs hx fun c748 hx hx757 => ?_
 refine wo_mid 6 [(39, (bv c748)), (1, (pt b674 0)), (3, s691.v), (5, (pt b709 0)), (12, s_w__5.v), (13, (iv (w_.queues.length : Int))), (14, (iv (k693 : Int)))] rfl ?_ ?_
 refine cs2 hx (fun hg749 hx => ?_) (fun hg749 hx => ?_)
 refine ogs rfl (isB_no hg749) rfl <| ogs rfl (isB_no hg749) rfl <| ogs rfl (isB_no hg749) rfl <| ogs rfl (isB_no hg749) rfl <| ogs rfl (isB_no hg749) rfl <| ov rfl (fun w' h' => p_t rfl hg749 rfl) ?_
 obtain rfl := oi hx
 exact mid_onil ⟨rfl, rfl, rfl, rfl, rfl, rfl, rfl, trivial⟩
 refine ogv rfl hg749 rfl (fun w' h' => r_fld u56 rfl rfl sz26 rfl) <| ogv rfl hg749 rfl (fun w' h' => r_ldB u26 rfl rfl (hM.call h') m0 rfl) <| ogv rfl hg749 rfl (fun w' h' => r_lenC u26 rfl ((hM.call h').seeR m0)) <| bs hx fun _ h762 hx => ogc rfl hg749 rfl rfl (fun w' h' => (hM.call h').callV fun X S oL hS hR hO => ct_spec_l01In _ X S (((el w_.queues k693).list).length : Int) (1 : Int) (2 : Int) hS  oL h762) <| ogv rfl hg749 rfl (fun w' h' => r_not rfl) <| ov rfl (fun w' h' => p_f rfl hg749 rfl) ?_
 cases hx
 exact mid_onil ⟨rfl, rfl, rfl, rfl, rfl, rfl, rfl, trivial⟩
 replace hx := hx757
 refine omv rfl rfl <| bs hx fun c766 hx hx776 => ?_
 refine wo_mid 7 [(47, (bv c766)), (1, (pt b674 0)), (3, s691.v), (5, (pt b709 0)), (12, s_w__5.v), (13, (iv (w_.queues.length : Int))), (14, (iv (k693 : Int)))] rfl ?_ ?_
 refine cs2 hx (fun hg767 hx => ?_) (fun hg767 hx => ?_)
 refine ogs rfl (isB_no hg767) rfl <| ogs rfl (isB_no hg767) rfl <| ogs rfl (isB_no hg767) rfl <| ogs rfl (isB_no hg767) rfl <| ogs rfl (isB_no hg767) rfl <| ogs rfl (isB_no hg767) rfl <| ov rfl (fun w' h' => p_t rfl hg767 rfl) ?_
 obtain rfl := oi hx
 exact mid_onil ⟨rfl, rfl, rfl, rfl, rfl, rfl, rfl, trivial⟩
 refine ogv rfl hg767 rfl (fun w' h' => r_fld u40 rfl rfl sz36 rfl) <| ogv rfl hg767 rfl (fun w' h' => r_ldBS u36 sz36 rfl (us := [(bv w_.h.shut), s_w__1.v, s_w__2.v, (iv w_.h.last)]) rfl (hM.call h') m1 rfl) <| ogv rfl hg767 rfl (fun w' h' => r_fld u56 rfl rfl sz9 rfl) <| ogv rfl hg767 rfl (fun w' h' => r_ldB u9 rfl rfl (hM.call h') m0 rfl) <| bs hx fun _ h782 hx => ogc rfl hg767 rfl rfl (fun w' h' => (hM.call h').callV fun X S oL hS hR hO => ct_spec_HubDoc _ X S w_.h s_w__1 s_w__2 ((el w_.queues k693).doc) hS (hR _ m1) (hR _ m2) oL h782) <| ogv rfl hg767 rfl (fun w' h' => r_lss rfl rfl) <| ov rfl (fun w' h' => p_f rfl hg767 rfl) ?_
 cases hx
 exact mid_onil ⟨rfl, rfl, rfl, rfl, rfl, rfl, rfl, trivial⟩
 replace hx := hx776
 refine o_nilM hM fun _ hM => sq_n ?_
 refine wcx hx rfl (fun hx => ?_) (fun hx => ?_)
 refine wc_sr <| was rfl rfl <| wl_sq <| wc_ret <| sq_ret <| bk_ret <| sq_ret <| lp1_ret ?_
 cases hx
 obtain rfl := oi hx701
 replace hx := hx688
 refine bk_ret <| sq_ret ?_
 obtain rfl := oi hx
 exact fin_u [(bv false)] hM ⟨rfl, trivial⟩ rfl
 refine wc_skip <| sq_n <| wc_sr <| wv rfl (r_fld u56 rfl rfl sz26 rfl) <| wv rfl (r_ldB u26 rfl rfl hM m0 rfl) <| wv rfl (r_lenC u26 rfl (hM.seeR m0)) <| wmv rfl rfl <| wl_sq <| wc_block <| bs hx fun y793 hx hx794 => ?_
 replace hM := hM.p2.p1.p2
 have hM := hM.fewer (rsC m1 (rsC m2 (rsC m3 (rsC m4 (rsC m5 (rsC m0 rsN))))))
 replace hM : St ⟨w, X, S⟩ [oBox b674 #[(bv w_.h.shut), s_w__1.v, s_w__2.v, (iv w_.h.last), s_w__4.v, s_w__5.v, s_w__6.v, (iv w_.step)] 40, oBox b709 #[(.string ((el w_.queues k693).doc)), s706.v] 56, oC (cSl 1 fI all689) s691.v] [rV s_w__1.v (cSl 5 fDDoc w_.h.docs), rV s_w__2.v (cSl 6 fDSub w_.h.subs), rV s_w__4.v (cSl 1 fI w_.locks), rV s_w__5.v (cSl 2 fDQueue w_.queues), rV s_w__6.v (cSl 15 fDTask w_.tasks), rV s706.v (cSl 1 fI ((el w_.queues k693).list))] _ := hM
 have hl801 := Cs.le (hM.seeR m5)
 refine wc_loop (un fun (m798 : Nat) => un fun (k799 : Nat) => un fun (all795 : List Int) => fun (s797 : Sv) => [(1, (pt b674 0)), (3, s797.v), (5, (pt b709 0)), (12, s_w__5.v), (13, (iv (w_.queues.length : Int))), (14, (iv (k693 : Int))), (49, s706.v), (50, (iv (((el w_.queues k693).list).length : Int))), (51, (iv (k799 : Int)))]) (un fun (m798 : Nat) => un fun (k799 : Nat) => un fun (all795 : List Int) => fun (s797 : Sv) w' => St ⟨w, X, S⟩ [oBox b674 #[(bv w_.h.shut), s_w__1.v, s_w__2.v, (iv w_.h.last), s_w__4.v, s_w__5.v, s_w__6.v, (iv w_.step)] 40, oBox b709 #[(.string ((el w_.queues k693).doc)), s706.v] 56, oC (cSl 1 fI all795) s797.v] [rV s_w__1.v (cSl 5 fDDoc w_.h.docs), rV s_w__2.v (cSl 6 fDSub w_.h.subs), rV s_w__4.v (cSl 1 fI w_.locks), rV s_w__5.v (cSl 2 fDQueue w_.queues), rV s_w__6.v (cSl 15 fDTask w_.tasks), rV s706.v (cSl 1 fI ((el w_.queues k693).list))] w' ∧ eachN _ _ m798 k799 all795 = some y793 ∧ k799 + m798 = ((el w_.queues k693).list).length) (fun p => p.1) (((el w_.queues k693).list).length, 0, all689, s691) ⟨rfl, rfl, rfl, rfl, rfl, rfl, rfl, rfl, rfl, trivial⟩ ⟨hM, hx, Nat.zero_add _⟩ ?_
 rintro ⟨m798, k799, all795, s797⟩ w802 ⟨hM, hx, hk800⟩
 refine wc_sr <| wv rfl (r_lss rfl rfl) <| wl_sq <| wc_seq ?_
 refine wc_cond rfl (fun hc804 => ?_) (fun hc804 => ?_)
 replace hc804 := of_decide_eq_true hc804
 obtain ⟨m805, z806, rfl, hk800, hx, hx807⟩ := eachN_step hx hk800 hc804
 unfold x_spec_l14Queues_f1 x_spec_l14Queues_b1 at hx
 try dsimp only at hx
 refine wc_skip <| sq_n <| wc_seq <| wc_block <| wc_sr ?_
 have hi809 : k799 < ((el w_.queues k693).list).length := by omega
 refine wv rfl (r_ixC u26 sz3 rfl rfl (hM.seeR m5) ⟨by omega, hc804⟩) <| wv rfl (r_ld u3 rfl rfl (Cs.get (i := k799) (j := 0) (hM.seeR m5) (fun _ => rfl) hi809 rfl)) <| was rfl rfl <| wl_sq <| wc_seq <| wc_seq <| wc_draw [(0, 0), (1, 0), (2, 0), (3, 0), (4, 0), (5, 0), (6, 0), (7, 0), (8, 0), (9, 0), (10, 0), (11, 0), (12, 0), (13, 0), (14, 0), (15, 0), (16, 0), (17, 0), (18, 0), (19, 0), (20, 0), (21, 0), (22, 0), (23, 0), (24, 0), (25, 0), (26, 0), (27, 0), (28, 0), (29, 0), (30, 0), (31, 0), (32, 0)] Tryz_mixed (by kernel_rfl) rfl (by kernel_rfl) rfl <| omv rfl rfl <| ov rfl (fun w' h' => r_fld u40 rfl rfl sz38 rfl) <| ov rfl (fun w' h' => r_ldB u38 rfl rfl (hM.call h') m0 rfl) <| ov rfl (fun w' h' => r_lenC u38 rfl ((hM.call h').seeR m4)) <| xgs hx fun hg817 hx => ov rfl (fun w' h' => r_sub rfl rfl hg817) <| bs hx fun _ h819 hx => ?_
 refine oc rfl rfl (fun w' h' => (hM.call h').callV fun X S oL hS hR hO => ct_spec_l01In _ X S (el ((el w_.queues k693).list) k799) (0 : Int) ((w_.tasks.length : Int) - 1) hS  oL h819) <| ov rfl (fun w' h' => r_not rfl) <| omv rfl rfl <| bs hx fun c823 hx hx834 => ?_
 refine wo_mid 8 [(70, (bv c823)), (1, (pt b674 0)), (3, s797.v), (5, (pt b709 0)), (7, (iv (el ((el w_.queues k693).list) k799))), (12, s_w__5.v), (13, (iv (w_.queues.length : Int))), (14, (iv (k693 : Int))), (49, s706.v), (50, (iv (((el w_.queues k693).list).length : Int))), (51, (iv (k799 : Int)))] rfl ?_ ?_
 refine cs2 hx (fun hg824 hx => ?_) (fun hg824 hx => ?_)
 refine ogs rfl (isB_no hg824) rfl <| ogs rfl (isB_no hg824) rfl <| ogs rfl (isB_no hg824) rfl <| ogs rfl (isB_no hg824) rfl <| ogs rfl (isB_no hg824) rfl <| ogs rfl (isB_no hg824) rfl <| ogs rfl (isB_no hg824) rfl <| ov rfl (fun w' h' => p_t rfl hg824 rfl) ?_
 obtain rfl := oi hx
 exact mid_onil ⟨rfl, rfl, rfl, rfl, rfl, rfl, rfl, rfl, rfl, rfl, rfl, trivial⟩
 refine ogv rfl hg824 rfl (fun w' h' => r_fld u40 rfl rfl sz38 rfl) <| ogv rfl hg824 rfl (fun w' h' => r_ldB u38 rfl rfl (hM.call h') m0 rfl) <| ogv rfl hg824 rfl (fun w' h' => r_move rfl) <| xgs hx fun hg840 hx => ?_
 have hi839 : ((el ((el w_.queues k693).list) k799).toNat) < w_.tasks.length := by omega
 refine ogv rfl hg824 rfl (fun w' h' => r_ixC u38 sz64 rfl rfl ((hM.call h').seeR m4) hg840) <| ogv rfl hg824 rfl (fun w' h' => r_fldC (i := ((el ((el w_.queues k693).list) k799).toNat)) u64 rfl rfl sz3 rfl ((hM.call h').seeR m4) hi839) <| ogv rfl hg824 rfl (fun w' h' => r_ld u3 rfl rfl (Cs.get (i := ((el ((el w_.queues k693).list) k799).toNat)) (j := 7) ((hM.call h').seeR m4) (fun _ => rfl) hi839 rfl)) <| ogv rfl hg824 rfl (fun w' h' => r_neq rfl rfl) <| ov rfl (fun w' h' => p_f rfl hg824 rfl) ?_
 cases hx
 exact mid_onil ⟨rfl, rfl, rfl, rfl, rfl, rfl, rfl, rfl, rfl, rfl, rfl, trivial⟩
 replace hx := hx834
 refine omv rfl rfl <| bs hx fun c845 hx hx859 => ?_
 refine wo_mid 11 [(82, (bv c845)), (1, (pt b674 0)), (3, s797.v), (5, (pt b709 0)), (7, (iv (el ((el w_.queues k693).list) k799))), (12, s_w__5.v), (13, (iv (w_.queues.length : Int))), (14, (iv (k693 : Int))), (49, s706.v), (50, (iv (((el w_.queues k693).list).length : Int))), (51, (iv (k799 : Int)))] rfl ?_ ?_
 refine cs2 hx (fun hg846 hx => ?_) (fun hg846 hx => ?_)
 refine ogs rfl (isB_no hg846) rfl <| ogs rfl (isB_no hg846) rfl <| ogs rfl (isB_no hg846) rfl <| ogs rfl (isB_no hg846) rfl <| ogs rfl (isB_no hg846) rfl <| ogs rfl (isB_no hg846) rfl <| ogs rfl (isB_no hg846) rfl <| ogs rfl (isB_no hg846) rfl <| ogs rfl (isB_no hg846) rfl <| ogs rfl (isB_no hg846) rfl <| ov rfl (fun w' h' => p_t rfl hg846 rfl) ?_
 obtain rfl := oi hx
 exact mid_onil ⟨rfl, rfl, rfl, rfl, rfl, rfl, rfl, rfl, rfl, rfl, rfl, trivial⟩
 refine ogv rfl hg846 rfl (fun w' h' => r_fld u40 rfl rfl sz38 rfl) <| ogv rfl hg846 rfl (fun w' h' => r_ldB u38 rfl rfl (hM.call h') m0 rfl) <| ogv rfl hg846 rfl (fun w' h' => r_move rfl) <| xgs hx fun hg865 hx => ?_
 have hi864 : ((el ((el w_.queues k693).list) k799).toNat) < w_.tasks.length := by omega
 refine ogv rfl hg846 rfl (fun w' h' => r_ixC u38 sz64 rfl rfl ((hM.call h').seeR m4) hg865) <| ogv rfl hg846 rfl (fun w' h' => r_fldC (i := ((el ((el w_.queues k693).list) k799).toNat)) u64 rfl rfl sz59 rfl ((hM.call h').seeR m4) hi864) <| ogv rfl hg846 rfl (fun w' h' => r_fldC (i := ((el ((el w_.queues k693).list) k799).toNat)) u59 rfl rfl sz9 rfl ((hM.call h').seeR m4) hi864) <| ogv rfl hg846 rfl (fun w' h' => r_ld u9 rfl rfl (Cs.get (i := ((el ((el w_.queues k693).list) k799).toNat)) (j := 1) ((hM.call h').seeR m4) (fun _ => rfl) hi864 rfl)) <| ogv rfl hg846 rfl (fun w' h' => r_fld u56 rfl rfl sz9 rfl) <| ogv rfl hg846 rfl (fun w' h' => r_ldB u9 rfl rfl (hM.call h') m1 rfl) <| ogv rfl hg846 rfl (fun w' h' => r_neqs rfl rfl) <| ov rfl (fun w' h' => p_f rfl hg846 rfl) ?_
 cases hx
 exact mid_onil ⟨rfl, rfl, rfl, rfl, rfl, rfl, rfl, rfl, rfl, rfl, rfl, trivial⟩
 replace hx := hx859
 refine omv rfl rfl <| bs hx fun c873 hx hx880 => ?_
 refine wo_mid 4 [(87, (bv c873)), (1, (pt b674 0)), (3, s797.v), (5, (pt b709 0)), (7, (iv (el ((el w_.queues k693).list) k799))), (12, s_w__5.v), (13, (iv (w_.queues.length : Int))), (14, (iv (k693 : Int))), (49, s706.v), (50, (iv (((el w_.queues k693).list).length : Int))), (51, (iv (k799 : Int)))] rfl ?_ ?_
 refine cs2 hx (fun hg874 hx => ?_) (fun hg874 hx => ?_)
 refine ogs rfl (isB_no hg874) rfl <| ogs rfl (isB_no hg874) rfl <| ogs rfl (isB_no hg874) rfl <| ov rfl (fun w' h' => p_t rfl hg874 rfl) ?_
 obtain rfl := oi hx
 exact mid_onil ⟨rfl, rfl, rfl, rfl, rfl, rfl, rfl, rfl, rfl, rfl, rfl, trivial⟩
 refine ogv rfl hg874 rfl (fun w' h' => r_move rfl) <| ogv rfl hg874 rfl (fun w' h' => r_move rfl) <| bs hx fun _ h884 hx => ogc rfl hg874 rfl rfl (fun w' h' => (hM.call h').callV fun X S oL hS hR hO => ct_spec_l14Has _ X S all795 s797 (el ((el w_.queues k693).list) k799) hS (seeA hO m2) oL h884) <| ov rfl (fun w' h' => p_f rfl hg874 rfl) ?_
 obtain rfl := oi hx
 exact mid_onil ⟨rfl, rfl, rfl, rfl, rfl, rfl, rfl, rfl, rfl, rfl, rfl, trivial⟩
 replace hx := hx880
 refine o_nilM hM fun _ hM => sq_n ?_
 refine wcx hx rfl (fun hx => ?_) (fun hx => ?_)
 refine wc_sr <| was rfl rfl <| wl_sq <| wc_ret <| sq_ret <| bk_ret <| sq_ret <| lp1_ret ?_
 cases hx
 obtain rfl := oi hx807
 replace hx := hx794
 refine bk_ret <| bk_ret <| sq_ret <| lp1_ret ?_
 cases hx
 obtain rfl := oi hx701
 replace hx := hx688
 refine bk_ret <| sq_ret ?_
 obtain rfl := oi hx
 exact fin_u [(bv false)] hM ⟨rfl, trivial⟩ rfl
 refine wc_skip <| sq_n <| wc_region <| wmv rfl rfl <| wmv rfl rfl ?_
 replace hM := hM.p2
 refine xgs hx fun hg895 hx => ?_
 refine w_push (f := fI) (el ((el w_.queues k693).list) k799) rfl rfl u26 sz3 rfl rfl rfl rfl (fun _ => rfl) hM (fun _ => zP (pV _ rfl) zN) rfl hg895 rfl ?_; intro u893 s894 w892 hM
 refine was rfl rfl <| wl_nil <| bk_n <| sq_n <| wc_region <| wv rfl (r_add rfl rfl ⟨by omega, by omega⟩) <| wmv rfl rfl <| wl_nil ?_
 cases hx
 replace hM := hM.p2.p2
 exact lp_end (m805, k799 + 1, all795 ++ [el ((el w_.queues k693).list) k799], s894) (Nat.lt_succ_self _) ⟨rfl, rfl, rfl, rfl, rfl, rfl, rfl, rfl, rfl, trivial⟩ ⟨hM, hx807, hk800⟩
 replace hc804 := of_decide_eq_false hc804
 obtain rfl := eachN_end hx hk800 hc804
 refine wc_exit <| sq_exit <| lp1_exit ?_
 replace hx := hx794
 refine bk_here <| bk_n <| sq_n <| wc_region <| wv rfl (r_add rfl rfl ⟨by omega, by omega⟩) <| wmv rfl rfl <| wl_nil ?_
 obtain rfl := oi hx
 replace hM := hM.p2.p1
 replace hM := hM.t2
 have hM := hM.fewer (rsC m0 (rsC m1 (rsC m2 (rsC m3 (rsC m4 rsN)))))
 replace hM : St ⟨w, X, S⟩ [oBox b674 #[(bv w_.h.shut), s_w__1.v, s_w__2.v, (iv w_.h.last), s_w__4.v, s_w__5.v, s_w__6.v, (iv w_.step)] 40, oC (cSl 1 fI all795) s797.v] [rV s_w__1.v (cSl 5 fDDoc w_.h.docs), rV s_w__2.v (cSl 6 fDSub w_.h.subs), rV s_w__4.v (cSl 1 fI w_.locks), rV s_w__5.v (cSl 2 fDQueue w_.queues), rV s_w__6.v (cSl 15 fDTask w_.tasks)] _ := hM
 exact lp_end (m699, k693 + 1, all795, s797) (Nat.lt_succ_self _) ⟨rfl, rfl, rfl, rfl, rfl, trivial⟩ ⟨hM, hx701, hk694⟩
 replace hc698 := of_decide_eq_false hc698
 obtain rfl := eachN_end hx hk694 hc698
 refine wc_exit <| sq_exit <| lp1_exit ?_
 replace hx := hx688
 refine bk_here <| sq_n <| wc_seq <| wc_sr <| wv rfl (r_fld u40 rfl rfl sz38 rfl) <| wv rfl (r_ldB u38 rfl rfl hM m0 rfl) <| wv rfl (r_lenC u38 rfl (hM.seeR m4)) <| wmv rfl rfl <| wl_sq <| wc_block <| bs hx fun y905 hx hx906 => ?_
 replace hM := hM.p1
 replace hM := hM.t1
 have hM := hM.fewer (rsC m4 rsN)
 replace hM : St ⟨w, X, S⟩ [oC (cSl 1 fI all689) s691.v] [rV s_w__6.v (cSl 15 fDTask w_.tasks)] _ := hM
 have hl910 := Cs.le (hM.seeR m0)
 refine wc_loop (un fun (m907 : Nat) => fun (k908 : Nat) => [(3, s691.v), (95, s_w__6.v), (96, (iv (w_.tasks.length : Int))), (97, (iv (k908 : Int)))]) (un fun (m907 : Nat) => fun (k908 : Nat) w' => St ⟨w, X, S⟩ [oC (cSl 1 fI all689) s691.v] [rV s_w__6.v (cSl 15 fDTask w_.tasks)] w' ∧ eachN _ _ m907 k908 () = some y905 ∧ k908 + m907 = w_.tasks.length) (fun p => p.1) (w_.tasks.length, 0) ⟨rfl, rfl, rfl, rfl, trivial⟩ ⟨hM, hx, Nat.zero_add _⟩ ?_
 rintro ⟨m907, k908⟩ w911 ⟨hM, hx, hk909⟩
 refine wc_sr <| wv rfl (r_lss rfl rfl) <| wl_sq <| wc_seq ?_
 refine wc_cond rfl (fun hc913 => ?_) (fun hc913 => ?_)
 replace hc913 := of_decide_eq_true hc913
 obtain ⟨m914, z915, rfl, hk909, hx, hx916⟩ := eachN_step hx hk909 hc913
 unfold x_spec_l14Queues_f2 x_spec_l14Queues_b2 at hx
 try dsimp only at hx
 refine wc_skip <| sq_n <| wc_seq <| wc_block <| wc_sr <| wmv rfl rfl ?_
 have hi919 : k908 < w_.tasks.length := by omega
 refine wv rfl (r_ixC u38 sz64 rfl rfl (hM.seeR m0) ⟨by omega, hc913⟩) ?_
 obtain ⟨s921, hM, hc922⟩ := hM.leaf (i := k908) (j := 5) m0 (fun _ => rfl) hi919 rfl
 obtain ⟨s923, hM, hc924⟩ := hM.leaf (i := k908) (j := 6) m1 (fun _ => rfl) hi919 rfl
 obtain ⟨s925, hM, hc926⟩ := hM.leaf (i := k908) (j := 13) m2 (fun _ => rfl) hi919 rfl
 obtain ⟨s927, hM, hc928⟩ := hM.leaf (i := k908) (j := 14) m3 (fun _ => rfl) hi919 rfl
 refine wv rfl (r_ldC (o := k908 * 15) u64 sz64 rfl (us := [(iv ((el w_.tasks k908).c.kind)), (.string ((el w_.tasks k908).c.doc)), (iv ((el w_.tasks k908).c.client)), (iv ((el w_.tasks k908).c.seq)), (iv ((el w_.tasks k908).c.n)), s921.v, s923.v, (iv ((el w_.tasks k908).pc)), (iv ((el w_.tasks k908).inv)), (iv ((el w_.tasks k908).lin)), (iv ((el w_.tasks k908).res)), (iv ((el w_.tasks k908).a.code)), (iv ((el w_.tasks k908).a.rev)), s925.v, s927.v]) rfl (hM.seeR m4) hi919 ⟨(Cs.get (i := k908) (j := 0) (hM.seeR m4) (fun _ => rfl) hi919 rfl), (Cs.get (i := k908) (j := 1) (hM.seeR m4) (fun _ => rfl) hi919 rfl), (Cs.get (i := k908) (j := 2) (hM.seeR m4) (fun _ => rfl) hi919 rfl), (Cs.get (i := k908) (j := 3) (hM.seeR m4) (fun _ => rfl) hi919 rfl), (Cs.get (i := k908) (j := 4) (hM.seeR m4) (fun _ => rfl) hi919 rfl), (hc922 _ (Rel.refl _)), (hc924 _ (Rel.refl _)), (Cs.get (i := k908) (j := 7) (hM.seeR m4) (fun _ => rfl) hi919 rfl), (Cs.get (i := k908) (j := 8) (hM.seeR m4) (fun _ => rfl) hi919 rfl), (Cs.get (i := k908) (j := 9) (hM.seeR m4) (fun _ => rfl) hi919 rfl), (Cs.get (i := k908) (j := 10) (hM.seeR m4) (fun _ => rfl) hi919 rfl), (Cs.get (i := k908) (j := 11) (hM.seeR m4) (fun _ => rfl) hi919 rfl), (Cs.get (i := k908) (j := 12) (hM.seeR m4) (fun _ => rfl) hi919 rfl), (hc926 _ (Rel.refl _)), (hc928 _ (Rel.refl _)), trivial⟩) ?_
 refine w_ex rfl (x_alloc sz64 hM ?_); intro b930 w929 hR931 hM
 refine was rfl rfl ?_
 refine w_exu (x_stB #[(iv ((el w_.tasks k908).c.kind)), (.string ((el w_.tasks k908).c.doc)), (iv ((el w_.tasks k908).c.client)), (iv ((el w_.tasks k908).c.seq)), (iv ((el w_.tasks k908).c.n)), s921.v, s923.v, (iv ((el w_.tasks k908).pc)), (iv ((el w_.tasks k908).inv)), (iv ((el w_.tasks k908).lin)), (iv ((el w_.tasks k908).res)), (iv ((el w_.tasks k908).a.code)), (iv ((el w_.tasks k908).a.rev)), s925.v, s927.v] sz64 rfl rfl rfl rfl rfl rfl hM ?_); intro w934 hM
 refine wl_sq <| wc_sr <| wv rfl (r_fld u64 rfl rfl sz3 rfl) <| wv rfl (r_ldB u3 rfl rfl hM m0 rfl) <| wv rfl (r_eql rfl rfl) <| wmv rfl rfl <| bs hx fun c940 hx hx948 => ?_
 refine wl_midH 5 [(110, (bv c940)), (3, s691.v), (95, s_w__6.v), (96, (iv (w_.tasks.length : Int))), (97, (iv (k908 : Int)))] hM ?_ fun w949 hM => ?_
 refine cs2 hx (fun hg941 hx => ?_) (fun hg941 hx => ?_)
 refine gv rfl hg941 rfl (r_move rfl) <| gv rfl hg941 rfl (r_move rfl) <| bs hx fun _ h953 hx => g_cv hM hg941 rfl rfl rfl (fun X S oL hS hR hO => ct_spec_l14Has _ X S all689 s691 (k908 : Int) hS (seeA hO m1) oL h953) fun _ hM => gv rfl hg941 rfl (r_not rfl) <| wv rfl (p_t rfl hg941 rfl) ?_
 cases hx
 exact mid_h ⟨rfl, rfl, rfl, rfl, rfl, trivial⟩ hM
 refine gn hg941 rfl rfl <| gn hg941 rfl rfl <| gn hg941 rfl rfl <| gn hg941 rfl rfl <| wv rfl (p_f rfl hg941 rfl) ?_
 obtain rfl := oi hx
 exact mid_h ⟨rfl, rfl, rfl, rfl, rfl, trivial⟩ hM
 replace hx := hx948
 refine wl_sq ?_
 refine wcx hx rfl (fun hx => ?_) (fun hx => ?_)
 refine wc_sr <| was rfl rfl <| wl_sq <| wc_ret <| bk_ret <| sq_ret <| lp1_ret ?_
 cases hx
 obtain rfl := oi hx916
 replace hx := hx906
 refine bk_ret <| sq_ret ?_
 obtain rfl := oi hx
 exact fin_u [(bv false)] hM ⟨rfl, trivial⟩ rfl
 refine wc_skip <| bk_n <| sq_n <| wc_region <| wv rfl (r_add rfl rfl ⟨by omega, by omega⟩) <| wmv rfl rfl <| wl_nil ?_
 cases hx
 replace hM := hM.p1
 replace hM := hM.t1
 have hM := hM.fewer (rsC m4 rsN)
 replace hM : St ⟨w, X, S⟩ [oC (cSl 1 fI all689) s691.v] [rV s_w__6.v (cSl 15 fDTask w_.tasks)] _ := hM
 exact lp_end (m914, k908 + 1) (Nat.lt_succ_self _) ⟨rfl, rfl, rfl, rfl, trivial⟩ ⟨hM, hx916, hk909⟩
 replace hc913 := of_decide_eq_false hc913
 obtain rfl := eachN_end hx hk909 hc913
 refine wc_exit <| sq_exit <| lp1_exit ?_
 replace hx := hx906
 refine bk_here <| sq_n <| wc_sr <| was rfl rfl <| wl_sq <| wc_ret ?_
 obtain rfl := oi hx
 exact fin_u [(bv true)] hM ⟨rfl, trivial⟩ rfl

noncomputable def x_spec_WorldOk_b0 (_w_ : DWorld) (_k10 : Nat) (x63 : DTask) : Option (Lr Unit (Sum Unit Unit)) :=
  Option.bind (x_spec_TaskOk x63) fun r56 => bif !r56 then (some (Lr.out (Sum.inr (())))) else (some (Lr.go ()))
noncomputable def x_spec_WorldOk_f0 (w_ : DWorld) (k10 : Nat) (_s64 : Unit) : Option (Lr Unit (Sum Unit Unit)) := x_spec_WorldOk_b0 w_ k10 (el w_.tasks k10)
noncomputable def x_spec_WorldOk (w_ : DWorld) : Option Bool :=
  Option.bind (eachN (x_spec_WorldOk_f0 w_) (fun (_s64 : Unit) => (Sum.inl () : Sum Unit Unit)) w_.tasks.length 0 ()) fun (y65 : Sum Unit Unit) => Sum.elim (fun _y66 => Option.bind (x_spec_HubOk w_.h) fun r70 => Option.bind (bif r70 then (Option.bind (x_spec_l01In (w_.locks.length : Int) 1 4) fun r85 => some r85) else (some false)) fun c74 => Option.bind (bif c74 then (some (decide ((w_.tasks.length : Int) ≤ 10))) else (some false)) fun c89 => Option.bind (bif c89 then (Option.bind (x_spec_l01In w_.step 0 1000000) fun r109 => some r109) else (some false)) fun c100 => Option.bind (bif c100 then (Option.bind (x_spec_l14Steps w_) fun r120 => some r120) else (some false)) fun c113 => Option.bind (bif c113 then (Option.bind (x_spec_l14Locks w_) fun r131 => some r131) else (some false)) fun c124 => Option.bind (bif c124 then (Option.bind (x_spec_l14Queues w_) fun r142 => some r142) else (some false)) fun c135 => some c135) (fun _y67 => some false) y65
theorem ct_spec_WorldOk (w : World) (X S : Bs) (w_ : DWorld) (s_w__1 : Sv) (s_w__2 : Sv) (s_w__4 : Sv) (s_w__5 : Sv) (s_w__6 : Sv) (hS : SX X S w) (a_w__1 : (cSl 5 fDDoc w_.h.docs).rd S w s_w__1.v) (a_w__2 : (cSl 6 fDSub w_.h.subs).rd S w s_w__2.v) (a_w__4 : (cSl 1 fI w_.locks).rd S w s_w__4.v) (a_w__5 : (cSl 2 fDQueue w_.queues).rd S w s_w__5.v) (a_w__6 : (cSl 15 fDTask w_.tasks).rd S w s_w__6.v) (oL : Sep [] X w) {r : Bool} (hx : x_spec_WorldOk w_ = some r) :
 Ret Tryz.prog 20 [(.agg #[(bv w_.h.shut), s_w__1.v, s_w__2.v, (iv w_.h.last), s_w__4.v, s_w__5.v, s_w__6.v, (iv w_.step)])] w (KV X S w (bv r)) := by
 unfold x_spec_WorldOk at hx
 refine enter Tryz.func20 rfl Tryz.ntmps20 (by kernel_rfl) rfl ?_
 have hM := (((((St.enter oL hS).addV a_w__1).addV a_w__2).addV a_w__4).addV a_w__5).addV a_w__6
 refine wc_sr ?_
 refine w_ex rfl (x_box rfl hM ?_); intro b147 w146 hR148 hM
 refine was rfl rfl <| wl_sq <| wc_seq <| wc_sr <| wv rfl (r_fld u40 rfl rfl sz38 rfl) <| wv rfl (r_ldB u38 rfl rfl hM m0 rfl) <| wv rfl (r_lenC u38 rfl (hM.seeR m0)) <| wmv rfl rfl <| wl_sq <| wc_block <| bs hx fun y155 hx hx156 => ?_
 have hM := hM.fewer (rsC m4 (rsC m3 (rsC m2 (rsC m1 (rsC m0 rsN)))))
 replace hM : St ⟨w, X, S⟩ [oBox b147 #[(bv w_.h.shut), s_w__1.v, s_w__2.v, (iv w_.h.last), s_w__4.v, s_w__5.v, s_w__6.v, (iv w_.step)] 40] [rV s_w__1.v (cSl 5 fDDoc w_.h.docs), rV s_w__2.v (cSl 6 fDSub w_.h.subs), rV s_w__4.v (cSl 1 fI w_.locks), rV s_w__5.v (cSl 2 fDQueue w_.queues), rV s_w__6.v (cSl 15 fDTask w_.tasks)] _ := hM
 have hl160 := Cs.le (hM.seeR m4)
 refine wc_loop (un fun (m157 : Nat) => fun (k158 : Nat) => [(1, (pt b147 0)), (6, s_w__6.v), (7, (iv (w_.tasks.length : Int))), (8, (iv (k158 : Int)))]) (un fun (m157 : Nat) => fun (k158 : Nat) w' => St ⟨w, X, S⟩ [oBox b147 #[(bv w_.h.shut), s_w__1.v, s_w__2.v, (iv w_.h.last), s_w__4.v, s_w__5.v, s_w__6.v, (iv w_.step)] 40] [rV s_w__1.v (cSl 5 fDDoc w_.h.docs), rV s_w__2.v (cSl 6 fDSub w_.h.subs), rV s_w__4.v (cSl 1 fI w_.locks), rV s_w__5.v (cSl 2 fDQueue w_.queues), rV s_w__6.v (cSl 15 fDTask w_.tasks)] w' ∧ eachN _ _ m157 k158 () = some y155 ∧ k158 + m157 = w_.tasks.length) (fun p => p.1) (w_.tasks.length, 0) ⟨rfl, rfl, rfl, rfl, trivial⟩ ⟨hM, hx, Nat.zero_add _⟩ ?_
 rintro ⟨m157, k158⟩ w161 ⟨hM, hx, hk159⟩
 refine wc_sr <| wv rfl (r_lss rfl rfl) <| wl_sq <| wc_seq ?_
 refine wc_cond rfl (fun hc163 => ?_) (fun hc163 => ?_)
 replace hc163 := of_decide_eq_true hc163
 obtain ⟨m164, z165, rfl, hk159, hx, hx166⟩ := eachN_step hx hk159 hc163
 unfold x_spec_WorldOk_f0 x_spec_WorldOk_b0 at hx
 try dsimp only at hx
 refine wc_skip <| sq_n <| wc_seq <| wc_block <| wc_sr ?_
 have hi168 : k158 < w_.tasks.length := by omega
 refine wv rfl (r_ixC u38 sz64 rfl rfl (hM.seeR m4) ⟨by omega, hc163⟩) ?_
 obtain ⟨s170, hM, hc171⟩ := hM.leaf (i := k158) (j := 5) m4 (fun _ => rfl) hi168 rfl
 obtain ⟨s172, hM, hc173⟩ := hM.leaf (i := k158) (j := 6) m5 (fun _ => rfl) hi168 rfl
 obtain ⟨s174, hM, hc175⟩ := hM.leaf (i := k158) (j := 13) m6 (fun _ => rfl) hi168 rfl
 obtain ⟨s176, hM, hc177⟩ := hM.leaf (i := k158) (j := 14) m7 (fun _ => rfl) hi168 rfl
 refine wv rfl (r_ldC (o := k158 * 15) u64 sz64 rfl (us := [(iv ((el w_.tasks k158).c.kind)), (.string ((el w_.tasks k158).c.doc)), (iv ((el w_.tasks k158).c.client)), (iv ((el w_.tasks k158).c.seq)), (iv ((el w_.tasks k158).c.n)), s170.v, s172.v, (iv ((el w_.tasks k158).pc)), (iv ((el w_.tasks k158).inv)), (iv ((el w_.tasks k158).lin)), (iv ((el w_.tasks k158).res)), (iv ((el w_.tasks k158).a.code)), (iv ((el w_.tasks k158).a.rev)), s174.v, s176.v]) rfl (hM.seeR m8) hi168 ⟨(Cs.get (i := k158) (j := 0) (hM.seeR m8) (fun _ => rfl) hi168 rfl), (Cs.get (i := k158) (j := 1) (hM.seeR m8) (fun _ => rfl) hi168 rfl), (Cs.get (i := k158) (j := 2) (hM.seeR m8) (fun _ => rfl) hi168 rfl), (Cs.get (i := k158) (j := 3) (hM.seeR m8) (fun _ => rfl) hi168 rfl), (Cs.get (i := k158) (j := 4) (hM.seeR m8) (fun _ => rfl) hi168 rfl), (hc171 _ (Rel.refl _)), (hc173 _ (Rel.refl _)), (Cs.get (i := k158) (j := 7) (hM.seeR m8) (fun _ => rfl) hi168 rfl), (Cs.get (i := k158) (j := 8) (hM.seeR m8) (fun _ => rfl) hi168 rfl), (Cs.get (i := k158) (j := 9) (hM.seeR m8) (fun _ => rfl) hi168 rfl), (Cs.get (i := k158) (j := 10) (hM.seeR m8) (fun _ => rfl) hi168 rfl), (Cs.get (i := k158) (j := 11) (hM.seeR m8) (fun _ => rfl) hi168 rfl), (Cs.get (i := k158) (j := 12) (hM.seeR m8) (fun _ => rfl) hi168 rfl), (hc175 _ (Rel.refl _)), (hc177 _ (Rel.refl _)), trivial⟩) ?_
 refine w_ex rfl (x_alloc sz64 hM ?_); intro b179 w178 hR180 hM
 refine w_exu (x_stB #[(iv ((el w_.tasks k158).c.kind)), (.string ((el w_.tasks k158).c.doc)), (iv ((el w_.tasks k158).c.client)), (iv ((el w_.tasks k158).c.seq)), (iv ((el w_.tasks k158).c.n)), s170.v, s172.v, (iv ((el w_.tasks k158).pc)), (iv ((el w_.tasks k158).inv)), (iv ((el w_.tasks k158).lin)), (iv ((el w_.tasks k158).res)), (iv ((el w_.tasks k158).a.code)), (iv ((el w_.tasks k158).a.rev)), s174.v, s176.v] sz64 rfl rfl rfl rfl rfl rfl hM ?_); intro w182 hM
 refine wl_sq <| wc_sr <| wv rfl (r_ldBS u64 sz64 rfl (us := [(iv ((el w_.tasks k158).c.kind)), (.string ((el w_.tasks k158).c.doc)), (iv ((el w_.tasks k158).c.client)), (iv ((el w_.tasks k158).c.seq)), (iv ((el w_.tasks k158).c.n)), s170.v, s172.v, (iv ((el w_.tasks k158).pc)), (iv ((el w_.tasks k158).inv)), (iv ((el w_.tasks k158).lin)), (iv ((el w_.tasks k158).res)), (iv ((el w_.tasks k158).a.code)), (iv ((el w_.tasks k158).a.rev)), s174.v, s176.v]) rfl hM m0 rfl) <| bs hx fun _ h186 hx => w_cv hM rfl rfl (fun X S oL hS hR hO => ct_spec_TaskOk _ X S (el w_.tasks k158) s170 s172 s174 s176 hS (hR _ m3) (hR _ m2) (hR _ m1) (hR _ m0) oL h186) fun _ hM => wv rfl (r_not rfl) <| wl_sq ?_
 refine wcx hx rfl (fun hx => ?_) (fun hx => ?_)
 refine wc_sr <| was rfl rfl <| wl_sq <| wc_ret <| bk_ret <| sq_ret <| lp1_ret ?_
 cases hx
 obtain rfl := oi hx166
 replace hx := hx156
 refine bk_ret <| sq_ret ?_
 obtain rfl := oi hx
 exact fin_u [(bv false)] hM ⟨rfl, trivial⟩ rfl
 refine wc_skip <| bk_n <| sq_n <| wc_region <| wv rfl (r_add rfl rfl ⟨by omega, by omega⟩) <| wmv rfl rfl <| wl_nil ?_
 cases hx
 replace hM := hM.p1
 replace hM := hM.t1
 have hM := hM.fewer (rsC m4 (rsC m5 (rsC m6 (rsC m7 (rsC m8 rsN)))))
 replace hM : St ⟨w, X, S⟩ [oBox b147 #[(bv w_.h.shut), s_w__1.v, s_w__2.v, (iv w_.h.last), s_w__4.v, s_w__5.v, s_w__6.v, (iv w_.step)] 40] [rV s_w__1.v (cSl 5 fDDoc w_.h.docs), rV s_w__2.v (cSl 6 fDSub w_.h.subs), rV s_w__4.v (cSl 1 fI w_.locks), rV s_w__5.v (cSl 2 fDQueue w_.queues), rV s_w__6.v (cSl 15 fDTask w_.tasks)] _ := hM
 exact lp_end (m164, k158 + 1) (Nat.lt_succ_self _) ⟨rfl, rfl, rfl, rfl, trivial⟩ ⟨hM, hx166, hk159⟩
 replace hc163 := of_decide_eq_false hc163
 obtain rfl := eachN_end hx hk159 hc163
 refine wc_exit <| sq_exit <| lp1_exit ?_
 replace hx := hx156
 refine bk_here <| sq_n <| wc_sr <| wv rfl (r_fld u40 rfl rfl sz36 rfl) <| wv rfl (r_ldBS u36 sz36 rfl (us := [(bv w_.h.shut), s_w__1.v, s_w__2.v, (iv w_.h.last)]) rfl hM m0 rfl) <| bs hx fun _ h196 hx => w_cv hM rfl rfl (fun X S oL hS hR hO => ct_spec_HubOk _ X S w_.h s_w__1 s_w__2 hS (hR _ m0) (hR _ m1) oL h196) fun _ hM => wmv rfl rfl <| bs hx fun c199 hx hx207 => ?_
 refine wl_midH 5 [(24, (bv c199)), (1, (pt b147 0))] hM ?_ fun w208 hM => ?_
 refine cs2 hx (fun hg200 hx => ?_) (fun hg200 hx => ?_)
 refine gv rfl hg200 rfl (r_fld u40 rfl rfl sz26 rfl) <| gv rfl hg200 rfl (r_ldB u26 rfl rfl hM m0 rfl) <| gv rfl hg200 rfl (r_lenC u26 rfl (hM.seeR m2)) <| bs hx fun _ h213 hx => g_cv hM hg200 rfl rfl rfl (fun X S oL hS hR hO => ct_spec_l01In _ X S (w_.locks.length : Int) (1 : Int) (4 : Int) hS  oL h213) fun _ hM => wv rfl (p_t rfl hg200 rfl) ?_
 obtain rfl := oi hx
 exact mid_h ⟨rfl, rfl, trivial⟩ hM
 refine gn hg200 rfl rfl <| gn hg200 rfl rfl <| gn hg200 rfl rfl <| gn hg200 rfl rfl <| wv rfl (p_f rfl hg200 rfl) ?_
 obtain rfl := oi hx
 exact mid_h ⟨rfl, rfl, trivial⟩ hM
 replace hx := hx207
 refine wmv rfl rfl <| bs hx fun c216 hx hx222 => ?_
 refine wl_midH 5 [(30, (bv c216)), (1, (pt b147 0))] hM ?_ fun w223 hM => ?_
 refine cs2 hx (fun hg217 hx => ?_) (fun hg217 hx => ?_)
 refine gv rfl hg217 rfl (r_fld u40 rfl rfl sz38 rfl) <| gv rfl hg217 rfl (r_ldB u38 rfl rfl hM m0 rfl) <| gv rfl hg217 rfl (r_lenC u38 rfl (hM.seeR m4)) <| gv rfl hg217 rfl (r_leq rfl rfl) <| wv rfl (p_t rfl hg217 rfl) ?_
 cases hx
 exact mid_h ⟨rfl, rfl, trivial⟩ hM
 refine gn hg217 rfl rfl <| gn hg217 rfl rfl <| gn hg217 rfl rfl <| gn hg217 rfl rfl <| wv rfl (p_f rfl hg217 rfl) ?_
 obtain rfl := oi hx
 exact mid_h ⟨rfl, rfl, trivial⟩ hM
 replace hx := hx222
 refine wmv rfl rfl <| bs hx fun c229 hx hx236 => ?_
 refine wl_midH 4 [(35, (bv c229)), (1, (pt b147 0))] hM ?_ fun w237 hM => ?_
 refine cs2 hx (fun hg230 hx => ?_) (fun hg230 hx => ?_)
 refine gv rfl hg230 rfl (r_fld u40 rfl rfl sz3 rfl) <| gv rfl hg230 rfl (r_ldB u3 rfl rfl hM m0 rfl) <| bs hx fun _ h241 hx => g_cv hM hg230 rfl rfl rfl (fun X S oL hS hR hO => ct_spec_l01In _ X S w_.step (0 : Int) (1000000 : Int) hS  oL h241) fun _ hM => wv rfl (p_t rfl hg230 rfl) ?_
 obtain rfl := oi hx
 exact mid_h ⟨rfl, rfl, trivial⟩ hM
 refine gn hg230 rfl rfl <| gn hg230 rfl rfl <| gn hg230 rfl rfl <| wv rfl (p_f rfl hg230 rfl) ?_
 obtain rfl := oi hx
 exact mid_h ⟨rfl, rfl, trivial⟩ hM
 replace hx := hx236
 refine wmv rfl rfl <| bs hx fun c244 hx hx250 => ?_
 refine wl_midH 3 [(39, (bv c244)), (1, (pt b147 0))] hM ?_ fun w251 hM => ?_
 refine cs2 hx (fun hg245 hx => ?_) (fun hg245 hx => ?_)
 refine gv rfl hg245 rfl (r_ldBS u40 sz40 rfl (us := [(bv w_.h.shut), s_w__1.v, s_w__2.v, (iv w_.h.last), s_w__4.v, s_w__5.v, s_w__6.v, (iv w_.step)]) rfl hM m0 rfl) <| bs hx fun _ h254 hx => g_cv hM hg245 rfl rfl rfl (fun X S oL hS hR hO => ct_spec_l14Steps _ X S w_ s_w__1 s_w__2 s_w__4 s_w__5 s_w__6 hS (hR _ m0) (hR _ m1) (hR _ m2) (hR _ m3) (hR _ m4) oL h254) fun _ hM => wv rfl (p_t rfl hg245 rfl) ?_
 obtain rfl := oi hx
 exact mid_h ⟨rfl, rfl, trivial⟩ hM
 refine gn hg245 rfl rfl <| gn hg245 rfl rfl <| wv rfl (p_f rfl hg245 rfl) ?_
 obtain rfl := oi hx
 exact mid_h ⟨rfl, rfl, trivial⟩ hM
 replace hx := hx250
 refine wmv rfl rfl <| bs hx fun c257 hx hx263 => ?_
 refine wl_midH 3 [(43, (bv c257)), (1, (pt b147 0))] hM ?_ fun w264 hM => ?_
 refine cs2 hx (fun hg258 hx => ?_) (fun hg258 hx => ?_)
 refine gv rfl hg258 rfl (r_ldBS u40 sz40 rfl (us := [(bv w_.h.shut), s_w__1.v, s_w__2.v, (iv w_.h.last), s_w__4.v, s_w__5.v, s_w__6.v, (iv w_.step)]) rfl hM m0 rfl) <| bs hx fun _ h267 hx => g_cv hM hg258 rfl rfl rfl (fun X S oL hS hR hO => ct_spec_l14Locks _ X S w_ s_w__1 s_w__2 s_w__4 s_w__5 s_w__6 hS (hR _ m0) (hR _ m1) (hR _ m2) (hR _ m3) (hR _ m4) oL h267) fun _ hM => wv rfl (p_t rfl hg258 rfl) ?_
 obtain rfl := oi hx
 exact mid_h ⟨rfl, rfl, trivial⟩ hM
 refine gn hg258 rfl rfl <| gn hg258 rfl rfl <| wv rfl (p_f rfl hg258 rfl) ?_
 obtain rfl := oi hx
 exact mid_h ⟨rfl, rfl, trivial⟩ hM
 replace hx := hx263
 refine wmv rfl rfl <| bs hx fun c270 hx hx276 => ?_
 refine wl_midH 3 [(47, (bv c270))] hM ?_ fun w277 hM => ?_
 refine cs2 hx (fun hg271 hx => ?_) (fun hg271 hx => ?_)
 refine gv rfl hg271 rfl (r_ldBS u40 sz40 rfl (us := [(bv w_.h.shut), s_w__1.v, s_w__2.v, (iv w_.h.last), s_w__4.v, s_w__5.v, s_w__6.v, (iv w_.step)]) rfl hM m0 rfl) <| bs hx fun _ h280 hx => g_cv hM hg271 rfl rfl rfl (fun X S oL hS hR hO => ct_spec_l14Queues _ X S w_ s_w__1 s_w__2 s_w__4 s_w__5 s_w__6 hS (hR _ m0) (hR _ m1) (hR _ m2) (hR _ m3) (hR _ m4) oL h280) fun _ hM => wv rfl (p_t rfl hg271 rfl) ?_
 obtain rfl := oi hx
 exact mid_h ⟨rfl, trivial⟩ hM
 refine gn hg271 rfl rfl <| gn hg271 rfl rfl <| wv rfl (p_f rfl hg271 rfl) ?_
 obtain rfl := oi hx
 exact mid_h ⟨rfl, trivial⟩ hM
 replace hx := hx276
 refine was rfl rfl <| wl_sq <| wc_ret ?_
 obtain rfl := oi hx
 exact fin_u [(bv c270)] hM ⟨rfl, trivial⟩ rfl

end Go.Proofs.YtjbonmmmcnpjiaaGreatDoor
