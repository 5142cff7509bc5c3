/- Walks of functions of this program (printed by a program of ours, by the rules of the layer). No condition. -/
import Derived.Test.YtjbonmmmcnpjiaaGreatDoorG8
import Derived.Test.YtjbonmmmcnpjiaaGreatDoorNz
namespace Go.Proofs.YtjbonmmmcnpjiaaGreatDoor
open Go.RowKit

noncomputable def x_impl_NameOk_b0 (s : ByteArray) (i3 : Int) : Option (Lr Int (Sum Unit Unit)) :=
  bif decide (i3 < (s.size : Int)) then (xg (0 ≤ i3 ∧ i3 < (s.size : Int)) <| Option.bind (bif decide (((sget s i3.toNat).toNat : Int) < 97) then (some true) else (xg (0 ≤ i3 ∧ i3 < (s.size : Int)) <| some (decide ((122 : Int) < ((sget s i3.toNat).toNat : Int))))) fun c41 => bif c41 then (some (Lr.out (Sum.inr (())))) else (xg (inI (i3 + 1)) <| some (Lr.go (i3 + 1)))) else (some (Lr.out (Sum.inl ())))
noncomputable def x_impl_NameOk_f0 (s : ByteArray) (s58 : Int) : Option (Lr Int (Sum Unit Unit)) := x_impl_NameOk_b0 s s58
noncomputable def x_impl_NameOk (s : ByteArray) : Option Bool :=
  Option.bind (iter (x_impl_NameOk_f0 s) 0) fun (y59 : Sum Unit Unit) => Sum.elim (fun _y60 => Option.bind (x_impl_within (s.size : Int) 1 8) fun r64 => some r64) (fun _y61 => some false) y59
theorem ct_impl_NameOk (w : World) (X S : Bs) (s : ByteArray) (hS : SX X S w)  (oL : Sep [] X w) {r : Bool} (hx : x_impl_NameOk s = some r) :
 Ret Tryz.prog 84 [(.string s)] w (KV X S w (bv r)) := by
 unfold x_impl_NameOk at hx
 refine enter Tryz.func84 rfl Tryz.ntmps84 (by kernel_rfl) rfl ?_
 have hM := St.enter oL hS
 refine wc_sr <| was rfl rfl <| wl_sq <| wc_seq <| wc_sr <| was rfl rfl <| wl_sq <| wc_block <| bs hx fun y70 hx hx71 => ?_
 obtain ⟨m75, hx⟩ := iter_run hx
 refine wc_loop (un fun (m73 : Nat) => fun (i72 : Int) => [(0, (.string s)), (3, (iv i72))]) (un fun (m73 : Nat) => fun (i72 : Int) w' => St ⟨w, X, S⟩ [] [] w' ∧ iterN _ m73 i72 = some y70) (fun p => p.1) (m75, 0) ⟨rfl, rfl, trivial⟩ ⟨hM, hx⟩ ?_
 rintro ⟨m73, i72⟩ w76 ⟨hM, hx⟩
 obtain ⟨m77, z78, rfl, hx, hx79⟩ := iterN_step hx
 unfold x_impl_NameOk_f0 x_impl_NameOk_b0 at hx
 try dsimp only at hx
 refine wc_seq <| wc_sr <| wmv rfl rfl <| wmv rfl rfl <| wv rfl (r_lens u9 rfl) <| wv rfl (r_lss rfl rfl) <| wl_sq ?_
 refine wcx hx rfl (fun hx => ?_) (fun hx => ?_)
 refine wc_skip <| sq_n <| wc_seq <| wc_block <| wc_sr <| wmv rfl rfl <| wmv rfl rfl <| xgs hx fun hg88 hx => wv rfl (r_sidx u9 rfl rfl hg88) <| wv rfl (r_lss rfl rfl) <| wmv rfl rfl <| bs hx fun c91 hx hx98 => ?_
 refine wl_midH 5 [(19, (bv c91)), (0, (.string s)), (3, (iv i72))] hM ?_ fun w99 hM => ?_
 refine cs2 hx (fun hg92 hx => ?_) (fun hg92 hx => ?_)
 refine gn hg92 rfl rfl <| gn hg92 rfl rfl <| gn hg92 rfl rfl <| gn hg92 rfl rfl <| wv rfl (p_t rfl hg92 rfl) ?_
 obtain rfl := oi hx
 exact mid_h ⟨rfl, rfl, rfl, trivial⟩ hM
 refine gv rfl hg92 rfl (r_move rfl) <| gv rfl hg92 rfl (r_move rfl) <| xgs hx fun hg103 hx => gv rfl hg92 rfl (r_sidx u9 rfl rfl hg103) <| gv rfl hg92 rfl (r_gtr rfl rfl) <| wv rfl (p_f rfl hg92 rfl) ?_
 cases hx
 exact mid_h ⟨rfl, rfl, rfl, trivial⟩ hM
 replace hx := hx98
 refine wl_sq ?_
 refine wcx hx rfl (fun hx => ?_) (fun hx => ?_)
 refine wc_sr <| was rfl rfl <| wl_sq <| wc_ret <| bk_ret <| sq_ret <| lp1_ret ?_
 cases hx
 obtain rfl := oi hx79
 replace hx := hx71
 refine bk_ret <| sq_ret ?_
 obtain rfl := oi hx
 exact fin_u [(bv false)] hM ⟨rfl, trivial⟩ rfl
 refine wc_skip <| bk_n <| sq_n <| wc_region <| wmv rfl rfl <| xgs hx fun hg109 hx => wv rfl (r_add rfl rfl hg109) <| was rfl rfl <| wl_nil ?_
 cases hx
 exact lp_end (m77, i72 + 1) (Nat.lt_succ_self _) ⟨rfl, rfl, trivial⟩ ⟨hM, hx79⟩
 refine wc_exit <| sq_exit <| lp1_exit ?_
 cases hx
 obtain rfl := oi hx79
 replace hx := hx71
 refine bk_here <| sq_n <| wc_sr <| wmv rfl rfl <| wv rfl (r_lens u9 rfl) <| bs hx fun r113 h114 hx => w_cv hM rfl rfl (fun X S oL hS hR hO => ct_impl_within _ X S (s.size : Int) (1 : Int) (8 : Int) hS  oL h114) fun _ hM => was rfl rfl <| wl_sq <| wc_ret ?_
 obtain rfl := oi hx
 exact fin_u [(bv r113)] hM ⟨rfl, trivial⟩ rfl

noncomputable def x_impl_HeadRev (d : DDoc) : Option Int :=
  xg (inI (d.from_ + (d.list.length : Int))) <| some (d.from_ + (d.list.length : Int))
theorem ct_impl_HeadRev (w : World) (X S : Bs) (d : DDoc) (s_d_2 : Sv) (s_d_3 : Sv) (s_d_4 : Sv) (hS : SX X S w) (a_d_2 : (cSl 1 fI d.text).rd S w s_d_2.v) (a_d_3 : (cSl 3 fDEntry d.list).rd S w s_d_3.v) (a_d_4 : (cSl 3 fDSeen d.seen).rd S w s_d_4.v) (oL : Sep [] X w) {r : Int} (hx : x_impl_HeadRev d = some r) :
 Ret Tryz.prog 110 [(.agg #[(.string d.name), (iv d.from_), s_d_2.v, s_d_3.v, s_d_4.v])] w (KV X S w (iv r)) := by
 unfold x_impl_HeadRev at hx
 refine enter Tryz.func110 rfl Tryz.ntmps110 (by kernel_rfl) rfl ?_
 have hM := (((St.enter oL hS).addV a_d_2).addV a_d_3).addV a_d_4
 refine wc_sr ?_
 refine w_ex rfl (x_box rfl hM ?_); intro b15 w14 hR16 hM
 refine was rfl rfl <| wl_sq <| wc_sr <| wv rfl (r_fld u132 rfl rfl sz3 rfl) <| wv rfl (r_ldB u3 rfl rfl hM m0 rfl) <| wv rfl (r_fld u132 rfl rfl sz60 rfl) <| wv rfl (r_ldB u60 rfl rfl hM m0 rfl) <| wv rfl (r_lenC u60 rfl (hM.seeR m1)) <| xgs hx fun hg25 hx => wv rfl (r_add rfl rfl hg25) <| was rfl rfl <| wl_sq <| wc_ret ?_
 obtain rfl := oi hx
 exact fin_u [(iv (d.from_ + (d.list.length : Int)))] hM ⟨rfl, trivial⟩ rfl

noncomputable def x_impl_DocOk_b0 (_d : DDoc) (_k58 : Nat) (x99 : DEntry) : Option (Lr Unit (Sum Unit Unit)) :=
  Option.bind (x_impl_EntryOk x99) fun r92 => bif !r92 then (some (Lr.out (Sum.inr (())))) else (some (Lr.go ()))
noncomputable def x_impl_DocOk_f0 (d : DDoc) (k58 : Nat) (_s100 : Unit) : Option (Lr Unit (Sum Unit Unit)) := x_impl_DocOk_b0 d k58 (el d.list k58)
noncomputable def x_impl_DocOk_b1 (d : DDoc) (k137 : Nat) (x390 : DSeen) : Option (Lr Unit (Sum Unit Bool)) :=
  Option.bind (x_impl_within (x390.client) 1 8) fun r278 => Option.bind (bif !r278 then (some true) else (Option.bind (bif decide ((0 : Int) < (k137 : Int)) then (xg (inI ((k137 : Int) - 1)) <| xg (0 ≤ ((k137 : Int) - 1) ∧ ((k137 : Int) - 1) < (d.seen.length : Int)) <| some (decide ((x390.client) ≤ ((el d.seen (((k137 : Int) - 1).toNat)).client)))) else (some false)) fun c319 => some c319)) fun c283 => Option.bind (bif c283 then (some true) else (Option.bind (x_impl_within (x390.seq) 1 1000000000) fun r358 => some (!r358))) fun c348 => Option.bind (bif c348 then (some true) else (Option.bind (x_impl_HeadRev d) fun r378 => Option.bind (x_impl_within (x390.rev) 1 r378) fun r381 => some (!r381))) fun c363 => bif c363 then (some (Lr.out (Sum.inr (false)))) else (some (Lr.go ()))
noncomputable def x_impl_DocOk_f1 (d : DDoc) (k137 : Nat) (_s391 : Unit) : Option (Lr Unit (Sum Unit Bool)) := x_impl_DocOk_b1 d k137 (el d.seen k137)
noncomputable def x_impl_DocOk (d : DDoc) : Option Bool :=
  Option.bind (x_impl_NameOk d.name) fun r8 => Option.bind (bif !r8 then (some true) else (Option.bind (x_impl_within d.from_ 0 999999000) fun r23 => some (!r23))) fun c13 => Option.bind (bif c13 then (some true) else (Option.bind (x_impl_TextOk d.text) fun r38 => some (!r38))) fun c28 => Option.bind (bif c28 then (some true) else (some (decide ((8 : Int) < (d.list.length : Int))))) fun c43 => bif c43 then (some false) else (Option.bind (eachN (x_impl_DocOk_f0 d) (fun (_s100 : Unit) => (Sum.inl () : Sum Unit Unit)) d.list.length 0 ()) fun (y101 : Sum Unit Unit) => Sum.elim (fun _y102 => Option.bind (x_impl_opsOf d.list) fun r108 => Option.bind (x_impl_ApplyAll r108 d.text) fun r116 => bif !r116.2 then (some false) else (Option.bind (eachN (x_impl_DocOk_f1 d) (fun (_s391 : Unit) => (Sum.inl () : Sum Unit Bool)) d.seen.length 0 ()) fun (y392 : Sum Unit Bool) => Sum.elim (fun _y393 => some true) (fun y394 => some y394) y392)) (fun _y103 => some false) y101)
theorem ct_impl_DocOk (w : World) (X S : Bs) (d : DDoc) (s_d_2 : Sv) (s_d_3 : Sv) (s_d_4 : Sv) (hS : SX X S w) (a_d_2 : (cSl 1 fI d.text).rd S w s_d_2.v) (a_d_3 : (cSl 3 fDEntry d.list).rd S w s_d_3.v) (a_d_4 : (cSl 3 fDSeen d.seen).rd S w s_d_4.v) (oL : Sep [] X w) {r : Bool} (hx : x_impl_DocOk d = some r) :
 Ret Tryz.prog 107 [(.agg #[(.string d.name), (iv d.from_), s_d_2.v, s_d_3.v, s_d_4.v])] w (KV X S w (bv r)) := by
 unfold x_impl_DocOk at hx
 refine enter Tryz.func107 rfl Tryz.ntmps107 (by kernel_rfl) rfl ?_
 have hM := (((St.enter oL hS).addV a_d_2).addV a_d_3).addV a_d_4
 refine wc_sr ?_
 refine w_ex rfl (x_box rfl hM ?_); intro b397 w396 hR398 hM
 refine was rfl rfl <| wl_sq <| wc_seq <| wc_sr <| wv rfl (r_fld u132 rfl rfl sz9 rfl) <| wv rfl (r_ldB u9 rfl rfl hM m0 rfl) <| bs hx fun _ h404 hx => w_cv hM rfl rfl (fun X S oL hS hR hO => ct_impl_NameOk _ X S d.name hS  oL h404) fun _ hM => wv rfl (r_not rfl) <| wmv rfl rfl <| bs hx fun c408 hx hx416 => ?_
 refine wl_midH 5 [(18, (bv c408)), (1, (pt b397 0))] hM ?_ fun w417 hM => ?_
 refine cs2 hx (fun hg409 hx => ?_) (fun hg409 hx => ?_)
 refine gn hg409 rfl rfl <| gn hg409 rfl rfl <| gn hg409 rfl rfl <| gn hg409 rfl rfl <| wv rfl (p_t rfl hg409 rfl) ?_
 obtain rfl := oi hx
 exact mid_h ⟨rfl, rfl, trivial⟩ hM
 refine gv rfl hg409 rfl (r_fld u132 rfl rfl sz3 rfl) <| gv rfl hg409 rfl (r_ldB u3 rfl rfl hM m0 rfl) <| bs hx fun _ h421 hx => g_cv hM hg409 rfl rfl rfl (fun X S oL hS hR hO => ct_impl_within _ X S d.from_ (0 : Int) (999999000 : Int) hS  oL h421) fun _ hM => gv rfl hg409 rfl (r_not rfl) <| wv rfl (p_f rfl hg409 rfl) ?_
 cases hx
 exact mid_h ⟨rfl, rfl, trivial⟩ hM
 replace hx := hx416
 refine wmv rfl rfl <| bs hx fun c425 hx hx433 => ?_
 refine wl_midH 5 [(24, (bv c425)), (1, (pt b397 0))] hM ?_ fun w434 hM => ?_
 refine cs2 hx (fun hg426 hx => ?_) (fun hg426 hx => ?_)
 refine gn hg426 rfl rfl <| gn hg426 rfl rfl <| gn hg426 rfl rfl <| gn hg426 rfl rfl <| wv rfl (p_t rfl hg426 rfl) ?_
 obtain rfl := oi hx
 exact mid_h ⟨rfl, rfl, trivial⟩ hM
 refine gv rfl hg426 rfl (r_fld u132 rfl rfl sz26 rfl) <| gv rfl hg426 rfl (r_ldB u26 rfl rfl hM m0 rfl) <| bs hx fun _ h438 hx => g_cv hM hg426 rfl rfl rfl (fun X S oL hS hR hO => ct_impl_TextOk _ X S d.text s_d_2 hS (hR _ m2) oL h438) fun _ hM => gv rfl hg426 rfl (r_not rfl) <| wv rfl (p_f rfl hg426 rfl) ?_
 cases hx
 exact mid_h ⟨rfl, rfl, trivial⟩ hM
 replace hx := hx433
 refine wmv rfl rfl <| bs hx fun c442 hx hx448 => ?_
 refine wl_midH 5 [(30, (bv c442)), (1, (pt b397 0))] hM ?_ fun w449 hM => ?_
 refine cs2 hx (fun hg443 hx => ?_) (fun hg443 hx => ?_)
 refine gn hg443 rfl rfl <| gn hg443 rfl rfl <| gn hg443 rfl rfl <| gn hg443 rfl rfl <| wv rfl (p_t rfl hg443 rfl) ?_
 obtain rfl := oi hx
 exact mid_h ⟨rfl, rfl, trivial⟩ hM
 refine gv rfl hg443 rfl (r_fld u132 rfl rfl sz60 rfl) <| gv rfl hg443 rfl (r_ldB u60 rfl rfl hM m0 rfl) <| gv rfl hg443 rfl (r_lenC u60 rfl (hM.seeR m1)) <| gv rfl hg443 rfl (r_gtr rfl rfl) <| wv rfl (p_f rfl hg443 rfl) ?_
 cases hx
 exact mid_h ⟨rfl, rfl, trivial⟩ hM
 replace hx := hx448
 refine wl_sq ?_
 refine wcx hx rfl (fun hx => ?_) (fun hx => ?_)
 refine wc_sr <| was rfl rfl <| wl_sq <| wc_ret <| sq_ret ?_
 obtain rfl := oi hx
 exact fin_u [(bv false)] hM ⟨rfl, trivial⟩ rfl
 refine wc_skip <| sq_n <| wc_seq <| wc_sr <| wv rfl (r_fld u132 rfl rfl sz60 rfl) <| wv rfl (r_ldB u60 rfl rfl hM m0 rfl) <| wv rfl (r_lenC u60 rfl (hM.seeR m1)) <| wmv rfl rfl <| wl_sq <| wc_block <| bs hx fun y460 hx hx461 => ?_
 have hM := hM.fewer (rsC m2 (rsC m1 (rsC m0 rsN)))
 replace hM : St ⟨w, X, S⟩ [oBox b397 #[(.string d.name), (iv d.from_), s_d_2.v, s_d_3.v, s_d_4.v] 132] [rV s_d_2.v (cSl 1 fI d.text), rV s_d_3.v (cSl 3 fDEntry d.list), rV s_d_4.v (cSl 3 fDSeen d.seen)] _ := hM
 have hl465 := Cs.le (hM.seeR m1)
 refine wc_loop (un fun (m462 : Nat) => fun (k463 : Nat) => [(1, (pt b397 0)), (32, s_d_3.v), (33, (iv (d.list.length : Int))), (34, (iv (k463 : Int)))]) (un fun (m462 : Nat) => fun (k463 : Nat) w' => St ⟨w, X, S⟩ [oBox b397 #[(.string d.name), (iv d.from_), s_d_2.v, s_d_3.v, s_d_4.v] 132] [rV s_d_2.v (cSl 1 fI d.text), rV s_d_3.v (cSl 3 fDEntry d.list), rV s_d_4.v (cSl 3 fDSeen d.seen)] w' ∧ eachN _ _ m462 k463 () = some y460 ∧ k463 + m462 = d.list.length) (fun p => p.1) (d.list.length, 0) ⟨rfl, rfl, rfl, rfl, trivial⟩ ⟨hM, hx, Nat.zero_add _⟩ ?_
 rintro ⟨m462, k463⟩ w466 ⟨hM, hx, hk464⟩
 refine wc_sr <| wv rfl (r_lss rfl rfl) <| wl_sq <| wc_seq ?_
 refine wc_cond rfl (fun hc468 => ?_) (fun hc468 => ?_)
 replace hc468 := of_decide_eq_true hc468
 obtain ⟨m469, z470, rfl, hk464, hx, hx471⟩ := eachN_step hx hk464 hc468
 unfold x_impl_DocOk_f0 x_impl_DocOk_b0 at hx
 try dsimp only at hx
 refine wc_skip <| sq_n <| wc_seq <| wc_block <| wc_sr ?_
 have hi473 : k463 < d.list.length := by omega
 refine wv rfl (r_ixC u60 sz158 rfl rfl (hM.seeR m1) ⟨by omega, hc468⟩) ?_
 obtain ⟨s475, hM, hc476⟩ := hM.leaf (i := k463) (j := 2) m1 (fun _ => rfl) hi473 rfl
 refine wv rfl (r_ldC (o := k463 * 3) u158 sz158 rfl (us := [(iv ((el d.list k463).client)), (iv ((el d.list k463).seq)), s475.v]) rfl (hM.seeR m2) hi473 ⟨(Cs.get (i := k463) (j := 0) (hM.seeR m2) (fun _ => rfl) hi473 rfl), (Cs.get (i := k463) (j := 1) (hM.seeR m2) (fun _ => rfl) hi473 rfl), (hc476 _ (Rel.refl _)), trivial⟩) ?_
 refine w_ex rfl (x_alloc sz158 hM ?_); intro b478 w477 hR479 hM
 refine w_exu (x_stB #[(iv ((el d.list k463).client)), (iv ((el d.list k463).seq)), s475.v] sz158 rfl rfl rfl rfl rfl rfl hM ?_); intro w481 hM
 refine wl_sq <| wc_sr <| wv rfl (r_ldBS u158 sz158 rfl (us := [(iv ((el d.list k463).client)), (iv ((el d.list k463).seq)), s475.v]) rfl hM m0 rfl) <| bs hx fun _ h485 hx => w_cv hM rfl rfl (fun X S oL hS hR hO => ct_impl_EntryOk _ X S (el d.list k463) s475 hS (hR _ m0) oL h485) fun _ hM => wv rfl (r_not rfl) <| wl_sq ?_
 refine wcx hx rfl (fun hx => ?_) (fun hx => ?_)
 refine wc_sr <| was rfl rfl <| wl_sq <| wc_ret <| bk_ret <| sq_ret <| lp1_ret ?_
 cases hx
 obtain rfl := oi hx471
 replace hx := hx461
 refine bk_ret <| sq_ret ?_
 obtain rfl := oi hx
 exact fin_u [(bv false)] hM ⟨rfl, trivial⟩ rfl
 refine wc_skip <| bk_n <| sq_n <| wc_region <| wv rfl (r_add rfl rfl ⟨by omega, by omega⟩) <| wmv rfl rfl <| wl_nil ?_
 cases hx
 replace hM := hM.p1
 replace hM := hM.t1
 have hM := hM.fewer (rsC m1 (rsC m2 (rsC m3 rsN)))
 replace hM : St ⟨w, X, S⟩ [oBox b397 #[(.string d.name), (iv d.from_), s_d_2.v, s_d_3.v, s_d_4.v] 132] [rV s_d_2.v (cSl 1 fI d.text), rV s_d_3.v (cSl 3 fDEntry d.list), rV s_d_4.v (cSl 3 fDSeen d.seen)] _ := hM
 exact lp_end (m469, k463 + 1) (Nat.lt_succ_self _) ⟨rfl, rfl, rfl, rfl, trivial⟩ ⟨hM, hx471, hk464⟩
 replace hc468 := of_decide_eq_false hc468
 obtain rfl := eachN_end hx hk464 hc468
 refine wc_exit <| sq_exit <| lp1_exit ?_
 replace hx := hx461
 refine bk_here <| sq_n <| wc_seq <| wc_seq <| wc_draw [(0, 0), (1, 0), (3, 0), (4, 0), (2, 1), (5, 2), (6, 0), (7, 0), (8, 0), (9, 0), (10, 0)] Tryz_mixed (by kernel_rfl) rfl (by kernel_rfl) rfl <| ov rfl (fun w' h' => r_fld u132 rfl rfl sz60 rfl) <| ov rfl (fun w' h' => r_ldB u60 rfl rfl (hM.call h') m0 rfl) <| ov rfl (fun w' h' => r_fld u132 rfl rfl sz26 rfl) <| ov rfl (fun w' h' => r_ldB u26 rfl rfl (hM.call h') m0 rfl) <| bs hx fun r496 h497 hx => o_forced rfl rfl (fun w' h' => (hM.call h').callF fun X S oL hS hR hO => ct_impl_opsOf _ X S d.list s_d_3 hS (hR _ m1) oL h497) ?_
 rintro w500 h501 _ w498 ⟨hR502, s499, rfl, hM⟩
 refine ⟨hR502, ?_⟩
 dsimp only [List.cons_append, List.nil_append] at hM
 refine bs hx fun _ h505 hx => o_call rfl rfl (fun w' h' => (hM.call h').callO (l := []) fun X S oL hS hR hO => ct_impl_ApplyAll _ X S r496 s499 d.text s_d_2 hS (seeA hO m0) (hR _ m0) oL h505) ?_
 rintro w508 h509 _ w506 ⟨s507, rfl, hM⟩
 dsimp only [List.cons_append, List.nil_append] at hM
 refine omv rfl rfl <| ov rfl (fun w' h' => r_extract rfl rfl) <| ov rfl (fun w' h' => r_extract rfl rfl) <| ov rfl (fun w' h' => r_assign rfl) <| ov rfl (fun w' h' => r_assign rfl) <| o_nilM hM fun _ hM => sq_n <| wc_sr <| wmv rfl rfl <| wv rfl (r_not rfl) <| wl_sq ?_
 refine wcx hx rfl (fun hx => ?_) (fun hx => ?_)
 refine wc_sr <| was rfl rfl <| wl_sq <| wc_ret <| sq_ret ?_
 obtain rfl := oi hx
 exact fin_u [(bv false)] hM ⟨rfl, trivial⟩ rfl
 refine wc_skip <| sq_n <| wc_seq <| wc_sr <| wv rfl (r_fld u132 rfl rfl sz130 rfl) <| wv rfl (r_ldB u130 rfl rfl hM m2 rfl) <| wv rfl (r_lenC u130 rfl (hM.seeR m2)) <| wmv rfl rfl <| wl_sq <| wc_block <| bs hx fun y526 hx hx527 => ?_
 replace hM := hM.p2
 replace hM := hM.t1
 have hl531 := Cs.le (hM.seeR m2)
 refine wc_loop (un fun (m528 : Nat) => fun (k529 : Nat) => [(1, (pt b397 0)), (54, s_d_4.v), (55, (iv (d.seen.length : Int))), (56, (iv (k529 : Int)))]) (un fun (m528 : Nat) => fun (k529 : Nat) w' => St ⟨w, X, S⟩ [oBox b397 #[(.string d.name), (iv d.from_), s_d_2.v, s_d_3.v, s_d_4.v] 132] [rV s_d_2.v (cSl 1 fI d.text), rV s_d_3.v (cSl 3 fDEntry d.list), rV s_d_4.v (cSl 3 fDSeen d.seen)] w' ∧ eachN _ _ m528 k529 () = some y526 ∧ k529 + m528 = d.seen.length) (fun p => p.1) (d.seen.length, 0) ⟨rfl, rfl, rfl, rfl, trivial⟩ ⟨hM, hx, Nat.zero_add _⟩ ?_
 rintro ⟨m528, k529⟩ w532 ⟨hM, hx, hk530⟩
 refine wc_sr <| wv rfl (r_lss rfl rfl) <| wl_sq <| wc_seq ?_
 refine wc_cond rfl (fun hc534 => ?_) (fun hc534 => ?_)
 replace hc534 := of_decide_eq_true hc534
 obtain ⟨m535, z536, rfl, hk530, hx, hx537⟩ := eachN_step hx hk530 hc534
 unfold x_impl_DocOk_f1 x_impl_DocOk_b1 at hx
 try dsimp only at hx
 refine wc_skip <| sq_n <| wc_seq <| wc_block <| wc_sr <| wmv rfl rfl ?_
 have hi540 : k529 < d.seen.length := by omega
 refine wv rfl (r_ixC u130 sz168 rfl rfl (hM.seeR m2) ⟨by omega, hc534⟩) <| wv rfl (r_ldC (o := k529 * 3) u168 sz168 rfl (us := [(iv ((el d.seen k529).client)), (iv ((el d.seen k529).seq)), (iv ((el d.seen k529).rev))]) rfl (hM.seeR m2) hi540 ⟨(Cs.get (i := k529) (j := 0) (hM.seeR m2) (fun _ => rfl) hi540 rfl), (Cs.get (i := k529) (j := 1) (hM.seeR m2) (fun _ => rfl) hi540 rfl), (Cs.get (i := k529) (j := 2) (hM.seeR m2) (fun _ => rfl) hi540 rfl), trivial⟩) ?_
 refine w_ex rfl (x_alloc sz168 hM ?_); intro b543 w542 hR544 hM
 refine was rfl rfl ?_
 refine w_exu (x_stB #[(iv ((el d.seen k529).client)), (iv ((el d.seen k529).seq)), (iv ((el d.seen k529).rev))] sz168 rfl rfl rfl rfl rfl rfl hM ?_); intro w547 hM
 refine wl_sq <| wc_seq <| wc_draw [(0, 0), (1, 0), (2, 0), (3, 0), (4, 0), (5, 0), (6, 0), (7, 0), (8, 0), (9, 0), (10, 0), (11, 0), (12, 0), (13, 0), (14, 0), (15, 0), (16, 0), (17, 0), (18, 0), (19, 0), (20, 0), (21, 0), (22, 0), (23, 0), (24, 0), (25, 0), (26, 0), (27, 0), (28, 0), (29, 0), (30, 0), (31, 0), (32, 0), (33, 0)] Tryz_mixed (by kernel_rfl) rfl (by kernel_rfl) rfl <| ov rfl (fun w' h' => r_fld u168 rfl rfl sz3 rfl) <| ov rfl (fun w' h' => r_ldB u3 rfl rfl (hM.call h') m0 rfl) <| bs hx fun r551 h552 hx => oc rfl rfl (fun w' h' => (hM.call h').callV fun X S oL hS hR hO => ct_impl_within _ X S ((el d.seen k529).client) (1 : Int) (8 : Int) hS  oL h552) <| ov rfl (fun w' h' => r_not rfl) <| omv rfl rfl <| bs hx fun c556 hx hx589 => ?_
 refine wo_mid 15 [(80, (bv c556)), (1, (pt b397 0)), (8, (pt b543 0)), (54, s_d_4.v), (55, (iv (d.seen.length : Int))), (56, (iv (k529 : Int)))] rfl ?_ ?_
 refine cs2 hx (fun hg557 hx => ?_) (fun hg557 hx => ?_)
 refine ogs rfl (isB_no hg557) rfl <| ogs rfl (isB_no hg557) rfl <| ogs rfl (isB_no hg557) rfl <| ogs rfl rfl rfl <| ogs rfl rfl rfl <| ogs rfl rfl rfl <| ogs rfl rfl rfl <| ogs rfl rfl rfl <| ogs rfl rfl rfl <| ogs rfl rfl rfl <| ogs rfl rfl rfl <| ogs rfl rfl rfl <| ogs rfl rfl rfl <| ogs rfl (isB_no hg557) rfl ?_
 refine ov rfl (fun w' h' => p_t rfl hg557 rfl) ?_
 obtain rfl := oi hx
 exact mid_onil ⟨rfl, rfl, rfl, rfl, rfl, rfl, trivial⟩
 refine ogv rfl hg557 rfl (fun w' h' => r_move rfl) <| ogv rfl hg557 rfl (fun w' h' => r_gtr rfl rfl) <| ogv rfl hg557 rfl (fun w' h' => r_move rfl) <| bs hx fun c593 hx hx608 => ?_
 refine wo_mid 11 [(79, (bv c593)), (1, (pt b397 0)), (8, (pt b543 0)), (54, s_d_4.v), (55, (iv (d.seen.length : Int))), (56, (iv (k529 : Int))), (65, (bv (!r551))), (66, (iv (k529 : Int))), (67, (bv (decide ((0 : Int) < (k529 : Int))))), (68, (bv (decide ((0 : Int) < (k529 : Int)))))] rfl ?_ ?_
 refine cs2 hx (fun hg594 hx => ?_) (fun hg594 hx => ?_)
 refine ogv rfl hg594 rfl (fun w' h' => r_fld u132 rfl rfl sz130 rfl) <| ogv rfl hg594 rfl (fun w' h' => r_ldB u130 rfl rfl (hM.call h') m1 rfl) <| ogv rfl hg594 rfl (fun w' h' => r_move rfl) <| xgs hx fun hg613 hx => ogv rfl hg594 rfl (fun w' h' => r_sub rfl rfl hg613) <| xgs hx fun hg616 hx => ?_
 have hi615 : (((k529 : Int) - 1).toNat) < d.seen.length := by omega
 refine ogv rfl hg594 rfl (fun w' h' => r_ixC u130 sz168 rfl rfl ((hM.call h').seeR m2) hg616) <| ogv rfl hg594 rfl (fun w' h' => r_fldC (i := (((k529 : Int) - 1).toNat)) u168 rfl rfl sz3 rfl ((hM.call h').seeR m2) hi615) <| ogv rfl hg594 rfl (fun w' h' => r_ld u3 rfl rfl (Cs.get (i := (((k529 : Int) - 1).toNat)) (j := 0) ((hM.call h').seeR m2) (fun _ => rfl) hi615 rfl)) <| ogv rfl hg594 rfl (fun w' h' => r_fld u168 rfl rfl sz3 rfl) <| ogv rfl hg594 rfl (fun w' h' => r_ldB u3 rfl rfl (hM.call h') m0 rfl) <| ogv rfl hg594 rfl (fun w' h' => r_geq rfl rfl) <| ogv rfl hg557 rfl (fun w' h' => p_t rfl hg594 rfl) ?_
 cases hx
 exact mid_onil ⟨rfl, rfl, rfl, rfl, rfl, rfl, rfl, rfl, rfl, rfl, trivial⟩
 refine ogs rfl (isB_no hg594) rfl <| ogs rfl (isB_no hg594) rfl <| ogs rfl (isB_no hg594) rfl <| ogs rfl (isB_no hg594) rfl <| ogs rfl (isB_no hg594) rfl <| ogs rfl (isB_no hg594) rfl <| ogs rfl (isB_no hg594) rfl <| ogs rfl (isB_no hg594) rfl <| ogs rfl (isB_no hg594) rfl <| ogs rfl (isB_no hg594) rfl <| ogv rfl hg557 rfl (fun w' h' => p_f rfl hg594 rfl) ?_
 obtain rfl := oi hx
 exact mid_onil ⟨rfl, rfl, rfl, rfl, rfl, rfl, rfl, rfl, rfl, rfl, trivial⟩
 replace hx := hx608
 refine ov rfl (fun w' h' => p_f rfl hg557 rfl) ?_
 obtain rfl := oi hx
 exact mid_onil ⟨rfl, rfl, rfl, rfl, rfl, rfl, trivial⟩
 replace hx := hx589
 refine omv rfl rfl <| bs hx fun c623 hx hx631 => ?_
 refine wo_mid 5 [(86, (bv c623)), (1, (pt b397 0)), (8, (pt b543 0)), (54, s_d_4.v), (55, (iv (d.seen.length : Int))), (56, (iv (k529 : Int)))] rfl ?_ ?_
 refine cs2 hx (fun hg624 hx => ?_) (fun hg624 hx => ?_)
 refine ogs rfl (isB_no hg624) rfl <| ogs rfl (isB_no hg624) rfl <| ogs rfl (isB_no hg624) rfl <| ogs rfl (isB_no hg624) rfl <| ov rfl (fun w' h' => p_t rfl hg624 rfl) ?_
 obtain rfl := oi hx
 exact mid_onil ⟨rfl, rfl, rfl, rfl, rfl, rfl, trivial⟩
 refine ogv rfl hg624 rfl (fun w' h' => r_fld u168 rfl rfl sz3 rfl) <| ogv rfl hg624 rfl (fun w' h' => r_ldB u3 rfl rfl (hM.call h') m0 rfl) <| bs hx fun _ h635 hx => ogc rfl hg624 rfl rfl (fun w' h' => (hM.call h').callV fun X S oL hS hR hO => ct_impl_within _ X S ((el d.seen k529).seq) (1 : Int) (1000000000 : Int) hS  oL h635) <| ogv rfl hg624 rfl (fun w' h' => r_not rfl) <| ov rfl (fun w' h' => p_f rfl hg624 rfl) ?_
 cases hx
 exact mid_onil ⟨rfl, rfl, rfl, rfl, rfl, rfl, trivial⟩
 replace hx := hx631
 refine omv rfl rfl <| bs hx fun c639 hx hx651 => ?_
 refine wo_mid 7 [(94, (bv c639)), (1, (pt b397 0)), (54, s_d_4.v), (55, (iv (d.seen.length : Int))), (56, (iv (k529 : Int)))] rfl ?_ ?_
 refine cs2 hx (fun hg640 hx => ?_) (fun hg640 hx => ?_)
 refine ogs rfl (isB_no hg640) rfl <| ogs rfl (isB_no hg640) rfl <| ogs rfl (isB_no hg640) rfl <| ogs rfl (isB_no hg640) rfl <| ogs rfl (isB_no hg640) rfl <| ogs rfl (isB_no hg640) rfl <| ov rfl (fun w' h' => p_t rfl hg640 rfl) ?_
 obtain rfl := oi hx
 exact mid_onil ⟨rfl, rfl, rfl, rfl, rfl, trivial⟩
 refine ogv rfl hg640 rfl (fun w' h' => r_fld u168 rfl rfl sz3 rfl) <| ogv rfl hg640 rfl (fun w' h' => r_ldB u3 rfl rfl (hM.call h') m0 rfl) <| ogv rfl hg640 rfl (fun w' h' => r_ldBS u132 sz132 rfl (us := [(.string d.name), (iv d.from_), s_d_2.v, s_d_3.v, s_d_4.v]) rfl (hM.call h') m1 rfl) <| bs hx fun r655 h656 hx => ogc rfl hg640 rfl rfl (fun w' h' => (hM.call h').callV fun X S oL hS hR hO => ct_impl_HeadRev _ X S d s_d_2 s_d_3 s_d_4 hS (hR _ m0) (hR _ m1) (hR _ m2) oL h656) <| bs hx fun _ h659 hx => ogc rfl hg640 rfl rfl (fun w' h' => (hM.call h').callV fun X S oL hS hR hO => ct_impl_within _ X S ((el d.seen k529).rev) (1 : Int) r655 hS  oL h659) <| ogv rfl hg640 rfl (fun w' h' => r_not rfl) <| ov rfl (fun w' h' => p_f rfl hg640 rfl) ?_
 cases hx
 exact mid_onil ⟨rfl, rfl, rfl, rfl, rfl, trivial⟩
 replace hx := hx651
 refine o_nilM hM fun _ hM => sq_n ?_
 refine wcx hx rfl (fun hx => ?_) (fun hx => ?_)
 refine wc_sr <| was rfl rfl <| wl_sq <| wc_ret <| bk_ret <| sq_ret <| lp1_ret ?_
 cases hx
 obtain rfl := oi hx537
 replace hx := hx527
 refine bk_ret <| sq_ret ?_
 obtain rfl := oi hx
 exact fin_u [(bv false)] hM ⟨rfl, trivial⟩ rfl
 refine wc_skip <| bk_n <| sq_n <| wc_region <| wv rfl (r_add rfl rfl ⟨by omega, by omega⟩) <| wmv rfl rfl <| wl_nil ?_
 cases hx
 replace hM := hM.p1
 replace hM := hM.t1
 exact lp_end (m535, k529 + 1) (Nat.lt_succ_self _) ⟨rfl, rfl, rfl, rfl, trivial⟩ ⟨hM, hx537, hk530⟩
 replace hc534 := of_decide_eq_false hc534
 obtain rfl := eachN_end hx hk530 hc534
 refine wc_exit <| sq_exit <| lp1_exit ?_
 replace hx := hx527
 refine bk_here <| sq_n <| wc_sr <| was rfl rfl <| wl_sq <| wc_ret ?_
 obtain rfl := oi hx
 exact fin_u [(bv true)] hM ⟨rfl, trivial⟩ rfl

noncomputable def x_spec_NameOk_b0 (s : ByteArray) (i3 : Int) : Option (Lr Int (Sum Unit Unit)) :=
  bif decide (i3 < (s.size : Int)) then (xg (0 ≤ i3 ∧ i3 < (s.size : Int)) <| Option.bind (bif decide (((sget s i3.toNat).toNat : Int) < 97) then (some true) else (xg (0 ≤ i3 ∧ i3 < (s.size : Int)) <| some (decide ((122 : Int) < ((sget s i3.toNat).toNat : Int))))) fun c41 => bif c41 then (some (Lr.out (Sum.inr (())))) else (xg (inI (i3 + 1)) <| some (Lr.go (i3 + 1)))) else (some (Lr.out (Sum.inl ())))
noncomputable def x_spec_NameOk_f0 (s : ByteArray) (s58 : Int) : Option (Lr Int (Sum Unit Unit)) := x_spec_NameOk_b0 s s58
noncomputable def x_spec_NameOk (s : ByteArray) : Option Bool :=
  Option.bind (iter (x_spec_NameOk_f0 s) 0) fun (y59 : Sum Unit Unit) => Sum.elim (fun _y60 => Option.bind (x_spec_l01In (s.size : Int) 1 8) fun r64 => some r64) (fun _y61 => some false) y59
theorem ct_spec_NameOk (w : World) (X S : Bs) (s : ByteArray) (hS : SX X S w)  (oL : Sep [] X w) {r : Bool} (hx : x_spec_NameOk s = some r) :
 Ret Tryz.prog 76 [(.string s)] w (KV X S w (bv r)) := by
 unfold x_spec_NameOk at hx
 refine enter Tryz.func76 rfl Tryz.ntmps76 (by kernel_rfl) rfl ?_
 have hM := St.enter oL hS
 refine wc_sr <| was rfl rfl <| wl_sq <| wc_seq <| wc_sr <| was rfl rfl <| wl_sq <| wc_block <| bs hx fun y70 hx hx71 => ?_
 obtain ⟨m75, hx⟩ := iter_run hx
 refine wc_loop (un fun (m73 : Nat) => fun (i72 : Int) => [(0, (.string s)), (3, (iv i72))]) (un fun (m73 : Nat) => fun (i72 : Int) w' => St ⟨w, X, S⟩ [] [] w' ∧ iterN _ m73 i72 = some y70) (fun p => p.1) (m75, 0) ⟨rfl, rfl, trivial⟩ ⟨hM, hx⟩ ?_
 rintro ⟨m73, i72⟩ w76 ⟨hM, hx⟩
 obtain ⟨m77, z78, rfl, hx, hx79⟩ := iterN_step hx
 unfold x_spec_NameOk_f0 x_spec_NameOk_b0 at hx
 try dsimp only at hx
 refine wc_seq <| wc_sr <| wmv rfl rfl <| wmv rfl rfl <| wv rfl (r_lens u9 rfl) <| wv rfl (r_lss rfl rfl) <| wl_sq ?_
 refine wcx hx rfl (fun hx => ?_) (fun hx => ?_)
 refine wc_skip <| sq_n <| wc_seq <| wc_block <| wc_sr <| wmv rfl rfl <| wmv rfl rfl <| xgs hx fun hg88 hx => wv rfl (r_sidx u9 rfl rfl hg88) <| wv rfl (r_lss rfl rfl) <| wmv rfl rfl <| bs hx fun c91 hx hx98 => ?_
 refine wl_midH 5 [(19, (bv c91)), (0, (.string s)), (3, (iv i72))] hM ?_ fun w99 hM => ?_
 refine cs2 hx (fun hg92 hx => ?_) (fun hg92 hx => ?_)
 refine gn hg92 rfl rfl <| gn hg92 rfl rfl <| gn hg92 rfl rfl <| gn hg92 rfl rfl <| wv rfl (p_t rfl hg92 rfl) ?_
 obtain rfl := oi hx
 exact mid_h ⟨rfl, rfl, rfl, trivial⟩ hM
 refine gv rfl hg92 rfl (r_move rfl) <| gv rfl hg92 rfl (r_move rfl) <| xgs hx fun hg103 hx => gv rfl hg92 rfl (r_sidx u9 rfl rfl hg103) <| gv rfl hg92 rfl (r_gtr rfl rfl) <| wv rfl (p_f rfl hg92 rfl) ?_
 cases hx
 exact mid_h ⟨rfl, rfl, rfl, trivial⟩ hM
 replace hx := hx98
 refine wl_sq ?_
 refine wcx hx rfl (fun hx => ?_) (fun hx => ?_)
 refine wc_sr <| was rfl rfl <| wl_sq <| wc_ret <| bk_ret <| sq_ret <| lp1_ret ?_
 cases hx
 obtain rfl := oi hx79
 replace hx := hx71
 refine bk_ret <| sq_ret ?_
 obtain rfl := oi hx
 exact fin_u [(bv false)] hM ⟨rfl, trivial⟩ rfl
 refine wc_skip <| bk_n <| sq_n <| wc_region <| wmv rfl rfl <| xgs hx fun hg109 hx => wv rfl (r_add rfl rfl hg109) <| was rfl rfl <| wl_nil ?_
 cases hx
 exact lp_end (m77, i72 + 1) (Nat.lt_succ_self _) ⟨rfl, rfl, trivial⟩ ⟨hM, hx79⟩
 refine wc_exit <| sq_exit <| lp1_exit ?_
 cases hx
 obtain rfl := oi hx79
 replace hx := hx71
 refine bk_here <| sq_n <| wc_sr <| wmv rfl rfl <| wv rfl (r_lens u9 rfl) <| bs hx fun r113 h114 hx => w_cv hM rfl rfl (fun X S oL hS hR hO => ct_spec_l01In _ X S (s.size : Int) (1 : Int) (8 : Int) hS  oL h114) fun _ hM => was rfl rfl <| wl_sq <| wc_ret ?_
 obtain rfl := oi hx
 exact fin_u [(bv r113)] hM ⟨rfl, trivial⟩ rfl

noncomputable def x_spec_HeadRev (d : DDoc) : Option Int :=
  xg (inI (d.from_ + (d.list.length : Int))) <| some (d.from_ + (d.list.length : Int))
theorem ct_spec_HeadRev (w : World) (X S : Bs) (d : DDoc) (s_d_2 : Sv) (s_d_3 : Sv) (s_d_4 : Sv) (hS : SX X S w) (a_d_2 : (cSl 1 fI d.text).rd S w s_d_2.v) (a_d_3 : (cSl 3 fDEntry d.list).rd S w s_d_3.v) (a_d_4 : (cSl 3 fDSeen d.seen).rd S w s_d_4.v) (oL : Sep [] X w) {r : Int} (hx : x_spec_HeadRev d = some r) :
 Ret Tryz.prog 99 [(.agg #[(.string d.name), (iv d.from_), s_d_2.v, s_d_3.v, s_d_4.v])] w (KV X S w (iv r)) := by
 unfold x_spec_HeadRev at hx
 refine enter Tryz.func99 rfl Tryz.ntmps99 (by kernel_rfl) rfl ?_
 have hM := (((St.enter oL hS).addV a_d_2).addV a_d_3).addV a_d_4
 refine wc_sr ?_
 refine w_ex rfl (x_box rfl hM ?_); intro b15 w14 hR16 hM
 refine was rfl rfl <| wl_sq <| wc_sr <| wv rfl (r_fld u132 rfl rfl sz3 rfl) <| wv rfl (r_ldB u3 rfl rfl hM m0 rfl) <| wv rfl (r_fld u132 rfl rfl sz60 rfl) <| wv rfl (r_ldB u60 rfl rfl hM m0 rfl) <| wv rfl (r_lenC u60 rfl (hM.seeR m1)) <| xgs hx fun hg25 hx => wv rfl (r_add rfl rfl hg25) <| was rfl rfl <| wl_sq <| wc_ret ?_
 obtain rfl := oi hx
 exact fin_u [(iv (d.from_ + (d.list.length : Int)))] hM ⟨rfl, trivial⟩ rfl

noncomputable def x_spec_DocOk_b0 (_d : DDoc) (_k122 : Nat) (x241 : DEntry) (t123 : List Int) : Option (Lr (List Int) (Sum Unit Unit)) :=
  Option.bind (x_spec_Apply (x241.o) t123) fun r198 => Option.bind (bif !r198.2 then (some true) else (Option.bind (x_spec_EntryOk x241) fun r219 => some (!r219))) fun c211 => Option.bind (bif c211 then (some true) else (Option.bind (x_spec_TextOk r198.1) fun r232 => some (!r232))) fun c224 => bif c224 then (some (Lr.out (Sum.inr (())))) else (some (Lr.go r198.1))
noncomputable def x_spec_DocOk_f0 (d : DDoc) (k122 : Nat) (s242 : List Int) : Option (Lr (List Int) (Sum Unit Unit)) := x_spec_DocOk_b0 d k122 (el d.list k122) s242
noncomputable def x_spec_DocOk_b1 (d : DDoc) (k250 : Nat) (x503 : DSeen) : Option (Lr Unit (Sum Unit Bool)) :=
  Option.bind (x_spec_l01In (x503.client) 1 8) fun r391 => Option.bind (bif !r391 then (some true) else (Option.bind (x_spec_l01In (x503.seq) 1 1000000000) fun r406 => some (!r406))) fun c396 => Option.bind (bif c396 then (some true) else (Option.bind (x_spec_HeadRev d) fun r426 => Option.bind (x_spec_l01In (x503.rev) 1 r426) fun r429 => some (!r429))) fun c411 => Option.bind (bif c411 then (some true) else (Option.bind (bif decide ((0 : Int) < (k250 : Int)) then (xg (inI ((k250 : Int) - 1)) <| xg (0 ≤ ((k250 : Int) - 1) ∧ ((k250 : Int) - 1) < (d.seen.length : Int)) <| some (decide ((x503.client) ≤ ((el d.seen (((k250 : Int) - 1).toNat)).client)))) else (some false)) fun c470 => some c470)) fun c434 => bif c434 then (some (Lr.out (Sum.inr (false)))) else (some (Lr.go ()))
noncomputable def x_spec_DocOk_f1 (d : DDoc) (k250 : Nat) (_s504 : Unit) : Option (Lr Unit (Sum Unit Bool)) := x_spec_DocOk_b1 d k250 (el d.seen k250)
noncomputable def x_spec_DocOk (d : DDoc) : Option Bool :=
  Option.bind (x_spec_NameOk d.name) fun r8 => Option.bind (bif !r8 then (some true) else (Option.bind (x_spec_l01In d.from_ 0 999999000) fun r23 => some (!r23))) fun c13 => Option.bind (bif c13 then (some true) else (Option.bind (x_spec_TextOk d.text) fun r38 => some (!r38))) fun c28 => Option.bind (bif c28 then (some true) else (some (decide ((8 : Int) < (d.list.length : Int))))) fun c43 => bif c43 then (some false) else (Option.bind (eachN (x_spec_DocOk_f0 d) (fun (_s242 : List Int) => (Sum.inl () : Sum Unit Unit)) d.list.length 0 d.text) fun (y243 : Sum Unit Unit) => Sum.elim (fun _y244 => Option.bind (eachN (x_spec_DocOk_f1 d) (fun (_s504 : Unit) => (Sum.inl () : Sum Unit Bool)) d.seen.length 0 ()) fun (y505 : Sum Unit Bool) => Sum.elim (fun _y506 => some true) (fun y507 => some y507) y505) (fun _y245 => some false) y243)
theorem ct_spec_DocOk (w : World) (X S : Bs) (d : DDoc) (s_d_2 : Sv) (s_d_3 : Sv) (s_d_4 : Sv) (hS : SX X S w) (a_d_2 : (cSl 1 fI d.text).rd S w s_d_2.v) (a_d_3 : (cSl 3 fDEntry d.list).rd S w s_d_3.v) (a_d_4 : (cSl 3 fDSeen d.seen).rd S w s_d_4.v) (oL : Sep [] X w) {r : Bool} (hx : x_spec_DocOk d = some r) :
 Ret Tryz.prog 96 [(.agg #[(.string d.name), (iv d.from_), s_d_2.v, s_d_3.v, s_d_4.v])] w (KV X S w (bv r)) := by
 unfold x_spec_DocOk at hx
 refine enter Tryz.func96 rfl Tryz.ntmps96 (by kernel_rfl) rfl ?_
 have hM := (((St.enter oL hS).addV a_d_2).addV a_d_3).addV a_d_4
 refine wc_sr ?_
 refine w_ex rfl (x_box rfl hM ?_); intro b510 w509 hR511 hM
 refine was rfl rfl <| wl_sq <| wc_seq <| wc_sr <| wv rfl (r_fld u132 rfl rfl sz9 rfl) <| wv rfl (r_ldB u9 rfl rfl hM m0 rfl) <| bs hx fun _ h517 hx => w_cv hM rfl rfl (fun X S oL hS hR hO => ct_spec_NameOk _ X S d.name hS  oL h517) fun _ hM => wv rfl (r_not rfl) <| wmv rfl rfl <| bs hx fun c521 hx hx529 => ?_
 refine wl_midH 5 [(19, (bv c521)), (1, (pt b510 0))] hM ?_ fun w530 hM => ?_
 refine cs2 hx (fun hg522 hx => ?_) (fun hg522 hx => ?_)
 refine gn hg522 rfl rfl <| gn hg522 rfl rfl <| gn hg522 rfl rfl <| gn hg522 rfl rfl <| wv rfl (p_t rfl hg522 rfl) ?_
 obtain rfl := oi hx
 exact mid_h ⟨rfl, rfl, trivial⟩ hM
 refine gv rfl hg522 rfl (r_fld u132 rfl rfl sz3 rfl) <| gv rfl hg522 rfl (r_ldB u3 rfl rfl hM m0 rfl) <| bs hx fun _ h534 hx => g_cv hM hg522 rfl rfl rfl (fun X S oL hS hR hO => ct_spec_l01In _ X S d.from_ (0 : Int) (999999000 : Int) hS  oL h534) fun _ hM => gv rfl hg522 rfl (r_not rfl) <| wv rfl (p_f rfl hg522 rfl) ?_
 cases hx
 exact mid_h ⟨rfl, rfl, trivial⟩ hM
 replace hx := hx529
 refine wmv rfl rfl <| bs hx fun c538 hx hx546 => ?_
 refine wl_midH 5 [(25, (bv c538)), (1, (pt b510 0))] hM ?_ fun w547 hM => ?_
 refine cs2 hx (fun hg539 hx => ?_) (fun hg539 hx => ?_)
 refine gn hg539 rfl rfl <| gn hg539 rfl rfl <| gn hg539 rfl rfl <| gn hg539 rfl rfl <| wv rfl (p_t rfl hg539 rfl) ?_
 obtain rfl := oi hx
 exact mid_h ⟨rfl, rfl, trivial⟩ hM
 refine gv rfl hg539 rfl (r_fld u132 rfl rfl sz26 rfl) <| gv rfl hg539 rfl (r_ldB u26 rfl rfl hM m0 rfl) <| bs hx fun _ h551 hx => g_cv hM hg539 rfl rfl rfl (fun X S oL hS hR hO => ct_spec_TextOk _ X S d.text s_d_2 hS (hR _ m2) oL h551) fun _ hM => gv rfl hg539 rfl (r_not rfl) <| wv rfl (p_f rfl hg539 rfl) ?_
 cases hx
 exact mid_h ⟨rfl, rfl, trivial⟩ hM
 replace hx := hx546
 refine wmv rfl rfl <| bs hx fun c555 hx hx561 => ?_
 refine wl_midH 5 [(31, (bv c555)), (1, (pt b510 0))] hM ?_ fun w562 hM => ?_
 refine cs2 hx (fun hg556 hx => ?_) (fun hg556 hx => ?_)
 refine gn hg556 rfl rfl <| gn hg556 rfl rfl <| gn hg556 rfl rfl <| gn hg556 rfl rfl <| wv rfl (p_t rfl hg556 rfl) ?_
 obtain rfl := oi hx
 exact mid_h ⟨rfl, rfl, trivial⟩ hM
 refine gv rfl hg556 rfl (r_fld u132 rfl rfl sz60 rfl) <| gv rfl hg556 rfl (r_ldB u60 rfl rfl hM m0 rfl) <| gv rfl hg556 rfl (r_lenC u60 rfl (hM.seeR m1)) <| gv rfl hg556 rfl (r_gtr rfl rfl) <| wv rfl (p_f rfl hg556 rfl) ?_
 cases hx
 exact mid_h ⟨rfl, rfl, trivial⟩ hM
 replace hx := hx561
 refine wl_sq ?_
 refine wcx hx rfl (fun hx => ?_) (fun hx => ?_)
 refine wc_sr <| was rfl rfl <| wl_sq <| wc_ret <| sq_ret ?_
 obtain rfl := oi hx
 exact fin_u [(bv false)] hM ⟨rfl, trivial⟩ rfl
 refine wc_skip <| sq_n <| wc_sr <| wv rfl (r_fld u132 rfl rfl sz26 rfl) <| wv rfl (r_ldB u26 rfl rfl hM m0 rfl) <| was rfl rfl <| wl_sq <| wc_seq <| wc_sr <| wv rfl (r_fld u132 rfl rfl sz60 rfl) <| wv rfl (r_ldB u60 rfl rfl hM m0 rfl) <| wv rfl (r_lenC u60 rfl (hM.seeR m1)) <| wmv rfl rfl <| wl_sq ?_
 refine wc_block <| bs hx fun y576 hx hx577 => ?_
 have hM := hM.fewer (rsC m2 (rsC m2 (rsC m1 (rsC m0 rsN))))
 replace hM : St ⟨w, X, S⟩ [oBox b510 #[(.string d.name), (iv d.from_), s_d_2.v, s_d_3.v, s_d_4.v] 132] [rV s_d_2.v (cSl 1 fI d.text), rV s_d_2.v (cSl 1 fI d.text), rV s_d_3.v (cSl 3 fDEntry d.list), rV s_d_4.v (cSl 3 fDSeen d.seen)] _ := hM
 have hl583 := Cs.le (hM.seeR m2)
 refine wc_loop (un fun (m580 : Nat) => un fun (k581 : Nat) => un fun (t578 : List Int) => fun (s579 : Sv) => [(1, (pt b510 0)), (3, s579.v), (35, s_d_3.v), (36, (iv (d.list.length : Int))), (37, (iv (k581 : Int)))]) (un fun (m580 : Nat) => un fun (k581 : Nat) => un fun (t578 : List Int) => fun (s579 : Sv) w' => St ⟨w, X, S⟩ [oBox b510 #[(.string d.name), (iv d.from_), s_d_2.v, s_d_3.v, s_d_4.v] 132] [rV s579.v (cSl 1 fI t578), rV s_d_2.v (cSl 1 fI d.text), rV s_d_3.v (cSl 3 fDEntry d.list), rV s_d_4.v (cSl 3 fDSeen d.seen)] w' ∧ eachN _ _ m580 k581 t578 = some y576 ∧ k581 + m580 = d.list.length) (fun p => p.1) (d.list.length, 0, d.text, s_d_2) ⟨rfl, rfl, rfl, rfl, rfl, trivial⟩ ⟨hM, hx, Nat.zero_add _⟩ ?_
 rintro ⟨m580, k581, t578, s579⟩ w584 ⟨hM, hx, hk582⟩
 refine wc_sr <| wv rfl (r_lss rfl rfl) <| wl_sq <| wc_seq ?_
 refine wc_cond rfl (fun hc586 => ?_) (fun hc586 => ?_)
 replace hc586 := of_decide_eq_true hc586
 obtain ⟨m587, z588, rfl, hk582, hx, hx589⟩ := eachN_step hx hk582 hc586
 unfold x_spec_DocOk_f0 x_spec_DocOk_b0 at hx
 try dsimp only at hx
 refine wc_skip <| sq_n <| wc_seq <| wc_block <| wc_sr ?_
 have hi591 : k581 < d.list.length := by omega
 refine wv rfl (r_ixC u60 sz158 rfl rfl (hM.seeR m2) ⟨by omega, hc586⟩) ?_
 obtain ⟨s593, hM, hc594⟩ := hM.leaf (i := k581) (j := 2) m2 (fun _ => rfl) hi591 rfl
 refine wv rfl (r_ldC (o := k581 * 3) u158 sz158 rfl (us := [(iv ((el d.list k581).client)), (iv ((el d.list k581).seq)), s593.v]) rfl (hM.seeR m3) hi591 ⟨(Cs.get (i := k581) (j := 0) (hM.seeR m3) (fun _ => rfl) hi591 rfl), (Cs.get (i := k581) (j := 1) (hM.seeR m3) (fun _ => rfl) hi591 rfl), (hc594 _ (Rel.refl _)), trivial⟩) ?_
 refine w_ex rfl (x_alloc sz158 hM ?_); intro b596 w595 hR597 hM
 refine w_exu (x_stB #[(iv ((el d.list k581).client)), (iv ((el d.list k581).seq)), s593.v] sz158 rfl rfl rfl rfl rfl rfl hM ?_); intro w599 hM
 refine wl_sq <| wc_sr <| wv rfl (r_fld u158 rfl rfl sz57 rfl) <| wv rfl (r_ldB u57 rfl rfl hM m0 rfl) <| wmv rfl rfl <| bs hx fun r604 h605 hx => w_call rfl rfl (hM.callO (l := []) fun X S oL hS hR hO => ct_spec_Apply _ X S ((el d.list k581).o) s593 t578 s579 hS (hR _ m0) (hR _ m1) oL h605) ?_
 rintro _ w606 ⟨s607, rfl, hM⟩
 dsimp only [List.cons_append, List.nil_append] at hM
 refine wmv rfl rfl <| wv rfl (r_extract rfl rfl) <| wv rfl (r_extract rfl rfl) <| was rfl rfl <| was rfl rfl <| wl_sq <| wc_seq <| wc_sr <| wmv rfl rfl <| wv rfl (r_not rfl) <| wmv rfl rfl <| bs hx fun c617 hx hx624 => ?_
 refine wl_midH 4 [(54, (bv c617)), (1, (pt b510 0)), (6, s607.v), (35, s_d_3.v), (36, (iv (d.list.length : Int))), (37, (iv (k581 : Int)))] hM ?_ fun w625 hM => ?_
 refine cs2 hx (fun hg618 hx => ?_) (fun hg618 hx => ?_)
 refine gn hg618 rfl rfl <| gn hg618 rfl rfl <| gn hg618 rfl rfl <| wv rfl (p_t rfl hg618 rfl) ?_
 obtain rfl := oi hx
 exact mid_h ⟨rfl, rfl, rfl, rfl, rfl, rfl, trivial⟩ hM
 refine gv rfl hg618 rfl (r_ldBS u158 sz158 rfl (us := [(iv ((el d.list k581).client)), (iv ((el d.list k581).seq)), s593.v]) rfl hM m1 rfl) <| bs hx fun _ h628 hx => g_cv hM hg618 rfl rfl rfl (fun X S oL hS hR hO => ct_spec_EntryOk _ X S (el d.list k581) s593 hS (hR _ m0) oL h628) fun _ hM => gv rfl hg618 rfl (r_not rfl) <| wv rfl (p_f rfl hg618 rfl) ?_
 cases hx
 exact mid_h ⟨rfl, rfl, rfl, rfl, rfl, rfl, trivial⟩ hM
 replace hx := hx624
 refine wmv rfl rfl <| bs hx fun c632 hx hx639 => ?_
 refine wl_midH 4 [(59, (bv c632)), (1, (pt b510 0)), (6, s607.v), (35, s_d_3.v), (36, (iv (d.list.length : Int))), (37, (iv (k581 : Int)))] hM ?_ fun w640 hM => ?_
 refine cs2 hx (fun hg633 hx => ?_) (fun hg633 hx => ?_)
 refine gn hg633 rfl rfl <| gn hg633 rfl rfl <| gn hg633 rfl rfl <| wv rfl (p_t rfl hg633 rfl) ?_
 obtain rfl := oi hx
 exact mid_h ⟨rfl, rfl, rfl, rfl, rfl, rfl, trivial⟩ hM
 refine gv rfl hg633 rfl (r_move rfl) <| bs hx fun _ h643 hx => g_cv hM hg633 rfl rfl rfl (fun X S oL hS hR hO => ct_spec_TextOk _ X S r604.1 s607 hS (seeA hO m0) oL h643) fun _ hM => gv rfl hg633 rfl (r_not rfl) <| wv rfl (p_f rfl hg633 rfl) ?_
 cases hx
 exact mid_h ⟨rfl, rfl, rfl, rfl, rfl, rfl, trivial⟩ hM
 replace hx := hx639
 refine wl_sq ?_
 refine wcx hx rfl (fun hx => ?_) (fun hx => ?_)
 refine wc_sr <| was rfl rfl <| wl_sq <| wc_ret <| sq_ret <| bk_ret <| sq_ret <| lp1_ret ?_
 cases hx
 obtain rfl := oi hx589
 replace hx := hx577
 refine bk_ret <| sq_ret ?_
 obtain rfl := oi hx
 exact fin_u [(bv false)] hM ⟨rfl, trivial⟩ rfl
 refine wc_skip <| sq_n <| wc_region <| wmv rfl rfl <| was rfl rfl <| wl_nil <| bk_n <| sq_n <| wc_region <| wv rfl (r_add rfl rfl ⟨by omega, by omega⟩) <| wmv rfl rfl <| wl_nil ?_
 obtain rfl := oi hx
 have hM := hM.selO
 replace hM := hM.p1
 replace hM := hM.t1
 have hM := hM.fewer (rsC m0 (rsC m3 (rsC m4 (rsC m5 rsN))))
 replace hM : St ⟨w, X, S⟩ [oBox b510 #[(.string d.name), (iv d.from_), s_d_2.v, s_d_3.v, s_d_4.v] 132] [rV s607.v (cSl 1 fI r604.1), rV s_d_2.v (cSl 1 fI d.text), rV s_d_3.v (cSl 3 fDEntry d.list), rV s_d_4.v (cSl 3 fDSeen d.seen)] _ := hM
 exact lp_end (m587, k581 + 1, r604.1, s607) (Nat.lt_succ_self _) ⟨rfl, rfl, rfl, rfl, rfl, trivial⟩ ⟨hM, hx589, hk582⟩
 replace hc586 := of_decide_eq_false hc586
 obtain rfl := eachN_end hx hk582 hc586
 refine wc_exit <| sq_exit <| lp1_exit ?_
 replace hx := hx577
 refine bk_here <| sq_n <| wc_seq <| wc_sr <| wv rfl (r_fld u132 rfl rfl sz130 rfl) <| wv rfl (r_ldB u130 rfl rfl hM m0 rfl) <| wv rfl (r_lenC u130 rfl (hM.seeR m3)) <| wmv rfl rfl <| wl_sq <| wc_block <| bs hx fun y656 hx hx657 => ?_
 have hM := hM.fewer (rsC m1 (rsC m2 (rsC m3 rsN)))
 replace hM : St ⟨w, X, S⟩ [oBox b510 #[(.string d.name), (iv d.from_), s_d_2.v, s_d_3.v, s_d_4.v] 132] [rV s_d_2.v (cSl 1 fI d.text), rV s_d_3.v (cSl 3 fDEntry d.list), rV s_d_4.v (cSl 3 fDSeen d.seen)] _ := hM
 have hl661 := Cs.le (hM.seeR m2)
 refine wc_loop (un fun (m658 : Nat) => fun (k659 : Nat) => [(1, (pt b510 0)), (63, s_d_4.v), (64, (iv (d.seen.length : Int))), (65, (iv (k659 : Int)))]) (un fun (m658 : Nat) => fun (k659 : Nat) w' => St ⟨w, X, S⟩ [oBox b510 #[(.string d.name), (iv d.from_), s_d_2.v, s_d_3.v, s_d_4.v] 132] [rV s_d_2.v (cSl 1 fI d.text), rV s_d_3.v (cSl 3 fDEntry d.list), rV s_d_4.v (cSl 3 fDSeen d.seen)] w' ∧ eachN _ _ m658 k659 () = some y656 ∧ k659 + m658 = d.seen.length) (fun p => p.1) (d.seen.length, 0) ⟨rfl, rfl, rfl, rfl, trivial⟩ ⟨hM, hx, Nat.zero_add _⟩ ?_
 rintro ⟨m658, k659⟩ w662 ⟨hM, hx, hk660⟩
 refine wc_sr <| wv rfl (r_lss rfl rfl) <| wl_sq <| wc_seq ?_
 refine wc_cond rfl (fun hc664 => ?_) (fun hc664 => ?_)
 replace hc664 := of_decide_eq_true hc664
 obtain ⟨m665, z666, rfl, hk660, hx, hx667⟩ := eachN_step hx hk660 hc664
 unfold x_spec_DocOk_f1 x_spec_DocOk_b1 at hx
 try dsimp only at hx
 refine wc_skip <| sq_n <| wc_seq <| wc_block <| wc_sr <| wmv rfl rfl ?_
 have hi670 : k659 < d.seen.length := by omega
 refine wv rfl (r_ixC u130 sz168 rfl rfl (hM.seeR m2) ⟨by omega, hc664⟩) <| wv rfl (r_ldC (o := k659 * 3) u168 sz168 rfl (us := [(iv ((el d.seen k659).client)), (iv ((el d.seen k659).seq)), (iv ((el d.seen k659).rev))]) rfl (hM.seeR m2) hi670 ⟨(Cs.get (i := k659) (j := 0) (hM.seeR m2) (fun _ => rfl) hi670 rfl), (Cs.get (i := k659) (j := 1) (hM.seeR m2) (fun _ => rfl) hi670 rfl), (Cs.get (i := k659) (j := 2) (hM.seeR m2) (fun _ => rfl) hi670 rfl), trivial⟩) ?_
 refine w_ex rfl (x_alloc sz168 hM ?_); intro b673 w672 hR674 hM
 refine was rfl rfl ?_
 refine w_exu (x_stB #[(iv ((el d.seen k659).client)), (iv ((el d.seen k659).seq)), (iv ((el d.seen k659).rev))] sz168 rfl rfl rfl rfl rfl rfl hM ?_); intro w677 hM
 refine wl_sq <| wc_seq <| wc_draw [(0, 0), (1, 0), (2, 0), (3, 0), (4, 0), (5, 0), (6, 0), (7, 0), (8, 0), (9, 0), (10, 0), (11, 0), (12, 0), (13, 0), (14, 0), (15, 0), (16, 0), (17, 0), (18, 0), (19, 0), (20, 0), (21, 0), (22, 0), (23, 0), (24, 0), (25, 0), (26, 0), (27, 0), (28, 0), (29, 0), (30, 0), (31, 0), (32, 0), (33, 0)] Tryz_mixed (by kernel_rfl) rfl (by kernel_rfl) rfl <| ov rfl (fun w' h' => r_fld u168 rfl rfl sz3 rfl) <| ov rfl (fun w' h' => r_ldB u3 rfl rfl (hM.call h') m0 rfl) <| bs hx fun _ h682 hx => oc rfl rfl (fun w' h' => (hM.call h').callV fun X S oL hS hR hO => ct_spec_l01In _ X S ((el d.seen k659).client) (1 : Int) (8 : Int) hS  oL h682) <| ov rfl (fun w' h' => r_not rfl) <| omv rfl rfl <| bs hx fun c686 hx hx694 => ?_
 refine wo_mid 5 [(79, (bv c686)), (1, (pt b510 0)), (8, (iv (k659 : Int))), (9, (pt b673 0)), (63, s_d_4.v), (64, (iv (d.seen.length : Int))), (65, (iv (k659 : Int)))] rfl ?_ ?_
 refine cs2 hx (fun hg687 hx => ?_) (fun hg687 hx => ?_)
 refine ogs rfl (isB_no hg687) rfl <| ogs rfl (isB_no hg687) rfl <| ogs rfl (isB_no hg687) rfl <| ogs rfl (isB_no hg687) rfl <| ov rfl (fun w' h' => p_t rfl hg687 rfl) ?_
 obtain rfl := oi hx
 exact mid_onil ⟨rfl, rfl, rfl, rfl, rfl, rfl, rfl, trivial⟩
 refine ogv rfl hg687 rfl (fun w' h' => r_fld u168 rfl rfl sz3 rfl) <| ogv rfl hg687 rfl (fun w' h' => r_ldB u3 rfl rfl (hM.call h') m0 rfl) <| bs hx fun _ h698 hx => ogc rfl hg687 rfl rfl (fun w' h' => (hM.call h').callV fun X S oL hS hR hO => ct_spec_l01In _ X S ((el d.seen k659).seq) (1 : Int) (1000000000 : Int) hS  oL h698) <| ogv rfl hg687 rfl (fun w' h' => r_not rfl) <| ov rfl (fun w' h' => p_f rfl hg687 rfl) ?_
 cases hx
 exact mid_onil ⟨rfl, rfl, rfl, rfl, rfl, rfl, rfl, trivial⟩
 replace hx := hx694
 refine omv rfl rfl <| bs hx fun c702 hx hx714 => ?_
 refine wo_mid 7 [(87, (bv c702)), (1, (pt b510 0)), (8, (iv (k659 : Int))), (9, (pt b673 0)), (63, s_d_4.v), (64, (iv (d.seen.length : Int))), (65, (iv (k659 : Int)))] rfl ?_ ?_
 refine cs2 hx (fun hg703 hx => ?_) (fun hg703 hx => ?_)
 refine ogs rfl (isB_no hg703) rfl <| ogs rfl (isB_no hg703) rfl <| ogs rfl (isB_no hg703) rfl <| ogs rfl (isB_no hg703) rfl <| ogs rfl (isB_no hg703) rfl <| ogs rfl (isB_no hg703) rfl <| ov rfl (fun w' h' => p_t rfl hg703 rfl) ?_
 obtain rfl := oi hx
 exact mid_onil ⟨rfl, rfl, rfl, rfl, rfl, rfl, rfl, trivial⟩
 refine ogv rfl hg703 rfl (fun w' h' => r_fld u168 rfl rfl sz3 rfl) <| ogv rfl hg703 rfl (fun w' h' => r_ldB u3 rfl rfl (hM.call h') m0 rfl) <| ogv rfl hg703 rfl (fun w' h' => r_ldBS u132 sz132 rfl (us := [(.string d.name), (iv d.from_), s_d_2.v, s_d_3.v, s_d_4.v]) rfl (hM.call h') m1 rfl) <| bs hx fun r718 h719 hx => ogc rfl hg703 rfl rfl (fun w' h' => (hM.call h').callV fun X S oL hS hR hO => ct_spec_HeadRev _ X S d s_d_2 s_d_3 s_d_4 hS (hR _ m0) (hR _ m1) (hR _ m2) oL h719) <| bs hx fun _ h722 hx => ogc rfl hg703 rfl rfl (fun w' h' => (hM.call h').callV fun X S oL hS hR hO => ct_spec_l01In _ X S ((el d.seen k659).rev) (1 : Int) r718 hS  oL h722) <| ogv rfl hg703 rfl (fun w' h' => r_not rfl) <| ov rfl (fun w' h' => p_f rfl hg703 rfl) ?_
 cases hx
 exact mid_onil ⟨rfl, rfl, rfl, rfl, rfl, rfl, rfl, trivial⟩
 replace hx := hx714
 refine omv rfl rfl <| bs hx fun c726 hx hx759 => ?_
 refine wo_mid 15 [(103, (bv c726)), (1, (pt b510 0)), (63, s_d_4.v), (64, (iv (d.seen.length : Int))), (65, (iv (k659 : Int)))] rfl ?_ ?_
 refine cs2 hx (fun hg727 hx => ?_) (fun hg727 hx => ?_)
 refine ogs rfl (isB_no hg727) rfl <| ogs rfl (isB_no hg727) rfl <| ogs rfl (isB_no hg727) rfl <| ogs rfl rfl rfl <| ogs rfl rfl rfl <| ogs rfl rfl rfl <| ogs rfl rfl rfl <| ogs rfl rfl rfl <| ogs rfl rfl rfl <| ogs rfl rfl rfl <| ogs rfl rfl rfl <| ogs rfl rfl rfl <| ogs rfl rfl rfl <| ogs rfl (isB_no hg727) rfl ?_
 refine ov rfl (fun w' h' => p_t rfl hg727 rfl) ?_
 obtain rfl := oi hx
 exact mid_onil ⟨rfl, rfl, rfl, rfl, rfl, trivial⟩
 refine ogv rfl hg727 rfl (fun w' h' => r_move rfl) <| ogv rfl hg727 rfl (fun w' h' => r_gtr rfl rfl) <| ogv rfl hg727 rfl (fun w' h' => r_move rfl) <| bs hx fun c763 hx hx778 => ?_
 refine wo_mid 11 [(102, (bv c763)), (1, (pt b510 0)), (63, s_d_4.v), (64, (iv (d.seen.length : Int))), (65, (iv (k659 : Int))), (88, (bv c702)), (89, (iv (k659 : Int))), (90, (bv (decide ((0 : Int) < (k659 : Int))))), (91, (bv (decide ((0 : Int) < (k659 : Int)))))] rfl ?_ ?_
 refine cs2 hx (fun hg764 hx => ?_) (fun hg764 hx => ?_)
 refine ogv rfl hg764 rfl (fun w' h' => r_fld u132 rfl rfl sz130 rfl) <| ogv rfl hg764 rfl (fun w' h' => r_ldB u130 rfl rfl (hM.call h') m1 rfl) <| ogv rfl hg764 rfl (fun w' h' => r_move rfl) <| xgs hx fun hg783 hx => ogv rfl hg764 rfl (fun w' h' => r_sub rfl rfl hg783) <| xgs hx fun hg786 hx => ?_
 have hi785 : (((k659 : Int) - 1).toNat) < d.seen.length := by omega
 refine ogv rfl hg764 rfl (fun w' h' => r_ixC u130 sz168 rfl rfl ((hM.call h').seeR m2) hg786) <| ogv rfl hg764 rfl (fun w' h' => r_fldC (i := (((k659 : Int) - 1).toNat)) u168 rfl rfl sz3 rfl ((hM.call h').seeR m2) hi785) <| ogv rfl hg764 rfl (fun w' h' => r_ld u3 rfl rfl (Cs.get (i := (((k659 : Int) - 1).toNat)) (j := 0) ((hM.call h').seeR m2) (fun _ => rfl) hi785 rfl)) <| ogv rfl hg764 rfl (fun w' h' => r_fld u168 rfl rfl sz3 rfl) <| ogv rfl hg764 rfl (fun w' h' => r_ldB u3 rfl rfl (hM.call h') m0 rfl) <| ogv rfl hg764 rfl (fun w' h' => r_geq rfl rfl) <| ogv rfl hg727 rfl (fun w' h' => p_t rfl hg764 rfl) ?_
 cases hx
 exact mid_onil ⟨rfl, rfl, rfl, rfl, rfl, rfl, rfl, rfl, rfl, trivial⟩
 refine ogs rfl (isB_no hg764) rfl <| ogs rfl (isB_no hg764) rfl <| ogs rfl (isB_no hg764) rfl <| ogs rfl (isB_no hg764) rfl <| ogs rfl (isB_no hg764) rfl <| ogs rfl (isB_no hg764) rfl <| ogs rfl (isB_no hg764) rfl <| ogs rfl (isB_no hg764) rfl <| ogs rfl (isB_no hg764) rfl <| ogs rfl (isB_no hg764) rfl <| ogv rfl hg727 rfl (fun w' h' => p_f rfl hg764 rfl) ?_
 obtain rfl := oi hx
 exact mid_onil ⟨rfl, rfl, rfl, rfl, rfl, rfl, rfl, rfl, rfl, trivial⟩
 replace hx := hx778
 refine ov rfl (fun w' h' => p_f rfl hg727 rfl) ?_
 obtain rfl := oi hx
 exact mid_onil ⟨rfl, rfl, rfl, rfl, rfl, trivial⟩
 replace hx := hx759
 refine o_nilM hM fun _ hM => sq_n ?_
 refine wcx hx rfl (fun hx => ?_) (fun hx => ?_)
 refine wc_sr <| was rfl rfl <| wl_sq <| wc_ret <| bk_ret <| sq_ret <| lp1_ret ?_
 cases hx
 obtain rfl := oi hx667
 replace hx := hx657
 refine bk_ret <| sq_ret ?_
 obtain rfl := oi hx
 exact fin_u [(bv false)] hM ⟨rfl, trivial⟩ rfl
 refine wc_skip <| bk_n <| sq_n <| wc_region <| wv rfl (r_add rfl rfl ⟨by omega, by omega⟩) <| wmv rfl rfl <| wl_nil ?_
 cases hx
 replace hM := hM.p1
 replace hM := hM.t1
 exact lp_end (m665, k659 + 1) (Nat.lt_succ_self _) ⟨rfl, rfl, rfl, rfl, trivial⟩ ⟨hM, hx667, hk660⟩
 replace hc664 := of_decide_eq_false hc664
 obtain rfl := eachN_end hx hk660 hc664
 refine wc_exit <| sq_exit <| lp1_exit ?_
 replace hx := hx657
 refine bk_here <| sq_n <| wc_sr <| was rfl rfl <| wl_sq <| wc_ret ?_
 obtain rfl := oi hx
 exact fin_u [(bv true)] hM ⟨rfl, trivial⟩ rfl

noncomputable def x_impl_EntrySame (a : DEntry) (b : DEntry) : Option Bool :=
  Option.bind (bif decide (a.client = b.client) then (some (decide (a.seq = b.seq))) else (some false)) fun c16 => Option.bind (bif c16 then (Option.bind (x_impl_OpSame a.o b.o) fun r42 => some r42) else (some false)) fun c29 => some c29
theorem ct_impl_EntrySame (w : World) (X S : Bs) (a : DEntry) (s_a_2 : Sv) (b : DEntry) (s_b_2 : Sv) (hS : SX X S w) (a_a_2 : (cSl 3 fDPart a.o).rd S w s_a_2.v) (a_b_2 : (cSl 3 fDPart b.o).rd S w s_b_2.v) (oL : Sep [] X w) {r : Bool} (hx : x_impl_EntrySame a b = some r) :
 Ret Tryz.prog 155 [(.agg #[(iv a.client), (iv a.seq), s_a_2.v]), (.agg #[(iv b.client), (iv b.seq), s_b_2.v])] w (KV X S w (bv r)) := by
 unfold x_impl_EntrySame at hx
 refine enter Tryz.func155 rfl Tryz.ntmps155 (by kernel_rfl) rfl ?_
 have hM := ((St.enter oL hS).addV a_a_2).addV a_b_2
 refine wc_sr ?_
 refine w_ex rfl (x_box rfl hM ?_); intro b47 w46 hR48 hM
 refine w_ex rfl (x_box rfl hM ?_); intro b51 w50 hR52 hM
 refine was rfl rfl <| wl_sq <| wc_sr <| wv rfl (r_fld u158 rfl rfl sz3 rfl) <| wv rfl (r_ldB u3 rfl rfl hM m1 rfl) <| wv rfl (r_fld u158 rfl rfl sz3 rfl) <| wv rfl (r_ldB u3 rfl rfl hM m0 rfl) <| wv rfl (r_eql rfl rfl) <| wmv rfl rfl <| bs hx fun c61 hx hx68 => ?_
 refine wl_midH 6 [(16, (bv c61)), (2, (pt b47 0)), (3, (pt b51 0))] hM ?_ fun w69 hM => ?_
 refine cs2 hx (fun hg62 hx => ?_) (fun hg62 hx => ?_)
 refine gv rfl hg62 rfl (r_fld u158 rfl rfl sz3 rfl) <| gv rfl hg62 rfl (r_ldB u3 rfl rfl hM m1 rfl) <| gv rfl hg62 rfl (r_fld u158 rfl rfl sz3 rfl) <| gv rfl hg62 rfl (r_ldB u3 rfl rfl hM m0 rfl) <| gv rfl hg62 rfl (r_eql rfl rfl) <| wv rfl (p_t rfl hg62 rfl) ?_
 cases hx
 exact mid_h ⟨rfl, rfl, rfl, trivial⟩ hM
 refine gn hg62 rfl rfl <| gn hg62 rfl rfl <| gn hg62 rfl rfl <| gn hg62 rfl rfl <| gn hg62 rfl rfl <| wv rfl (p_f rfl hg62 rfl) ?_
 obtain rfl := oi hx
 exact mid_h ⟨rfl, rfl, rfl, trivial⟩ hM
 replace hx := hx68
 refine wmv rfl rfl <| bs hx fun c76 hx hx85 => ?_
 refine wl_midH 6 [(23, (bv c76))] hM ?_ fun w86 hM => ?_
 refine cs2 hx (fun hg77 hx => ?_) (fun hg77 hx => ?_)
 refine gv rfl hg77 rfl (r_fld u158 rfl rfl sz57 rfl) <| gv rfl hg77 rfl (r_ldB u57 rfl rfl hM m1 rfl) <| gv rfl hg77 rfl (r_fld u158 rfl rfl sz57 rfl) <| gv rfl hg77 rfl (r_ldB u57 rfl rfl hM m0 rfl) <| bs hx fun _ h92 hx => g_cv hM hg77 rfl rfl rfl (fun X S oL hS hR hO => ct_impl_OpSame _ X S a.o s_a_2 b.o s_b_2 hS (hR _ m1) (hR _ m0) oL h92) fun _ hM => wv rfl (p_t rfl hg77 rfl) ?_
 obtain rfl := oi hx
 exact mid_h ⟨rfl, trivial⟩ hM
 refine gn hg77 rfl rfl <| gn hg77 rfl rfl <| gn hg77 rfl rfl <| gn hg77 rfl rfl <| gn hg77 rfl rfl <| wv rfl (p_f rfl hg77 rfl) ?_
 obtain rfl := oi hx
 exact mid_h ⟨rfl, trivial⟩ hM
 replace hx := hx85
 refine was rfl rfl <| wl_sq <| wc_ret ?_
 obtain rfl := oi hx
 exact fin_u [(bv c76)] hM ⟨rfl, trivial⟩ rfl

noncomputable def x_spec_EntrySame (a : DEntry) (b : DEntry) : Option Bool :=
  Option.bind (bif decide (a.client = b.client) then (some (decide (a.seq = b.seq))) else (some false)) fun c16 => Option.bind (bif c16 then (Option.bind (x_spec_OpSame a.o b.o) fun r42 => some r42) else (some false)) fun c29 => some c29
theorem ct_spec_EntrySame (w : World) (X S : Bs) (a : DEntry) (s_a_2 : Sv) (b : DEntry) (s_b_2 : Sv) (hS : SX X S w) (a_a_2 : (cSl 3 fDPart a.o).rd S w s_a_2.v) (a_b_2 : (cSl 3 fDPart b.o).rd S w s_b_2.v) (oL : Sep [] X w) {r : Bool} (hx : x_spec_EntrySame a b = some r) :
 Ret Tryz.prog 141 [(.agg #[(iv a.client), (iv a.seq), s_a_2.v]), (.agg #[(iv b.client), (iv b.seq), s_b_2.v])] w (KV X S w (bv r)) := by
 unfold x_spec_EntrySame at hx
 refine enter Tryz.func141 rfl Tryz.ntmps141 (by kernel_rfl) rfl ?_
 have hM := ((St.enter oL hS).addV a_a_2).addV a_b_2
 refine wc_sr ?_
 refine w_ex rfl (x_box rfl hM ?_); intro b47 w46 hR48 hM
 refine w_ex rfl (x_box rfl hM ?_); intro b51 w50 hR52 hM
 refine was rfl rfl <| wl_sq <| wc_sr <| wv rfl (r_fld u158 rfl rfl sz3 rfl) <| wv rfl (r_ldB u3 rfl rfl hM m1 rfl) <| wv rfl (r_fld u158 rfl rfl sz3 rfl) <| wv rfl (r_ldB u3 rfl rfl hM m0 rfl) <| wv rfl (r_eql rfl rfl) <| wmv rfl rfl <| bs hx fun c61 hx hx68 => ?_
 refine wl_midH 6 [(16, (bv c61)), (2, (pt b47 0)), (3, (pt b51 0))] hM ?_ fun w69 hM => ?_
 refine cs2 hx (fun hg62 hx => ?_) (fun hg62 hx => ?_)
 refine gv rfl hg62 rfl (r_fld u158 rfl rfl sz3 rfl) <| gv rfl hg62 rfl (r_ldB u3 rfl rfl hM m1 rfl) <| gv rfl hg62 rfl (r_fld u158 rfl rfl sz3 rfl) <| gv rfl hg62 rfl (r_ldB u3 rfl rfl hM m0 rfl) <| gv rfl hg62 rfl (r_eql rfl rfl) <| wv rfl (p_t rfl hg62 rfl) ?_
 cases hx
 exact mid_h ⟨rfl, rfl, rfl, trivial⟩ hM
 refine gn hg62 rfl rfl <| gn hg62 rfl rfl <| gn hg62 rfl rfl <| gn hg62 rfl rfl <| gn hg62 rfl rfl <| wv rfl (p_f rfl hg62 rfl) ?_
 obtain rfl := oi hx
 exact mid_h ⟨rfl, rfl, rfl, trivial⟩ hM
 replace hx := hx68
 refine wmv rfl rfl <| bs hx fun c76 hx hx85 => ?_
 refine wl_midH 6 [(23, (bv c76))] hM ?_ fun w86 hM => ?_
 refine cs2 hx (fun hg77 hx => ?_) (fun hg77 hx => ?_)
 refine gv rfl hg77 rfl (r_fld u158 rfl rfl sz57 rfl) <| gv rfl hg77 rfl (r_ldB u57 rfl rfl hM m1 rfl) <| gv rfl hg77 rfl (r_fld u158 rfl rfl sz57 rfl) <| gv rfl hg77 rfl (r_ldB u57 rfl rfl hM m0 rfl) <| bs hx fun _ h92 hx => g_cv hM hg77 rfl rfl rfl (fun X S oL hS hR hO => ct_spec_OpSame _ X S a.o s_a_2 b.o s_b_2 hS (hR _ m1) (hR _ m0) oL h92) fun _ hM => wv rfl (p_t rfl hg77 rfl) ?_
 obtain rfl := oi hx
 exact mid_h ⟨rfl, trivial⟩ hM
 refine gn hg77 rfl rfl <| gn hg77 rfl rfl <| gn hg77 rfl rfl <| gn hg77 rfl rfl <| gn hg77 rfl rfl <| wv rfl (p_f rfl hg77 rfl) ?_
 obtain rfl := oi hx
 exact mid_h ⟨rfl, trivial⟩ hM
 replace hx := hx85
 refine was rfl rfl <| wl_sq <| wc_ret ?_
 obtain rfl := oi hx
 exact fin_u [(bv c76)] hM ⟨rfl, trivial⟩ rfl

end Go.Proofs.YtjbonmmmcnpjiaaGreatDoor
