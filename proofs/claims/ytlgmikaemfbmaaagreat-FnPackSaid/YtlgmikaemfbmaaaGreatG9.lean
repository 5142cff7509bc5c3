/- Walks of functions of this program (printed by a program of ours, by the rules of the layer). No condition. -/
import Derived.Test.YtlgmikaemfbmaaaGreatG8
import Derived.Test.YtlgmikaemfbmaaaGreatNs
namespace Go.Proofs.YtlgmikaemfbmaaaGreat
open Go.RowKit

noncomputable def x_impl_NameOk_b0 (s : ByteArray) (i3 : Int) : Option (Lr Int (Sum Unit Unit)) :=
  bif decide (i3 < (s.size : Int)) then (xg (0 ≤ i3 ∧ i3 < (s.size : Int)) <| Option.bind (bif decide (((sget s i3.toNat).toNat : Int) < 97) then (some true) else (xg (0 ≤ i3 ∧ i3 < (s.size : Int)) <| some (decide ((122 : Int) < ((sget s i3.toNat).toNat : Int))))) fun c41 => bif c41 then (some (Lr.out (Sum.inr (())))) else (xg (inI (i3 + 1)) <| some (Lr.go (i3 + 1)))) else (some (Lr.out (Sum.inl ())))
noncomputable def x_impl_NameOk_f0 (s : ByteArray) (s58 : Int) : Option (Lr Int (Sum Unit Unit)) := x_impl_NameOk_b0 s s58
noncomputable def x_impl_NameOk (s : ByteArray) : Option Bool :=
  Option.bind (iter (x_impl_NameOk_f0 s) 0) fun (y59 : Sum Unit Unit) => Sum.elim (fun _y60 => Option.bind (x_impl_within (s.size : Int) 1 8) fun r64 => some r64) (fun _y61 => some false) y59
theorem ct_impl_NameOk (w : World) (X S : Bs) (s : ByteArray) (hS : ∀ b, S b → b < w.heap.size ∧ ¬ X b)  (oL : Sep [] X w) {r : Bool} (hx : x_impl_NameOk s = some r) :
  Ret Tryz.prog 42 [(.string s)] w (fun u w' => ∃ _ : Unit, u = (.bool r) ∧ Gives X S w [] [] w') := by
 unfold x_impl_NameOk at hx
 refine enter Tryz.func42 rfl Tryz.ntmps42 (by kernel_rfl) rfl ?_
 have hM := St.enter oL hS
 refine wc_sr ?_
 refine was rfl rfl ?_
 refine wl_sq ?_
 refine wc_seq ?_
 refine wc_sr ?_
 refine was rfl rfl ?_
 refine wl_sq ?_
 refine wc_block ?_
 obtain ⟨y71, hx, hx72⟩ := bind_some' hx
 obtain ⟨m76, hx⟩ := iter_run hx
 refine wc_loop (un fun (m74 : Nat) => fun (i73 : Int) => [(0, (.string s)), (3, (.int .i64 i73))]) (un fun (m74 : Nat) => fun (i73 : Int) w' => St ⟨w, X, S⟩ [] [] w' ∧ iterN _ m74 i73 = some y71) (fun p => p.1) (m76, 0) ⟨rfl, rfl, trivial⟩ ⟨hM, hx⟩ ?_
 rintro ⟨m74, i73⟩ w77 ⟨hM, hx⟩
 obtain ⟨m78, z79, rfl, hx, hx80⟩ := iterN_step hx
 unfold x_impl_NameOk_f0 x_impl_NameOk_b0 at hx
 try dsimp only at hx
 refine wc_seq ?_
 refine wc_sr ?_
 refine wmv rfl rfl ?_
 refine wmv rfl rfl ?_
 refine wv rfl (r_lens Tryz.underlying9 rfl) ?_
 refine wv rfl (r_lss rfl rfl) ?_
 refine wl_sq ?_
 refine wc_cond rfl (fun hc85 => ?_) (fun hc85 => ?_)
 ·
  replace hx := xif_t hc85 hx
  refine wc_skip ?_
  refine sq_n ?_
  refine wc_seq ?_
  refine wc_block ?_
  refine wc_sr ?_
  refine wmv rfl rfl ?_
  refine wmv rfl rfl ?_
  obtain ⟨hg89, hx⟩ := xg_some hx
  refine wv rfl (r_sidx Tryz.underlying9 rfl rfl hg89) ?_
  refine wv rfl (r_lss rfl rfl) ?_
  refine wmv rfl rfl ?_
  obtain ⟨c92, hx, hx99⟩ := bind_some' hx
  refine wl_mid 5 (fun _ : Unit => [(19, (.bool c92)), (0, (.string s)), (3, (.int .i64 i73))]) (fun _ w' => St ⟨w, X, S⟩ [] [] w') ?_ ?_
  ·
   rcases Bool.eq_false_or_eq_true (decide (((sget s i73.toNat).toNat : Int) < 97)) with hg93 | hg93
   ·
    replace hx := xif_t hg93 hx
    refine gs rfl (isB_no hg93) rfl ?_
    refine gs rfl (isB_no hg93) rfl ?_
    refine gs rfl (isB_no hg93) rfl ?_
    refine gs rfl (isB_no hg93) rfl ?_
    refine wv rfl (p_t rfl hg93 rfl) ?_
    obtain rfl := Option.some.inj hx
    exact mid_nil () ⟨rfl, rfl, rfl, trivial⟩ hM
   ·
    replace hx := xif_f hg93 hx
    refine gv rfl hg93 rfl (r_move rfl) ?_
    refine gv rfl hg93 rfl (r_move rfl) ?_
    obtain ⟨hg103, hx⟩ := xg_some hx
    refine gv rfl hg93 rfl (r_sidx Tryz.underlying9 rfl rfl hg103) ?_
    refine gv rfl hg93 rfl (r_gtr rfl rfl) ?_
    refine wv rfl (p_f rfl hg93 rfl) ?_
    obtain rfl := Option.some.inj hx
    exact mid_nil () ⟨rfl, rfl, rfl, trivial⟩ hM
  rintro _ w105 hM
  replace hx := hx99
  refine wl_sq ?_
  refine wc_cond rfl (fun hc106 => ?_) (fun hc106 => ?_)
  ·
   replace hx := xif_t hc106 hx
   refine wc_sr ?_
   refine was rfl rfl ?_
   refine wl_sq ?_
   refine wc_ret ?_
   refine bk_ret ?_
   refine sq_ret ?_
   refine lp1_ret ?_
   obtain rfl := Option.some.inj hx
   obtain rfl := Option.some.inj hx80
   replace hx := hx72
   try dsimp only [Sum.elim_inl, Sum.elim_inr] at hx
   refine bk_ret ?_
   refine sq_ret ?_
   obtain rfl := Option.some.inj hx
   refine fin_ret [(.bool false)] ⟨rfl, trivial⟩ ?_
   replace hM := hM.t0
   have hM := hM.fewer rsN
   exact ⟨(), rfl, hM.gives⟩
  ·
   replace hx := xif_f hc106 hx
   refine wc_skip ?_
   refine bk_n ?_
   refine sq_n ?_
   refine wc_region ?_
   refine wmv rfl rfl ?_
   obtain ⟨hg110, hx⟩ := xg_some hx
   refine wv rfl (r_add rfl rfl hg110) ?_
   refine was rfl rfl ?_
   refine wl_nil ?_
   obtain rfl := Option.some.inj hx
   exact lp_end (m78, i73 + 1) (Nat.lt_succ_self _) ⟨rfl, rfl, trivial⟩ ⟨hM, hx80⟩
 ·
  replace hx := xif_f hc85 hx
  refine wc_exit ?_
  refine sq_exit ?_
  refine lp1_exit ?_
  obtain rfl := Option.some.inj hx
  obtain rfl := Option.some.inj hx80
  replace hx := hx72
  try dsimp only [Sum.elim_inl, Sum.elim_inr] at hx
  refine bk_here ?_
  refine sq_n ?_
  refine wc_sr ?_
  refine wmv rfl rfl ?_
  refine wv rfl (r_lens Tryz.underlying9 rfl) ?_
  obtain ⟨r114, h115, hx⟩ := bind_some' hx
  refine w_call rfl rfl (hM.callV fun X S oL hS hR hO => ct_impl_within _ X S (s.size : Int) (1 : Int) (8 : Int) hS  oL h115) ?_
  rintro _ w116 ⟨rfl, hR117⟩
  have hM := hM.call hR117
  refine was rfl rfl ?_
  refine wl_sq ?_
  refine wc_ret ?_
  obtain rfl := Option.some.inj hx
  refine fin_ret [(.bool r114)] ⟨rfl, trivial⟩ ?_
  replace hM := hM.t0
  have hM := hM.fewer rsN
  exact ⟨(), rfl, hM.gives⟩

noncomputable def x_impl_HeadRev (d : DDoc) : Option Int :=
  xg (inI (d.from_ + (d.list.length : Int))) <| some (d.from_ + (d.list.length : Int))
theorem ct_impl_HeadRev (w : World) (X S : Bs) (d : DDoc) (s_d_2 : Sv) (s_d_3 : Sv) (s_d_4 : Sv) (hS : ∀ b, S b → b < w.heap.size ∧ ¬ X b) (a_d_2 : (cSl 1 fI d.text).rd S w s_d_2.v) (a_d_3 : (cSl 3 fDEntry d.list).rd S w s_d_3.v) (a_d_4 : (cSl 3 fDSeen d.seen).rd S w s_d_4.v) (oL : Sep [] X w) {r : Int} (hx : x_impl_HeadRev d = some r) :
  Ret Tryz.prog 7 [(.agg #[(.string d.name), (.int .i64 d.from_), s_d_2.v, s_d_3.v, s_d_4.v])] w (fun u w' => ∃ _ : Unit, u = (.int .i64 r) ∧ Gives X S w [] [] w') := by
 unfold x_impl_HeadRev at hx
 refine enter Tryz.func7 rfl Tryz.ntmps7 (by kernel_rfl) rfl ?_
 have hM := St.enter oL hS
 have hM := hM.addE (r := rV s_d_2.v (cSl 1 fI d.text)) a_d_2
 have hM := hM.addE (r := rV s_d_3.v (cSl 3 fDEntry d.list)) a_d_3
 have hM := hM.addE (r := rV s_d_4.v (cSl 3 fDSeen d.seen)) a_d_4
 refine wc_sr ?_
 refine w_ex rfl (x_box rfl hM ?_); intro b15 w14 hR16 hM
 dsimp only [Value.cells] at hM
 refine was rfl rfl ?_
 refine wl_sq ?_
 refine wc_sr ?_
 refine wv rfl (r_fld Tryz.underlying27 rfl rfl sz3 rfl) ?_
 refine wv rfl (r_ldB Tryz.underlying3 rfl rfl hM (.head _) rfl) ?_
 refine wv rfl (r_fld Tryz.underlying27 rfl rfl sz24 rfl) ?_
 refine wv rfl (r_ldB Tryz.underlying24 rfl rfl hM (.head _) rfl) ?_
 refine wv rfl (r_lenC Tryz.underlying24 rfl (hM.seeR (.tail _ (.head _)))) ?_
 obtain ⟨hg25, hx⟩ := xg_some hx
 refine wv rfl (r_add rfl rfl hg25) ?_
 refine was rfl rfl ?_
 refine wl_sq ?_
 refine wc_ret ?_
 obtain rfl := Option.some.inj hx
 refine fin_ret [(.int .i64 (d.from_ + (d.list.length : Int)))] ⟨rfl, trivial⟩ ?_
 replace hM := hM.t0
 have hM := hM.fewer rsN
 exact ⟨(), rfl, hM.gives⟩

noncomputable def x_impl_DocOk_b0 (_d : DDoc) (_k63 : Nat) (x106 : DEntry) : Option (Lr Unit (Sum Unit Unit)) :=
  Option.bind (x_impl_EntryOk x106) fun r98 => bif !r98 then (some (Lr.out (Sum.inr (())))) else (some (Lr.go ()))
noncomputable def x_impl_DocOk_f0 (d : DDoc) (k63 : Nat) (_s107 : Unit) : Option (Lr Unit (Sum Unit Unit)) := x_impl_DocOk_b0 d k63 (el d.list k63)
noncomputable def x_impl_DocOk_b1 (d : DDoc) (k144 : Nat) (x397 : DSeen) : Option (Lr Unit (Sum Unit Bool)) :=
  Option.bind (x_impl_within (x397.client) 1 8) fun r285 => Option.bind (bif !r285 then (some true) else (Option.bind (bif decide ((0 : Int) < (k144 : Int)) then (xg (inI ((k144 : Int) - 1)) <| xg (0 ≤ ((k144 : Int) - 1) ∧ ((k144 : Int) - 1) < (d.seen.length : Int)) <| some (decide ((x397.client) ≤ ((el d.seen (((k144 : Int) - 1).toNat)).client)))) else (some false)) fun c326 => some c326)) fun c290 => Option.bind (bif c290 then (some true) else (Option.bind (x_impl_within (x397.seq) 1 1000000000) fun r365 => some (!r365))) fun c355 => Option.bind (bif c355 then (some true) else (Option.bind (x_impl_HeadRev d) fun r385 => Option.bind (x_impl_within (x397.rev) 1 r385) fun r388 => some (!r388))) fun c370 => bif c370 then (some (Lr.out (Sum.inr (false)))) else (some (Lr.go ()))
noncomputable def x_impl_DocOk_f1 (d : DDoc) (k144 : Nat) (_s398 : Unit) : Option (Lr Unit (Sum Unit Bool)) := x_impl_DocOk_b1 d k144 (el d.seen k144)
noncomputable def x_impl_DocOk (d : DDoc) : Option Bool :=
  Option.bind (x_impl_NameOk d.name) fun r8 => Option.bind (bif !r8 then (some true) else (Option.bind (x_impl_within d.from_ 0 999999000) fun r25 => some (!r25))) fun c14 => Option.bind (bif c14 then (some true) else (Option.bind (x_impl_TextOk d.text) fun r42 => some (!r42))) fun c31 => Option.bind (bif c31 then (some true) else (some (decide ((8 : Int) < (d.list.length : Int))))) fun c48 => bif c48 then (some false) else (Option.bind (eachN (x_impl_DocOk_f0 d) (fun (_s107 : Unit) => (Sum.inl () : Sum Unit Unit)) d.list.length 0 ()) fun (y108 : Sum Unit Unit) => Sum.elim (fun _y109 => Option.bind (x_impl_opsOf d.list) fun r115 => Option.bind (x_impl_ApplyAll r115 d.text) fun r123 => bif !r123.2 then (some false) else (Option.bind (eachN (x_impl_DocOk_f1 d) (fun (_s398 : Unit) => (Sum.inl () : Sum Unit Bool)) d.seen.length 0 ()) fun (y399 : Sum Unit Bool) => Sum.elim (fun _y400 => some true) (fun y401 => some y401) y399)) (fun _y110 => some false) y108)
theorem ct_impl_DocOk (w : World) (X S : Bs) (d : DDoc) (s_d_2 : Sv) (s_d_3 : Sv) (s_d_4 : Sv) (hS : ∀ b, S b → b < w.heap.size ∧ ¬ X b) (a_d_2 : (cSl 1 fI d.text).rd S w s_d_2.v) (a_d_3 : (cSl 3 fDEntry d.list).rd S w s_d_3.v) (a_d_4 : (cSl 3 fDSeen d.seen).rd S w s_d_4.v) (oL : Sep [] X w) {r : Bool} (hx : x_impl_DocOk d = some r) :
  Ret Tryz.prog 16 [(.agg #[(.string d.name), (.int .i64 d.from_), s_d_2.v, s_d_3.v, s_d_4.v])] w (fun u w' => ∃ _ : Unit, u = (.bool r) ∧ Gives X S w [] [] w') := by
 unfold x_impl_DocOk at hx
 refine enter Tryz.func16 rfl Tryz.ntmps16 (by kernel_rfl) rfl ?_
 have hM := St.enter oL hS
 have hM := hM.addE (r := rV s_d_2.v (cSl 1 fI d.text)) a_d_2
 have hM := hM.addE (r := rV s_d_3.v (cSl 3 fDEntry d.list)) a_d_3
 have hM := hM.addE (r := rV s_d_4.v (cSl 3 fDSeen d.seen)) a_d_4
 refine wc_sr ?_
 refine w_ex rfl (x_box rfl hM ?_); intro b404 w403 hR405 hM
 dsimp only [Value.cells] at hM
 refine was rfl rfl ?_
 refine wl_sq ?_
 refine wc_seq ?_
 refine wc_sr ?_
 refine wv rfl (r_fld Tryz.underlying27 rfl rfl sz9 rfl) ?_
 refine wv rfl (r_ldB Tryz.underlying9 rfl rfl hM (.head _) rfl) ?_
 obtain ⟨r410, h411, hx⟩ := bind_some' hx
 refine w_call rfl rfl (hM.callV fun X S oL hS hR hO => ct_impl_NameOk _ X S d.name hS  oL h411) ?_
 rintro _ w412 ⟨rfl, hR413⟩
 have hM := hM.call hR413
 refine wv rfl (r_not rfl) ?_
 refine wmv rfl rfl ?_
 obtain ⟨c416, hx, hx425⟩ := bind_some' hx
 refine wl_mid 5 (fun _ : Unit => [(18, (.bool c416)), (1, (.pointer (some ⟨b404, 0, none⟩)))]) (fun _ w' => St ⟨w, X, S⟩ [oBox b404 #[(.string d.name), (.int .i64 d.from_), s_d_2.v, s_d_3.v, s_d_4.v] 27] [rV s_d_4.v (cSl 3 fDSeen d.seen), rV s_d_3.v (cSl 3 fDEntry d.list), rV s_d_2.v (cSl 1 fI d.text)] w') ?_ ?_
 ·
  rcases Bool.eq_false_or_eq_true (!r410) with hg417 | hg417
  ·
   replace hx := xif_t hg417 hx
   refine gs rfl (isB_no hg417) rfl ?_
   refine gs rfl (isB_no hg417) rfl ?_
   refine gs rfl (isB_no hg417) rfl ?_
   refine gs rfl (isB_no hg417) rfl ?_
   refine wv rfl (p_t rfl hg417 rfl) ?_
   obtain rfl := Option.some.inj hx
   exact mid_nil () ⟨rfl, rfl, trivial⟩ hM
  ·
   replace hx := xif_f hg417 hx
   refine gv rfl hg417 rfl (r_fld Tryz.underlying27 rfl rfl sz3 rfl) ?_
   refine gv rfl hg417 rfl (r_ldB Tryz.underlying3 rfl rfl hM (.head _) rfl) ?_
   obtain ⟨r428, h429, hx⟩ := bind_some' hx
   refine gc rfl hg417 rfl rfl (hM.callV fun X S oL hS hR hO => ct_impl_within _ X S d.from_ (0 : Int) (999999000 : Int) hS  oL h429) ?_
   rintro _ w430 ⟨rfl, hR431⟩
   have hM := hM.call hR431
   refine gv rfl hg417 rfl (r_not rfl) ?_
   refine wv rfl (p_f rfl hg417 rfl) ?_
   obtain rfl := Option.some.inj hx
   exact mid_nil () ⟨rfl, rfl, trivial⟩ hM
 rintro _ w433 hM
 replace hx := hx425
 refine wmv rfl rfl ?_
 obtain ⟨c435, hx, hx444⟩ := bind_some' hx
 refine wl_mid 5 (fun _ : Unit => [(24, (.bool c435)), (1, (.pointer (some ⟨b404, 0, none⟩)))]) (fun _ w' => St ⟨w, X, S⟩ [oBox b404 #[(.string d.name), (.int .i64 d.from_), s_d_2.v, s_d_3.v, s_d_4.v] 27] [rV s_d_4.v (cSl 3 fDSeen d.seen), rV s_d_3.v (cSl 3 fDEntry d.list), rV s_d_2.v (cSl 1 fI d.text)] w') ?_ ?_
 ·
  rcases Bool.eq_false_or_eq_true c416 with hg436 | hg436
  ·
   replace hx := xif_t hg436 hx
   refine gs rfl (isB_no hg436) rfl ?_
   refine gs rfl (isB_no hg436) rfl ?_
   refine gs rfl (isB_no hg436) rfl ?_
   refine gs rfl (isB_no hg436) rfl ?_
   refine wv rfl (p_t rfl hg436 rfl) ?_
   obtain rfl := Option.some.inj hx
   exact mid_nil () ⟨rfl, rfl, trivial⟩ hM
  ·
   replace hx := xif_f hg436 hx
   refine gv rfl hg436 rfl (r_fld Tryz.underlying27 rfl rfl sz23 rfl) ?_
   refine gv rfl hg436 rfl (r_ldB Tryz.underlying23 rfl rfl hM (.head _) rfl) ?_
   obtain ⟨r447, h448, hx⟩ := bind_some' hx
   refine gc rfl hg436 rfl rfl (hM.callV fun X S oL hS hR hO => ct_impl_TextOk _ X S d.text s_d_2 hS (hR _ (.tail _ (.tail _ (.head _)))) oL h448) ?_
   rintro _ w449 ⟨rfl, hR450⟩
   have hM := hM.call hR450
   refine gv rfl hg436 rfl (r_not rfl) ?_
   refine wv rfl (p_f rfl hg436 rfl) ?_
   obtain rfl := Option.some.inj hx
   exact mid_nil () ⟨rfl, rfl, trivial⟩ hM
 rintro _ w452 hM
 replace hx := hx444
 refine wmv rfl rfl ?_
 obtain ⟨c454, hx, hx460⟩ := bind_some' hx
 refine wl_mid 5 (fun _ : Unit => [(30, (.bool c454)), (1, (.pointer (some ⟨b404, 0, none⟩)))]) (fun _ w' => St ⟨w, X, S⟩ [oBox b404 #[(.string d.name), (.int .i64 d.from_), s_d_2.v, s_d_3.v, s_d_4.v] 27] [rV s_d_4.v (cSl 3 fDSeen d.seen), rV s_d_3.v (cSl 3 fDEntry d.list), rV s_d_2.v (cSl 1 fI d.text)] w') ?_ ?_
 ·
  rcases Bool.eq_false_or_eq_true c435 with hg455 | hg455
  ·
   replace hx := xif_t hg455 hx
   refine gs rfl (isB_no hg455) rfl ?_
   refine gs rfl (isB_no hg455) rfl ?_
   refine gs rfl (isB_no hg455) rfl ?_
   refine gs rfl (isB_no hg455) rfl ?_
   refine wv rfl (p_t rfl hg455 rfl) ?_
   obtain rfl := Option.some.inj hx
   exact mid_nil () ⟨rfl, rfl, trivial⟩ hM
  ·
   replace hx := xif_f hg455 hx
   refine gv rfl hg455 rfl (r_fld Tryz.underlying27 rfl rfl sz24 rfl) ?_
   refine gv rfl hg455 rfl (r_ldB Tryz.underlying24 rfl rfl hM (.head _) rfl) ?_
   refine gv rfl hg455 rfl (r_lenC Tryz.underlying24 rfl (hM.seeR (.tail _ (.head _)))) ?_
   refine gv rfl hg455 rfl (r_gtr rfl rfl) ?_
   refine wv rfl (p_f rfl hg455 rfl) ?_
   obtain rfl := Option.some.inj hx
   exact mid_nil () ⟨rfl, rfl, trivial⟩ hM
 rintro _ w465 hM
 replace hx := hx460
 refine wl_sq ?_
 refine wc_cond rfl (fun hc466 => ?_) (fun hc466 => ?_)
 ·
  replace hx := xif_t hc466 hx
  refine wc_sr ?_
  refine was rfl rfl ?_
  refine wl_sq ?_
  refine wc_ret ?_
  refine sq_ret ?_
  obtain rfl := Option.some.inj hx
  refine fin_ret [(.bool false)] ⟨rfl, trivial⟩ ?_
  replace hM := hM.t0
  have hM := hM.fewer rsN
  exact ⟨(), rfl, hM.gives⟩
 ·
  replace hx := xif_f hc466 hx
  refine wc_skip ?_
  refine sq_n ?_
  refine wc_seq ?_
  refine wc_sr ?_
  refine wv rfl (r_fld Tryz.underlying27 rfl rfl sz24 rfl) ?_
  refine wv rfl (r_ldB Tryz.underlying24 rfl rfl hM (.head _) rfl) ?_
  refine wv rfl (r_lenC Tryz.underlying24 rfl (hM.seeR (.tail _ (.head _)))) ?_
  refine wmv rfl rfl ?_
  refine wl_sq ?_
  refine wc_block ?_
  obtain ⟨y472, hx, hx473⟩ := bind_some' hx
  have hM := hM.fewer (rsC (.tail _ (.tail _ (.head _))) (rsC (.tail _ (.head _)) (rsC (.head _) rsN)))
  replace hM : St ⟨w, X, S⟩ [oBox b404 #[(.string d.name), (.int .i64 d.from_), s_d_2.v, s_d_3.v, s_d_4.v] 27] [rV s_d_2.v (cSl 1 fI d.text), rV s_d_3.v (cSl 3 fDEntry d.list), rV s_d_4.v (cSl 3 fDSeen d.seen)] _ := hM
  have hl477 := Cs.le (hM.seeR (.tail _ (.head _)))
  refine wc_loop (un fun (m474 : Nat) => fun (k475 : Nat) => [(1, (.pointer (some ⟨b404, 0, none⟩))), (32, s_d_3.v), (33, (.int .i64 (d.list.length : Int))), (34, (.int .i64 (k475 : Int)))]) (un fun (m474 : Nat) => fun (k475 : Nat) w' => St ⟨w, X, S⟩ [oBox b404 #[(.string d.name), (.int .i64 d.from_), s_d_2.v, s_d_3.v, s_d_4.v] 27] [rV s_d_2.v (cSl 1 fI d.text), rV s_d_3.v (cSl 3 fDEntry d.list), rV s_d_4.v (cSl 3 fDSeen d.seen)] w' ∧ eachN _ _ m474 k475 () = some y472 ∧ k475 + m474 = d.list.length) (fun p => p.1) (d.list.length, 0) ⟨rfl, rfl, rfl, rfl, trivial⟩ ⟨hM, hx, Nat.zero_add _⟩ ?_
  rintro ⟨m474, k475⟩ w478 ⟨hM, hx, hk476⟩
  refine wc_sr ?_
  refine wv rfl (r_lss rfl rfl) ?_
  refine wl_sq ?_
  refine wc_seq ?_
  refine wc_cond rfl (fun hc480 => ?_) (fun hc480 => ?_)
  ·
   replace hc480 := of_decide_eq_true hc480
   obtain ⟨m481, z482, rfl, hk476, hx, hx483⟩ := eachN_step hx hk476 hc480
   unfold x_impl_DocOk_f0 x_impl_DocOk_b0 at hx
   try dsimp only at hx
   refine wc_skip ?_
   refine sq_n ?_
   refine wc_seq ?_
   refine wc_block ?_
   refine wc_sr ?_
   have hi485 : k475 < d.list.length := by omega
   refine wv rfl (r_ixC Tryz.underlying24 sz70 rfl rfl (hM.seeR (.tail _ (.head _))) ⟨by omega, hc480⟩) ?_
   obtain ⟨s487, hM, hc488⟩ := hM.leaf (i := k475) (j := 2) (.tail _ (.head _)) (fun _ => rfl) hi485 rfl
   refine wv rfl (r_ldC (o := k475 * 3) Tryz.underlying70 sz70 rfl (us := [(.int .i64 ((el d.list k475).client)), (.int .i64 ((el d.list k475).seq)), s487.v]) rfl (hM.seeR (.tail _ (.tail _ (.head _)))) hi485 ⟨(Cs.get (i := k475) (j := 0) (hM.seeR (.tail _ (.tail _ (.head _)))) (fun _ => rfl) hi485 rfl), (Cs.get (i := k475) (j := 1) (hM.seeR (.tail _ (.tail _ (.head _)))) (fun _ => rfl) hi485 rfl), (hc488 _ (Rel.refl _)), trivial⟩) ?_
   refine w_ex rfl (x_alloc sz70 hM ?_); intro b490 w489 hR491 hM
   dsimp only [Value.cells] at hM
   refine w_exu (x_stB #[(.int .i64 ((el d.list k475).client)), (.int .i64 ((el d.list k475).seq)), s487.v] sz70 rfl rfl rfl rfl rfl rfl hM ?_); intro w493 hM
   refine wl_sq ?_
   refine wc_sr ?_
   refine wv rfl (r_ldBS Tryz.underlying70 sz70 rfl (us := [(.int .i64 ((el d.list k475).client)), (.int .i64 ((el d.list k475).seq)), s487.v]) rfl hM (.head _) rfl) ?_
   obtain ⟨r496, h497, hx⟩ := bind_some' hx
   refine w_call rfl rfl (hM.callV fun X S oL hS hR hO => ct_impl_EntryOk _ X S (el d.list k475) s487 hS (hR _ (.head _)) oL h497) ?_
   rintro _ w498 ⟨rfl, hR499⟩
   have hM := hM.call hR499
   refine wv rfl (r_not rfl) ?_
   refine wl_sq ?_
   refine wc_cond rfl (fun hc501 => ?_) (fun hc501 => ?_)
   ·
    replace hx := xif_t hc501 hx
    refine wc_sr ?_
    refine was rfl rfl ?_
    refine wl_sq ?_
    refine wc_ret ?_
    refine bk_ret ?_
    refine sq_ret ?_
    refine lp1_ret ?_
    obtain rfl := Option.some.inj hx
    obtain rfl := Option.some.inj hx483
    replace hx := hx473
    try dsimp only [Sum.elim_inl, Sum.elim_inr] at hx
    refine bk_ret ?_
    refine sq_ret ?_
    obtain rfl := Option.some.inj hx
    refine fin_ret [(.bool false)] ⟨rfl, trivial⟩ ?_
    replace hM := hM.t0
    have hM := hM.fewer rsN
    exact ⟨(), rfl, hM.gives⟩
   ·
    replace hx := xif_f hc501 hx
    refine wc_skip ?_
    refine bk_n ?_
    refine sq_n ?_
    refine wc_region ?_
    refine wv rfl (r_add rfl rfl ⟨by omega, by omega⟩) ?_
    refine wmv rfl rfl ?_
    refine wl_nil ?_
    obtain rfl := Option.some.inj hx
    replace hM := hM.p1
    replace hM := hM.t1
    have hM := hM.fewer (rsC (.tail _ (.head _)) (rsC (.tail _ (.tail _ (.head _))) (rsC (.tail _ (.tail _ (.tail _ (.head _)))) rsN)))
    replace hM : St ⟨w, X, S⟩ [oBox b404 #[(.string d.name), (.int .i64 d.from_), s_d_2.v, s_d_3.v, s_d_4.v] 27] [rV s_d_2.v (cSl 1 fI d.text), rV s_d_3.v (cSl 3 fDEntry d.list), rV s_d_4.v (cSl 3 fDSeen d.seen)] _ := hM
    exact lp_end (m481, k475 + 1) (Nat.lt_succ_self _) ⟨rfl, rfl, rfl, rfl, trivial⟩ ⟨hM, hx483, hk476⟩
  ·
   replace hc480 := of_decide_eq_false hc480
   obtain rfl := eachN_end hx hk476 hc480
   refine wc_exit ?_
   refine sq_exit ?_
   refine lp1_exit ?_
   replace hx := hx473
   try dsimp only [Sum.elim_inl, Sum.elim_inr] at hx
   refine bk_here ?_
   refine sq_n ?_
   refine wc_seq ?_
   refine wc_seq ?_
   refine wc_draw [(0, 0), (1, 0), (3, 0), (4, 0), (2, 1), (5, 2), (6, 0), (7, 0), (8, 0), (9, 0), (10, 0)] Tryz_mixed (by kernel_rfl) rfl (by kernel_rfl) rfl ?_
   refine ov rfl (fun w' h' => r_fld Tryz.underlying27 rfl rfl sz24 rfl) ?_
   refine ov rfl (fun w' h' => r_ldB Tryz.underlying24 rfl rfl (hM.call h') (.head _) rfl) ?_
   refine ov rfl (fun w' h' => r_fld Tryz.underlying27 rfl rfl sz23 rfl) ?_
   refine ov rfl (fun w' h' => r_ldB Tryz.underlying23 rfl rfl (hM.call h') (.head _) rfl) ?_
   obtain ⟨r509, h510, hx⟩ := bind_some' hx
   refine o_forced rfl rfl (fun w' h' => (hM.call h').callF fun X S oL hS hR hO => ct_impl_opsOf _ X S d.list s_d_3 hS (hR _ (.tail _ (.head _))) oL h510) ?_
   rintro w513 h514 _ w511 ⟨hR515, s512, rfl, hM⟩
   refine ⟨hR515, ?_⟩
   dsimp only [List.cons_append, List.nil_append] at hM
   obtain ⟨r517, h518, hx⟩ := bind_some' hx
   refine o_call rfl rfl (fun w' h' => (hM.call h').callO (l := []) fun X S oL hS hR hO => ct_impl_ApplyAll _ X S r509 s512 d.text s_d_2 hS (seeA hO (.head _)) (hR _ (.head _)) oL h518) ?_
   rintro w521 h522 _ w519 ⟨s520, rfl, hM⟩
   dsimp only [List.cons_append, List.nil_append] at hM
   refine omv rfl rfl ?_
   refine ov rfl (fun w' h' => r_extract rfl rfl) ?_
   refine ov rfl (fun w' h' => r_extract rfl rfl) ?_
   refine ov rfl (fun w' h' => r_assign rfl) ?_
   refine ov rfl (fun w' h' => r_assign rfl) ?_
   refine o_nilM hM fun w529 hM => ?_
   refine sq_n ?_
   refine wc_sr ?_
   refine wmv rfl rfl ?_
   refine wv rfl (r_not rfl) ?_
   refine wl_sq ?_
   refine wc_cond rfl (fun hc533 => ?_) (fun hc533 => ?_)
   ·
    replace hx := xif_t hc533 hx
    refine wc_sr ?_
    refine was rfl rfl ?_
    refine wl_sq ?_
    refine wc_ret ?_
    refine sq_ret ?_
    obtain rfl := Option.some.inj hx
    refine fin_ret [(.bool false)] ⟨rfl, trivial⟩ ?_
    replace hM := hM.t0
    have hM := hM.fewer rsN
    exact ⟨(), rfl, hM.gives⟩
   ·
    replace hx := xif_f hc533 hx
    refine wc_skip ?_
    refine sq_n ?_
    refine wc_seq ?_
    refine wc_sr ?_
    refine wv rfl (r_fld Tryz.underlying27 rfl rfl sz25 rfl) ?_
    refine wv rfl (r_ldB Tryz.underlying25 rfl rfl hM (.tail _ (.tail _ (.head _))) rfl) ?_
    refine wv rfl (r_lenC Tryz.underlying25 rfl (hM.seeR (.tail _ (.tail _ (.head _))))) ?_
    refine wmv rfl rfl ?_
    refine wl_sq ?_
    refine wc_block ?_
    obtain ⟨y539, hx, hx540⟩ := bind_some' hx
    replace hM := hM.p2
    replace hM := hM.t1
    have hl544 := Cs.le (hM.seeR (.tail _ (.tail _ (.head _))))
    refine wc_loop (un fun (m541 : Nat) => fun (k542 : Nat) => [(1, (.pointer (some ⟨b404, 0, none⟩))), (54, s_d_4.v), (55, (.int .i64 (d.seen.length : Int))), (56, (.int .i64 (k542 : Int)))]) (un fun (m541 : Nat) => fun (k542 : Nat) w' => St ⟨w, X, S⟩ [oBox b404 #[(.string d.name), (.int .i64 d.from_), s_d_2.v, s_d_3.v, s_d_4.v] 27] [rV s_d_2.v (cSl 1 fI d.text), rV s_d_3.v (cSl 3 fDEntry d.list), rV s_d_4.v (cSl 3 fDSeen d.seen)] w' ∧ eachN _ _ m541 k542 () = some y539 ∧ k542 + m541 = d.seen.length) (fun p => p.1) (d.seen.length, 0) ⟨rfl, rfl, rfl, rfl, trivial⟩ ⟨hM, hx, Nat.zero_add _⟩ ?_
    rintro ⟨m541, k542⟩ w545 ⟨hM, hx, hk543⟩
    refine wc_sr ?_
    refine wv rfl (r_lss rfl rfl) ?_
    refine wl_sq ?_
    refine wc_seq ?_
    refine wc_cond rfl (fun hc547 => ?_) (fun hc547 => ?_)
    ·
     replace hc547 := of_decide_eq_true hc547
     obtain ⟨m548, z549, rfl, hk543, hx, hx550⟩ := eachN_step hx hk543 hc547
     unfold x_impl_DocOk_f1 x_impl_DocOk_b1 at hx
     try dsimp only at hx
     refine wc_skip ?_
     refine sq_n ?_
     refine wc_seq ?_
     refine wc_block ?_
     refine wc_sr ?_
     refine wmv rfl rfl ?_
     have hi553 : k542 < d.seen.length := by omega
     refine wv rfl (r_ixC Tryz.underlying25 sz83 rfl rfl (hM.seeR (.tail _ (.tail _ (.head _)))) ⟨by omega, hc547⟩) ?_
     refine wv rfl (r_ldC (o := k542 * 3) Tryz.underlying83 sz83 rfl (us := [(.int .i64 ((el d.seen k542).client)), (.int .i64 ((el d.seen k542).seq)), (.int .i64 ((el d.seen k542).rev))]) rfl (hM.seeR (.tail _ (.tail _ (.head _)))) hi553 ⟨(Cs.get (i := k542) (j := 0) (hM.seeR (.tail _ (.tail _ (.head _)))) (fun _ => rfl) hi553 rfl), (Cs.get (i := k542) (j := 1) (hM.seeR (.tail _ (.tail _ (.head _)))) (fun _ => rfl) hi553 rfl), (Cs.get (i := k542) (j := 2) (hM.seeR (.tail _ (.tail _ (.head _)))) (fun _ => rfl) hi553 rfl), trivial⟩) ?_
     refine w_ex rfl (x_alloc sz83 hM ?_); intro b556 w555 hR557 hM
     dsimp only [Value.cells] at hM
     refine was rfl rfl ?_
     refine w_exu (x_stB #[(.int .i64 ((el d.seen k542).client)), (.int .i64 ((el d.seen k542).seq)), (.int .i64 ((el d.seen k542).rev))] sz83 rfl rfl rfl rfl rfl rfl hM ?_); intro w560 hM
     refine wl_sq ?_
     refine wc_seq ?_
     refine wc_draw [(0, 0), (1, 0), (2, 0), (3, 0), (4, 0), (5, 0), (6, 0), (7, 0), (8, 0), (9, 0), (10, 0), (11, 0), (12, 0), (13, 0), (14, 0), (15, 0), (16, 0), (17, 0), (18, 0), (19, 0), (20, 0), (21, 0), (22, 0), (23, 0), (24, 0), (25, 0), (26, 0), (27, 0), (28, 0), (29, 0), (30, 0), (31, 0), (32, 0), (33, 0)] Tryz_mixed (by kernel_rfl) rfl (by kernel_rfl) rfl ?_
     refine ov rfl (fun w' h' => r_fld Tryz.underlying83 rfl rfl sz3 rfl) ?_
     refine ov rfl (fun w' h' => r_ldB Tryz.underlying3 rfl rfl (hM.call h') (.head _) rfl) ?_
     obtain ⟨r564, h565, hx⟩ := bind_some' hx
     refine oc rfl rfl (fun w' h' => (hM.call h').callV fun X S oL hS hR hO => ct_impl_within _ X S ((el d.seen k542).client) (1 : Int) (8 : Int) hS  oL h565) ?_
     refine ov rfl (fun w' h' => r_not rfl) ?_
     refine omv rfl rfl ?_
     obtain ⟨c569, hx, hx602⟩ := bind_some' hx
     refine wo_mid 15 [(80, (.bool c569)), (1, (.pointer (some ⟨b404, 0, none⟩))), (8, (.pointer (some ⟨b556, 0, none⟩))), (54, s_d_4.v), (55, (.int .i64 (d.seen.length : Int))), (56, (.int .i64 (k542 : Int)))] rfl ?_ ?_
     ·
      rcases Bool.eq_false_or_eq_true (!r564) with hg570 | hg570
      ·
       replace hx := xif_t hg570 hx
       refine ogs rfl (isB_no hg570) rfl ?_
       refine ogs rfl (isB_no hg570) rfl ?_
       refine ogs rfl (isB_no hg570) rfl ?_
       refine ogs rfl rfl rfl ?_
       refine ogs rfl rfl rfl ?_
       refine ogs rfl rfl rfl ?_
       refine ogs rfl rfl rfl ?_
       refine ogs rfl rfl rfl ?_
       refine ogs rfl rfl rfl ?_
       refine ogs rfl rfl rfl ?_
       refine ogs rfl rfl rfl ?_
       refine ogs rfl rfl rfl ?_
       refine ogs rfl rfl rfl ?_
       refine ogs rfl (isB_no hg570) rfl ?_
       refine ov rfl (fun w' h' => p_t rfl hg570 rfl) ?_
       obtain rfl := Option.some.inj hx
       exact mid_onil ⟨rfl, rfl, rfl, rfl, rfl, rfl, trivial⟩
      ·
       replace hx := xif_f hg570 hx
       refine ogv rfl hg570 rfl (fun w' h' => r_move rfl) ?_
       refine ogv rfl hg570 rfl (fun w' h' => r_gtr rfl rfl) ?_
       refine ogv rfl hg570 rfl (fun w' h' => r_move rfl) ?_
       obtain ⟨c606, hx, hx621⟩ := bind_some' hx
       refine wo_mid 11 [(79, (.bool c606)), (1, (.pointer (some ⟨b404, 0, none⟩))), (8, (.pointer (some ⟨b556, 0, none⟩))), (54, s_d_4.v), (55, (.int .i64 (d.seen.length : Int))), (56, (.int .i64 (k542 : Int))), (65, (.bool (!r564))), (66, (.int .i64 (k542 : Int))), (67, (.bool (decide ((0 : Int) < (k542 : Int))))), (68, (.bool (decide ((0 : Int) < (k542 : Int)))))] rfl ?_ ?_
       ·
        rcases Bool.eq_false_or_eq_true (decide ((0 : Int) < (k542 : Int))) with hg607 | hg607
        ·
         replace hx := xif_t hg607 hx
         refine ogv rfl hg607 rfl (fun w' h' => r_fld Tryz.underlying27 rfl rfl sz25 rfl) ?_
         refine ogv rfl hg607 rfl (fun w' h' => r_ldB Tryz.underlying25 rfl rfl (hM.call h') (.tail _ (.head _)) rfl) ?_
         refine ogv rfl hg607 rfl (fun w' h' => r_move rfl) ?_
         obtain ⟨hg626, hx⟩ := xg_some hx
         refine ogv rfl hg607 rfl (fun w' h' => r_sub rfl rfl hg626) ?_
         obtain ⟨hg629, hx⟩ := xg_some hx
         have hi628 : (((k542 : Int) - 1).toNat) < d.seen.length := by omega
         refine ogv rfl hg607 rfl (fun w' h' => r_ixC Tryz.underlying25 sz83 rfl rfl ((hM.call h').seeR (.tail _ (.tail _ (.head _)))) hg629) ?_
         refine ogv rfl hg607 rfl (fun w' h' => r_fldC (i := (((k542 : Int) - 1).toNat)) Tryz.underlying83 rfl rfl sz3 rfl ((hM.call h').seeR (.tail _ (.tail _ (.head _)))) hi628) ?_
         refine ogv rfl hg607 rfl (fun w' h' => r_ld Tryz.underlying3 rfl rfl (Cs.get (i := (((k542 : Int) - 1).toNat)) (j := 0) ((hM.call h').seeR (.tail _ (.tail _ (.head _)))) (fun _ => rfl) hi628 rfl)) ?_
         refine ogv rfl hg607 rfl (fun w' h' => r_fld Tryz.underlying83 rfl rfl sz3 rfl) ?_
         refine ogv rfl hg607 rfl (fun w' h' => r_ldB Tryz.underlying3 rfl rfl (hM.call h') (.head _) rfl) ?_
         refine ogv rfl hg607 rfl (fun w' h' => r_geq rfl rfl) ?_
         refine ogv rfl hg570 rfl (fun w' h' => p_t rfl hg607 rfl) ?_
         obtain rfl := Option.some.inj hx
         exact mid_onil ⟨rfl, rfl, rfl, rfl, rfl, rfl, rfl, rfl, rfl, rfl, trivial⟩
        ·
         replace hx := xif_f hg607 hx
         refine ogs rfl (isB_no hg607) rfl ?_
         refine ogs rfl (isB_no hg607) rfl ?_
         refine ogs rfl (isB_no hg607) rfl ?_
         refine ogs rfl (isB_no hg607) rfl ?_
         refine ogs rfl (isB_no hg607) rfl ?_
         refine ogs rfl (isB_no hg607) rfl ?_
         refine ogs rfl (isB_no hg607) rfl ?_
         refine ogs rfl (isB_no hg607) rfl ?_
         refine ogs rfl (isB_no hg607) rfl ?_
         refine ogs rfl (isB_no hg607) rfl ?_
         refine ogv rfl hg570 rfl (fun w' h' => p_f rfl hg607 rfl) ?_
         obtain rfl := Option.some.inj hx
         exact mid_onil ⟨rfl, rfl, rfl, rfl, rfl, rfl, rfl, rfl, rfl, rfl, trivial⟩
       replace hx := hx621
       refine ov rfl (fun w' h' => p_f rfl hg570 rfl) ?_
       obtain rfl := Option.some.inj hx
       exact mid_onil ⟨rfl, rfl, rfl, rfl, rfl, rfl, trivial⟩
     replace hx := hx602
     refine omv rfl rfl ?_
     obtain ⟨c636, hx, hx644⟩ := bind_some' hx
     refine wo_mid 5 [(86, (.bool c636)), (1, (.pointer (some ⟨b404, 0, none⟩))), (8, (.pointer (some ⟨b556, 0, none⟩))), (54, s_d_4.v), (55, (.int .i64 (d.seen.length : Int))), (56, (.int .i64 (k542 : Int)))] rfl ?_ ?_
     ·
      rcases Bool.eq_false_or_eq_true c569 with hg637 | hg637
      ·
       replace hx := xif_t hg637 hx
       refine ogs rfl (isB_no hg637) rfl ?_
       refine ogs rfl (isB_no hg637) rfl ?_
       refine ogs rfl (isB_no hg637) rfl ?_
       refine ogs rfl (isB_no hg637) rfl ?_
       refine ov rfl (fun w' h' => p_t rfl hg637 rfl) ?_
       obtain rfl := Option.some.inj hx
       exact mid_onil ⟨rfl, rfl, rfl, rfl, rfl, rfl, trivial⟩
      ·
       replace hx := xif_f hg637 hx
       refine ogv rfl hg637 rfl (fun w' h' => r_fld Tryz.underlying83 rfl rfl sz3 rfl) ?_
       refine ogv rfl hg637 rfl (fun w' h' => r_ldB Tryz.underlying3 rfl rfl (hM.call h') (.head _) rfl) ?_
       obtain ⟨r647, h648, hx⟩ := bind_some' hx
       refine ogc rfl hg637 rfl rfl (fun w' h' => (hM.call h').callV fun X S oL hS hR hO => ct_impl_within _ X S ((el d.seen k542).seq) (1 : Int) (1000000000 : Int) hS  oL h648) ?_
       refine ogv rfl hg637 rfl (fun w' h' => r_not rfl) ?_
       refine ov rfl (fun w' h' => p_f rfl hg637 rfl) ?_
       obtain rfl := Option.some.inj hx
       exact mid_onil ⟨rfl, rfl, rfl, rfl, rfl, rfl, trivial⟩
     replace hx := hx644
     refine omv rfl rfl ?_
     obtain ⟨c652, hx, hx664⟩ := bind_some' hx
     refine wo_mid 7 [(94, (.bool c652)), (1, (.pointer (some ⟨b404, 0, none⟩))), (54, s_d_4.v), (55, (.int .i64 (d.seen.length : Int))), (56, (.int .i64 (k542 : Int)))] rfl ?_ ?_
     ·
      rcases Bool.eq_false_or_eq_true c636 with hg653 | hg653
      ·
       replace hx := xif_t hg653 hx
       refine ogs rfl (isB_no hg653) rfl ?_
       refine ogs rfl (isB_no hg653) rfl ?_
       refine ogs rfl (isB_no hg653) rfl ?_
       refine ogs rfl (isB_no hg653) rfl ?_
       refine ogs rfl (isB_no hg653) rfl ?_
       refine ogs rfl (isB_no hg653) rfl ?_
       refine ov rfl (fun w' h' => p_t rfl hg653 rfl) ?_
       obtain rfl := Option.some.inj hx
       exact mid_onil ⟨rfl, rfl, rfl, rfl, rfl, trivial⟩
      ·
       replace hx := xif_f hg653 hx
       refine ogv rfl hg653 rfl (fun w' h' => r_fld Tryz.underlying83 rfl rfl sz3 rfl) ?_
       refine ogv rfl hg653 rfl (fun w' h' => r_ldB Tryz.underlying3 rfl rfl (hM.call h') (.head _) rfl) ?_
       refine ogv rfl hg653 rfl (fun w' h' => r_ldBS Tryz.underlying27 sz27 rfl (us := [(.string d.name), (.int .i64 d.from_), s_d_2.v, s_d_3.v, s_d_4.v]) rfl (hM.call h') (.tail _ (.head _)) rfl) ?_
       obtain ⟨r668, h669, hx⟩ := bind_some' hx
       refine ogc rfl hg653 rfl rfl (fun w' h' => (hM.call h').callV fun X S oL hS hR hO => ct_impl_HeadRev _ X S d s_d_2 s_d_3 s_d_4 hS (hR _ (.head _)) (hR _ (.tail _ (.head _))) (hR _ (.tail _ (.tail _ (.head _)))) oL h669) ?_
       obtain ⟨r671, h672, hx⟩ := bind_some' hx
       refine ogc rfl hg653 rfl rfl (fun w' h' => (hM.call h').callV fun X S oL hS hR hO => ct_impl_within _ X S ((el d.seen k542).rev) (1 : Int) r668 hS  oL h672) ?_
       refine ogv rfl hg653 rfl (fun w' h' => r_not rfl) ?_
       refine ov rfl (fun w' h' => p_f rfl hg653 rfl) ?_
       obtain rfl := Option.some.inj hx
       exact mid_onil ⟨rfl, rfl, rfl, rfl, rfl, trivial⟩
     replace hx := hx664
     refine o_nilM hM fun w675 hM => ?_
     refine sq_n ?_
     refine wc_cond rfl (fun hc677 => ?_) (fun hc677 => ?_)
     ·
      replace hx := xif_t hc677 hx
      refine wc_sr ?_
      refine was rfl rfl ?_
      refine wl_sq ?_
      refine wc_ret ?_
      refine bk_ret ?_
      refine sq_ret ?_
      refine lp1_ret ?_
      obtain rfl := Option.some.inj hx
      obtain rfl := Option.some.inj hx550
      replace hx := hx540
      try dsimp only [Sum.elim_inl, Sum.elim_inr] at hx
      refine bk_ret ?_
      refine sq_ret ?_
      obtain rfl := Option.some.inj hx
      refine fin_ret [(.bool false)] ⟨rfl, trivial⟩ ?_
      replace hM := hM.t0
      have hM := hM.fewer rsN
      exact ⟨(), rfl, hM.gives⟩
     ·
      replace hx := xif_f hc677 hx
      refine wc_skip ?_
      refine bk_n ?_
      refine sq_n ?_
      refine wc_region ?_
      refine wv rfl (r_add rfl rfl ⟨by omega, by omega⟩) ?_
      refine wmv rfl rfl ?_
      refine wl_nil ?_
      obtain rfl := Option.some.inj hx
      replace hM := hM.p1
      replace hM := hM.t1
      exact lp_end (m548, k542 + 1) (Nat.lt_succ_self _) ⟨rfl, rfl, rfl, rfl, trivial⟩ ⟨hM, hx550, hk543⟩
    ·
     replace hc547 := of_decide_eq_false hc547
     obtain rfl := eachN_end hx hk543 hc547
     refine wc_exit ?_
     refine sq_exit ?_
     refine lp1_exit ?_
     replace hx := hx540
     try dsimp only [Sum.elim_inl, Sum.elim_inr] at hx
     refine bk_here ?_
     refine sq_n ?_
     refine wc_sr ?_
     refine was rfl rfl ?_
     refine wl_sq ?_
     refine wc_ret ?_
     obtain rfl := Option.some.inj hx
     refine fin_ret [(.bool true)] ⟨rfl, trivial⟩ ?_
     replace hM := hM.t0
     have hM := hM.fewer rsN
     exact ⟨(), rfl, hM.gives⟩

noncomputable def x_spec_NameOk_b0 (s : ByteArray) (i3 : Int) : Option (Lr Int (Sum Unit Unit)) :=
  bif decide (i3 < (s.size : Int)) then (xg (0 ≤ i3 ∧ i3 < (s.size : Int)) <| Option.bind (bif decide (((sget s i3.toNat).toNat : Int) < 97) then (some true) else (xg (0 ≤ i3 ∧ i3 < (s.size : Int)) <| some (decide ((122 : Int) < ((sget s i3.toNat).toNat : Int))))) fun c41 => bif c41 then (some (Lr.out (Sum.inr (())))) else (xg (inI (i3 + 1)) <| some (Lr.go (i3 + 1)))) else (some (Lr.out (Sum.inl ())))
noncomputable def x_spec_NameOk_f0 (s : ByteArray) (s58 : Int) : Option (Lr Int (Sum Unit Unit)) := x_spec_NameOk_b0 s s58
noncomputable def x_spec_NameOk (s : ByteArray) : Option Bool :=
  Option.bind (iter (x_spec_NameOk_f0 s) 0) fun (y59 : Sum Unit Unit) => Sum.elim (fun _y60 => Option.bind (x_spec_l01In (s.size : Int) 1 8) fun r64 => some r64) (fun _y61 => some false) y59
theorem ct_spec_NameOk (w : World) (X S : Bs) (s : ByteArray) (hS : ∀ b, S b → b < w.heap.size ∧ ¬ X b)  (oL : Sep [] X w) {r : Bool} (hx : x_spec_NameOk s = some r) :
  Ret Tryz.prog 87 [(.string s)] w (fun u w' => ∃ _ : Unit, u = (.bool r) ∧ Gives X S w [] [] w') := by
 unfold x_spec_NameOk at hx
 refine enter Tryz.func87 rfl Tryz.ntmps87 (by kernel_rfl) rfl ?_
 have hM := St.enter oL hS
 refine wc_sr ?_
 refine was rfl rfl ?_
 refine wl_sq ?_
 refine wc_seq ?_
 refine wc_sr ?_
 refine was rfl rfl ?_
 refine wl_sq ?_
 refine wc_block ?_
 obtain ⟨y71, hx, hx72⟩ := bind_some' hx
 obtain ⟨m76, hx⟩ := iter_run hx
 refine wc_loop (un fun (m74 : Nat) => fun (i73 : Int) => [(0, (.string s)), (3, (.int .i64 i73))]) (un fun (m74 : Nat) => fun (i73 : Int) w' => St ⟨w, X, S⟩ [] [] w' ∧ iterN _ m74 i73 = some y71) (fun p => p.1) (m76, 0) ⟨rfl, rfl, trivial⟩ ⟨hM, hx⟩ ?_
 rintro ⟨m74, i73⟩ w77 ⟨hM, hx⟩
 obtain ⟨m78, z79, rfl, hx, hx80⟩ := iterN_step hx
 unfold x_spec_NameOk_f0 x_spec_NameOk_b0 at hx
 try dsimp only at hx
 refine wc_seq ?_
 refine wc_sr ?_
 refine wmv rfl rfl ?_
 refine wmv rfl rfl ?_
 refine wv rfl (r_lens Tryz.underlying9 rfl) ?_
 refine wv rfl (r_lss rfl rfl) ?_
 refine wl_sq ?_
 refine wc_cond rfl (fun hc85 => ?_) (fun hc85 => ?_)
 ·
  replace hx := xif_t hc85 hx
  refine wc_skip ?_
  refine sq_n ?_
  refine wc_seq ?_
  refine wc_block ?_
  refine wc_sr ?_
  refine wmv rfl rfl ?_
  refine wmv rfl rfl ?_
  obtain ⟨hg89, hx⟩ := xg_some hx
  refine wv rfl (r_sidx Tryz.underlying9 rfl rfl hg89) ?_
  refine wv rfl (r_lss rfl rfl) ?_
  refine wmv rfl rfl ?_
  obtain ⟨c92, hx, hx99⟩ := bind_some' hx
  refine wl_mid 5 (fun _ : Unit => [(19, (.bool c92)), (0, (.string s)), (3, (.int .i64 i73))]) (fun _ w' => St ⟨w, X, S⟩ [] [] w') ?_ ?_
  ·
   rcases Bool.eq_false_or_eq_true (decide (((sget s i73.toNat).toNat : Int) < 97)) with hg93 | hg93
   ·
    replace hx := xif_t hg93 hx
    refine gs rfl (isB_no hg93) rfl ?_
    refine gs rfl (isB_no hg93) rfl ?_
    refine gs rfl (isB_no hg93) rfl ?_
    refine gs rfl (isB_no hg93) rfl ?_
    refine wv rfl (p_t rfl hg93 rfl) ?_
    obtain rfl := Option.some.inj hx
    exact mid_nil () ⟨rfl, rfl, rfl, trivial⟩ hM
   ·
    replace hx := xif_f hg93 hx
    refine gv rfl hg93 rfl (r_move rfl) ?_
    refine gv rfl hg93 rfl (r_move rfl) ?_
    obtain ⟨hg103, hx⟩ := xg_some hx
    refine gv rfl hg93 rfl (r_sidx Tryz.underlying9 rfl rfl hg103) ?_
    refine gv rfl hg93 rfl (r_gtr rfl rfl) ?_
    refine wv rfl (p_f rfl hg93 rfl) ?_
    obtain rfl := Option.some.inj hx
    exact mid_nil () ⟨rfl, rfl, rfl, trivial⟩ hM
  rintro _ w105 hM
  replace hx := hx99
  refine wl_sq ?_
  refine wc_cond rfl (fun hc106 => ?_) (fun hc106 => ?_)
  ·
   replace hx := xif_t hc106 hx
   refine wc_sr ?_
   refine was rfl rfl ?_
   refine wl_sq ?_
   refine wc_ret ?_
   refine bk_ret ?_
   refine sq_ret ?_
   refine lp1_ret ?_
   obtain rfl := Option.some.inj hx
   obtain rfl := Option.some.inj hx80
   replace hx := hx72
   try dsimp only [Sum.elim_inl, Sum.elim_inr] at hx
   refine bk_ret ?_
   refine sq_ret ?_
   obtain rfl := Option.some.inj hx
   refine fin_ret [(.bool false)] ⟨rfl, trivial⟩ ?_
   replace hM := hM.t0
   have hM := hM.fewer rsN
   exact ⟨(), rfl, hM.gives⟩
  ·
   replace hx := xif_f hc106 hx
   refine wc_skip ?_
   refine bk_n ?_
   refine sq_n ?_
   refine wc_region ?_
   refine wmv rfl rfl ?_
   obtain ⟨hg110, hx⟩ := xg_some hx
   refine wv rfl (r_add rfl rfl hg110) ?_
   refine was rfl rfl ?_
   refine wl_nil ?_
   obtain rfl := Option.some.inj hx
   exact lp_end (m78, i73 + 1) (Nat.lt_succ_self _) ⟨rfl, rfl, trivial⟩ ⟨hM, hx80⟩
 ·
  replace hx := xif_f hc85 hx
  refine wc_exit ?_
  refine sq_exit ?_
  refine lp1_exit ?_
  obtain rfl := Option.some.inj hx
  obtain rfl := Option.some.inj hx80
  replace hx := hx72
  try dsimp only [Sum.elim_inl, Sum.elim_inr] at hx
  refine bk_here ?_
  refine sq_n ?_
  refine wc_sr ?_
  refine wmv rfl rfl ?_
  refine wv rfl (r_lens Tryz.underlying9 rfl) ?_
  obtain ⟨r114, h115, hx⟩ := bind_some' hx
  refine w_call rfl rfl (hM.callV fun X S oL hS hR hO => ct_spec_l01In _ X S (s.size : Int) (1 : Int) (8 : Int) hS  oL h115) ?_
  rintro _ w116 ⟨rfl, hR117⟩
  have hM := hM.call hR117
  refine was rfl rfl ?_
  refine wl_sq ?_
  refine wc_ret ?_
  obtain rfl := Option.some.inj hx
  refine fin_ret [(.bool r114)] ⟨rfl, trivial⟩ ?_
  replace hM := hM.t0
  have hM := hM.fewer rsN
  exact ⟨(), rfl, hM.gives⟩

noncomputable def x_spec_HeadRev (d : DDoc) : Option Int :=
  xg (inI (d.from_ + (d.list.length : Int))) <| some (d.from_ + (d.list.length : Int))
theorem ct_spec_HeadRev (w : World) (X S : Bs) (d : DDoc) (s_d_2 : Sv) (s_d_3 : Sv) (s_d_4 : Sv) (hS : ∀ b, S b → b < w.heap.size ∧ ¬ X b) (a_d_2 : (cSl 1 fI d.text).rd S w s_d_2.v) (a_d_3 : (cSl 3 fDEntry d.list).rd S w s_d_3.v) (a_d_4 : (cSl 3 fDSeen d.seen).rd S w s_d_4.v) (oL : Sep [] X w) {r : Int} (hx : x_spec_HeadRev d = some r) :
  Ret Tryz.prog 60 [(.agg #[(.string d.name), (.int .i64 d.from_), s_d_2.v, s_d_3.v, s_d_4.v])] w (fun u w' => ∃ _ : Unit, u = (.int .i64 r) ∧ Gives X S w [] [] w') := by
 unfold x_spec_HeadRev at hx
 refine enter Tryz.func60 rfl Tryz.ntmps60 (by kernel_rfl) rfl ?_
 have hM := St.enter oL hS
 have hM := hM.addE (r := rV s_d_2.v (cSl 1 fI d.text)) a_d_2
 have hM := hM.addE (r := rV s_d_3.v (cSl 3 fDEntry d.list)) a_d_3
 have hM := hM.addE (r := rV s_d_4.v (cSl 3 fDSeen d.seen)) a_d_4
 refine wc_sr ?_
 refine w_ex rfl (x_box rfl hM ?_); intro b15 w14 hR16 hM
 dsimp only [Value.cells] at hM
 refine was rfl rfl ?_
 refine wl_sq ?_
 refine wc_sr ?_
 refine wv rfl (r_fld Tryz.underlying27 rfl rfl sz3 rfl) ?_
 refine wv rfl (r_ldB Tryz.underlying3 rfl rfl hM (.head _) rfl) ?_
 refine wv rfl (r_fld Tryz.underlying27 rfl rfl sz24 rfl) ?_
 refine wv rfl (r_ldB Tryz.underlying24 rfl rfl hM (.head _) rfl) ?_
 refine wv rfl (r_lenC Tryz.underlying24 rfl (hM.seeR (.tail _ (.head _)))) ?_
 obtain ⟨hg25, hx⟩ := xg_some hx
 refine wv rfl (r_add rfl rfl hg25) ?_
 refine was rfl rfl ?_
 refine wl_sq ?_
 refine wc_ret ?_
 obtain rfl := Option.some.inj hx
 refine fin_ret [(.int .i64 (d.from_ + (d.list.length : Int)))] ⟨rfl, trivial⟩ ?_
 replace hM := hM.t0
 have hM := hM.fewer rsN
 exact ⟨(), rfl, hM.gives⟩

noncomputable def x_spec_DocOk_b0 (_d : DDoc) (_k131 : Nat) (x258 : DEntry) (t132 : List Int) : Option (Lr (List Int) (Sum Unit Unit)) :=
  Option.bind (x_spec_Apply (x258.o) t132) fun r211 => Option.bind (bif !r211.2 then (some true) else (Option.bind (x_spec_EntryOk x258) fun r233 => some (!r233))) fun c224 => Option.bind (bif c224 then (some true) else (Option.bind (x_spec_TextOk r211.1) fun r248 => some (!r248))) fun c239 => bif c239 then (some (Lr.out (Sum.inr (())))) else (some (Lr.go r211.1))
noncomputable def x_spec_DocOk_f0 (d : DDoc) (k131 : Nat) (s259 : List Int) : Option (Lr (List Int) (Sum Unit Unit)) := x_spec_DocOk_b0 d k131 (el d.list k131) s259
noncomputable def x_spec_DocOk_b1 (d : DDoc) (k267 : Nat) (x520 : DSeen) : Option (Lr Unit (Sum Unit Bool)) :=
  Option.bind (x_spec_l01In (x520.client) 1 8) fun r408 => Option.bind (bif !r408 then (some true) else (Option.bind (x_spec_l01In (x520.seq) 1 1000000000) fun r423 => some (!r423))) fun c413 => Option.bind (bif c413 then (some true) else (Option.bind (x_spec_HeadRev d) fun r443 => Option.bind (x_spec_l01In (x520.rev) 1 r443) fun r446 => some (!r446))) fun c428 => Option.bind (bif c428 then (some true) else (Option.bind (bif decide ((0 : Int) < (k267 : Int)) then (xg (inI ((k267 : Int) - 1)) <| xg (0 ≤ ((k267 : Int) - 1) ∧ ((k267 : Int) - 1) < (d.seen.length : Int)) <| some (decide ((x520.client) ≤ ((el d.seen (((k267 : Int) - 1).toNat)).client)))) else (some false)) fun c487 => some c487)) fun c451 => bif c451 then (some (Lr.out (Sum.inr (false)))) else (some (Lr.go ()))
noncomputable def x_spec_DocOk_f1 (d : DDoc) (k267 : Nat) (_s521 : Unit) : Option (Lr Unit (Sum Unit Bool)) := x_spec_DocOk_b1 d k267 (el d.seen k267)
noncomputable def x_spec_DocOk (d : DDoc) : Option Bool :=
  Option.bind (x_spec_NameOk d.name) fun r8 => Option.bind (bif !r8 then (some true) else (Option.bind (x_spec_l01In d.from_ 0 999999000) fun r25 => some (!r25))) fun c14 => Option.bind (bif c14 then (some true) else (Option.bind (x_spec_TextOk d.text) fun r42 => some (!r42))) fun c31 => Option.bind (bif c31 then (some true) else (some (decide ((8 : Int) < (d.list.length : Int))))) fun c48 => bif c48 then (some false) else (Option.bind (eachN (x_spec_DocOk_f0 d) (fun (_s259 : List Int) => (Sum.inl () : Sum Unit Unit)) d.list.length 0 d.text) fun (y260 : Sum Unit Unit) => Sum.elim (fun _y261 => Option.bind (eachN (x_spec_DocOk_f1 d) (fun (_s521 : Unit) => (Sum.inl () : Sum Unit Bool)) d.seen.length 0 ()) fun (y522 : Sum Unit Bool) => Sum.elim (fun _y523 => some true) (fun y524 => some y524) y522) (fun _y262 => some false) y260)
theorem ct_spec_DocOk (w : World) (X S : Bs) (d : DDoc) (s_d_2 : Sv) (s_d_3 : Sv) (s_d_4 : Sv) (hS : ∀ b, S b → b < w.heap.size ∧ ¬ X b) (a_d_2 : (cSl 1 fI d.text).rd S w s_d_2.v) (a_d_3 : (cSl 3 fDEntry d.list).rd S w s_d_3.v) (a_d_4 : (cSl 3 fDSeen d.seen).rd S w s_d_4.v) (oL : Sep [] X w) {r : Bool} (hx : x_spec_DocOk d = some r) :
  Ret Tryz.prog 77 [(.agg #[(.string d.name), (.int .i64 d.from_), s_d_2.v, s_d_3.v, s_d_4.v])] w (fun u w' => ∃ _ : Unit, u = (.bool r) ∧ Gives X S w [] [] w') := by
 unfold x_spec_DocOk at hx
 refine enter Tryz.func77 rfl Tryz.ntmps77 (by kernel_rfl) rfl ?_
 have hM := St.enter oL hS
 have hM := hM.addE (r := rV s_d_2.v (cSl 1 fI d.text)) a_d_2
 have hM := hM.addE (r := rV s_d_3.v (cSl 3 fDEntry d.list)) a_d_3
 have hM := hM.addE (r := rV s_d_4.v (cSl 3 fDSeen d.seen)) a_d_4
 refine wc_sr ?_
 refine w_ex rfl (x_box rfl hM ?_); intro b527 w526 hR528 hM
 dsimp only [Value.cells] at hM
 refine was rfl rfl ?_
 refine wl_sq ?_
 refine wc_seq ?_
 refine wc_sr ?_
 refine wv rfl (r_fld Tryz.underlying27 rfl rfl sz9 rfl) ?_
 refine wv rfl (r_ldB Tryz.underlying9 rfl rfl hM (.head _) rfl) ?_
 obtain ⟨r533, h534, hx⟩ := bind_some' hx
 refine w_call rfl rfl (hM.callV fun X S oL hS hR hO => ct_spec_NameOk _ X S d.name hS  oL h534) ?_
 rintro _ w535 ⟨rfl, hR536⟩
 have hM := hM.call hR536
 refine wv rfl (r_not rfl) ?_
 refine wmv rfl rfl ?_
 obtain ⟨c539, hx, hx548⟩ := bind_some' hx
 refine wl_mid 5 (fun _ : Unit => [(19, (.bool c539)), (1, (.pointer (some ⟨b527, 0, none⟩)))]) (fun _ w' => St ⟨w, X, S⟩ [oBox b527 #[(.string d.name), (.int .i64 d.from_), s_d_2.v, s_d_3.v, s_d_4.v] 27] [rV s_d_4.v (cSl 3 fDSeen d.seen), rV s_d_3.v (cSl 3 fDEntry d.list), rV s_d_2.v (cSl 1 fI d.text)] w') ?_ ?_
 ·
  rcases Bool.eq_false_or_eq_true (!r533) with hg540 | hg540
  ·
   replace hx := xif_t hg540 hx
   refine gs rfl (isB_no hg540) rfl ?_
   refine gs rfl (isB_no hg540) rfl ?_
   refine gs rfl (isB_no hg540) rfl ?_
   refine gs rfl (isB_no hg540) rfl ?_
   refine wv rfl (p_t rfl hg540 rfl) ?_
   obtain rfl := Option.some.inj hx
   exact mid_nil () ⟨rfl, rfl, trivial⟩ hM
  ·
   replace hx := xif_f hg540 hx
   refine gv rfl hg540 rfl (r_fld Tryz.underlying27 rfl rfl sz3 rfl) ?_
   refine gv rfl hg540 rfl (r_ldB Tryz.underlying3 rfl rfl hM (.head _) rfl) ?_
   obtain ⟨r551, h552, hx⟩ := bind_some' hx
   refine gc rfl hg540 rfl rfl (hM.callV fun X S oL hS hR hO => ct_spec_l01In _ X S d.from_ (0 : Int) (999999000 : Int) hS  oL h552) ?_
   rintro _ w553 ⟨rfl, hR554⟩
   have hM := hM.call hR554
   refine gv rfl hg540 rfl (r_not rfl) ?_
   refine wv rfl (p_f rfl hg540 rfl) ?_
   obtain rfl := Option.some.inj hx
   exact mid_nil () ⟨rfl, rfl, trivial⟩ hM
 rintro _ w556 hM
 replace hx := hx548
 refine wmv rfl rfl ?_
 obtain ⟨c558, hx, hx567⟩ := bind_some' hx
 refine wl_mid 5 (fun _ : Unit => [(25, (.bool c558)), (1, (.pointer (some ⟨b527, 0, none⟩)))]) (fun _ w' => St ⟨w, X, S⟩ [oBox b527 #[(.string d.name), (.int .i64 d.from_), s_d_2.v, s_d_3.v, s_d_4.v] 27] [rV s_d_4.v (cSl 3 fDSeen d.seen), rV s_d_3.v (cSl 3 fDEntry d.list), rV s_d_2.v (cSl 1 fI d.text)] w') ?_ ?_
 ·
  rcases Bool.eq_false_or_eq_true c539 with hg559 | hg559
  ·
   replace hx := xif_t hg559 hx
   refine gs rfl (isB_no hg559) rfl ?_
   refine gs rfl (isB_no hg559) rfl ?_
   refine gs rfl (isB_no hg559) rfl ?_
   refine gs rfl (isB_no hg559) rfl ?_
   refine wv rfl (p_t rfl hg559 rfl) ?_
   obtain rfl := Option.some.inj hx
   exact mid_nil () ⟨rfl, rfl, trivial⟩ hM
  ·
   replace hx := xif_f hg559 hx
   refine gv rfl hg559 rfl (r_fld Tryz.underlying27 rfl rfl sz23 rfl) ?_
   refine gv rfl hg559 rfl (r_ldB Tryz.underlying23 rfl rfl hM (.head _) rfl) ?_
   obtain ⟨r570, h571, hx⟩ := bind_some' hx
   refine gc rfl hg559 rfl rfl (hM.callV fun X S oL hS hR hO => ct_spec_TextOk _ X S d.text s_d_2 hS (hR _ (.tail _ (.tail _ (.head _)))) oL h571) ?_
   rintro _ w572 ⟨rfl, hR573⟩
   have hM := hM.call hR573
   refine gv rfl hg559 rfl (r_not rfl) ?_
   refine wv rfl (p_f rfl hg559 rfl) ?_
   obtain rfl := Option.some.inj hx
   exact mid_nil () ⟨rfl, rfl, trivial⟩ hM
 rintro _ w575 hM
 replace hx := hx567
 refine wmv rfl rfl ?_
 obtain ⟨c577, hx, hx583⟩ := bind_some' hx
 refine wl_mid 5 (fun _ : Unit => [(31, (.bool c577)), (1, (.pointer (some ⟨b527, 0, none⟩)))]) (fun _ w' => St ⟨w, X, S⟩ [oBox b527 #[(.string d.name), (.int .i64 d.from_), s_d_2.v, s_d_3.v, s_d_4.v] 27] [rV s_d_4.v (cSl 3 fDSeen d.seen), rV s_d_3.v (cSl 3 fDEntry d.list), rV s_d_2.v (cSl 1 fI d.text)] w') ?_ ?_
 ·
  rcases Bool.eq_false_or_eq_true c558 with hg578 | hg578
  ·
   replace hx := xif_t hg578 hx
   refine gs rfl (isB_no hg578) rfl ?_
   refine gs rfl (isB_no hg578) rfl ?_
   refine gs rfl (isB_no hg578) rfl ?_
   refine gs rfl (isB_no hg578) rfl ?_
   refine wv rfl (p_t rfl hg578 rfl) ?_
   obtain rfl := Option.some.inj hx
   exact mid_nil () ⟨rfl, rfl, trivial⟩ hM
  ·
   replace hx := xif_f hg578 hx
   refine gv rfl hg578 rfl (r_fld Tryz.underlying27 rfl rfl sz24 rfl) ?_
   refine gv rfl hg578 rfl (r_ldB Tryz.underlying24 rfl rfl hM (.head _) rfl) ?_
   refine gv rfl hg578 rfl (r_lenC Tryz.underlying24 rfl (hM.seeR (.tail _ (.head _)))) ?_
   refine gv rfl hg578 rfl (r_gtr rfl rfl) ?_
   refine wv rfl (p_f rfl hg578 rfl) ?_
   obtain rfl := Option.some.inj hx
   exact mid_nil () ⟨rfl, rfl, trivial⟩ hM
 rintro _ w588 hM
 replace hx := hx583
 refine wl_sq ?_
 refine wc_cond rfl (fun hc589 => ?_) (fun hc589 => ?_)
 ·
  replace hx := xif_t hc589 hx
  refine wc_sr ?_
  refine was rfl rfl ?_
  refine wl_sq ?_
  refine wc_ret ?_
  refine sq_ret ?_
  obtain rfl := Option.some.inj hx
  refine fin_ret [(.bool false)] ⟨rfl, trivial⟩ ?_
  replace hM := hM.t0
  have hM := hM.fewer rsN
  exact ⟨(), rfl, hM.gives⟩
 ·
  replace hx := xif_f hc589 hx
  refine wc_skip ?_
  refine sq_n ?_
  refine wc_sr ?_
  refine wv rfl (r_fld Tryz.underlying27 rfl rfl sz23 rfl) ?_
  refine wv rfl (r_ldB Tryz.underlying23 rfl rfl hM (.head _) rfl) ?_
  refine was rfl rfl ?_
  refine wl_sq ?_
  refine wc_seq ?_
  refine wc_sr ?_
  refine wv rfl (r_fld Tryz.underlying27 rfl rfl sz24 rfl) ?_
  refine wv rfl (r_ldB Tryz.underlying24 rfl rfl hM (.head _) rfl) ?_
  refine wv rfl (r_lenC Tryz.underlying24 rfl (hM.seeR (.tail _ (.head _)))) ?_
  refine wmv rfl rfl ?_
  refine wl_sq ?_
  refine wc_block ?_
  obtain ⟨y598, hx, hx599⟩ := bind_some' hx
  have hM := hM.fewer (rsC (.tail _ (.tail _ (.head _))) (rsC (.tail _ (.tail _ (.head _))) (rsC (.tail _ (.head _)) (rsC (.head _) rsN))))
  replace hM : St ⟨w, X, S⟩ [oBox b527 #[(.string d.name), (.int .i64 d.from_), s_d_2.v, s_d_3.v, s_d_4.v] 27] [rV s_d_2.v (cSl 1 fI d.text), rV s_d_2.v (cSl 1 fI d.text), rV s_d_3.v (cSl 3 fDEntry d.list), rV s_d_4.v (cSl 3 fDSeen d.seen)] _ := hM
  have hl605 := Cs.le (hM.seeR (.tail _ (.tail _ (.head _))))
  refine wc_loop (un fun (m602 : Nat) => un fun (k603 : Nat) => un fun (t600 : List Int) => fun (s601 : Sv) => [(1, (.pointer (some ⟨b527, 0, none⟩))), (3, s601.v), (35, s_d_3.v), (36, (.int .i64 (d.list.length : Int))), (37, (.int .i64 (k603 : Int)))]) (un fun (m602 : Nat) => un fun (k603 : Nat) => un fun (t600 : List Int) => fun (s601 : Sv) w' => St ⟨w, X, S⟩ [oBox b527 #[(.string d.name), (.int .i64 d.from_), s_d_2.v, s_d_3.v, s_d_4.v] 27] [rV s601.v (cSl 1 fI t600), rV s_d_2.v (cSl 1 fI d.text), rV s_d_3.v (cSl 3 fDEntry d.list), rV s_d_4.v (cSl 3 fDSeen d.seen)] w' ∧ eachN _ _ m602 k603 t600 = some y598 ∧ k603 + m602 = d.list.length) (fun p => p.1) (d.list.length, 0, d.text, s_d_2) ⟨rfl, rfl, rfl, rfl, rfl, trivial⟩ ⟨hM, hx, Nat.zero_add _⟩ ?_
  rintro ⟨m602, k603, t600, s601⟩ w606 ⟨hM, hx, hk604⟩
  refine wc_sr ?_
  refine wv rfl (r_lss rfl rfl) ?_
  refine wl_sq ?_
  refine wc_seq ?_
  refine wc_cond rfl (fun hc608 => ?_) (fun hc608 => ?_)
  ·
   replace hc608 := of_decide_eq_true hc608
   obtain ⟨m609, z610, rfl, hk604, hx, hx611⟩ := eachN_step hx hk604 hc608
   unfold x_spec_DocOk_f0 x_spec_DocOk_b0 at hx
   try dsimp only at hx
   refine wc_skip ?_
   refine sq_n ?_
   refine wc_seq ?_
   refine wc_block ?_
   refine wc_sr ?_
   have hi613 : k603 < d.list.length := by omega
   refine wv rfl (r_ixC Tryz.underlying24 sz70 rfl rfl (hM.seeR (.tail _ (.tail _ (.head _)))) ⟨by omega, hc608⟩) ?_
   obtain ⟨s615, hM, hc616⟩ := hM.leaf (i := k603) (j := 2) (.tail _ (.tail _ (.head _))) (fun _ => rfl) hi613 rfl
   refine wv rfl (r_ldC (o := k603 * 3) Tryz.underlying70 sz70 rfl (us := [(.int .i64 ((el d.list k603).client)), (.int .i64 ((el d.list k603).seq)), s615.v]) rfl (hM.seeR (.tail _ (.tail _ (.tail _ (.head _))))) hi613 ⟨(Cs.get (i := k603) (j := 0) (hM.seeR (.tail _ (.tail _ (.tail _ (.head _))))) (fun _ => rfl) hi613 rfl), (Cs.get (i := k603) (j := 1) (hM.seeR (.tail _ (.tail _ (.tail _ (.head _))))) (fun _ => rfl) hi613 rfl), (hc616 _ (Rel.refl _)), trivial⟩) ?_
   refine w_ex rfl (x_alloc sz70 hM ?_); intro b618 w617 hR619 hM
   dsimp only [Value.cells] at hM
   refine w_exu (x_stB #[(.int .i64 ((el d.list k603).client)), (.int .i64 ((el d.list k603).seq)), s615.v] sz70 rfl rfl rfl rfl rfl rfl hM ?_); intro w621 hM
   refine wl_sq ?_
   refine wc_sr ?_
   refine wv rfl (r_fld Tryz.underlying70 rfl rfl sz48 rfl) ?_
   refine wv rfl (r_ldB Tryz.underlying48 rfl rfl hM (.head _) rfl) ?_
   refine wmv rfl rfl ?_
   obtain ⟨r626, h627, hx⟩ := bind_some' hx
   refine w_call rfl rfl (hM.callO (l := []) fun X S oL hS hR hO => ct_spec_Apply _ X S ((el d.list k603).o) s615 t600 s601 hS (hR _ (.head _)) (hR _ (.tail _ (.head _))) oL h627) ?_
   rintro _ w628 ⟨s629, rfl, hM⟩
   dsimp only [List.cons_append, List.nil_append] at hM
   refine wmv rfl rfl ?_
   refine wv rfl (r_extract rfl rfl) ?_
   refine wv rfl (r_extract rfl rfl) ?_
   refine was rfl rfl ?_
   refine was rfl rfl ?_
   refine wl_sq ?_
   refine wc_seq ?_
   refine wc_sr ?_
   refine wmv rfl rfl ?_
   refine wv rfl (r_not rfl) ?_
   refine wmv rfl rfl ?_
   obtain ⟨c639, hx, hx647⟩ := bind_some' hx
   refine wl_mid 4 (fun _ : Unit => [(54, (.bool c639)), (1, (.pointer (some ⟨b527, 0, none⟩))), (6, s629.v), (35, s_d_3.v), (36, (.int .i64 (d.list.length : Int))), (37, (.int .i64 (k603 : Int)))]) (fun _ w' => St ⟨w, X, S⟩ [oC (cSl 1 fI r626.1) s629.v, oBox b618 #[(.int .i64 ((el d.list k603).client)), (.int .i64 ((el d.list k603).seq)), s615.v] 70, oBox b527 #[(.string d.name), (.int .i64 d.from_), s_d_2.v, s_d_3.v, s_d_4.v] 27] [rV s615.v (cSl 3 fDPart ((el d.list k603).o)), rV s601.v (cSl 1 fI t600), rV s_d_2.v (cSl 1 fI d.text), rV s_d_3.v (cSl 3 fDEntry d.list), rV s_d_4.v (cSl 3 fDSeen d.seen)] w') ?_ ?_
   ·
    rcases Bool.eq_false_or_eq_true (!r626.2) with hg640 | hg640
    ·
     replace hx := xif_t hg640 hx
     refine gs rfl (isB_no hg640) rfl ?_
     refine gs rfl (isB_no hg640) rfl ?_
     refine gs rfl (isB_no hg640) rfl ?_
     refine wv rfl (p_t rfl hg640 rfl) ?_
     obtain rfl := Option.some.inj hx
     exact mid_nil () ⟨rfl, rfl, rfl, rfl, rfl, rfl, trivial⟩ hM
    ·
     replace hx := xif_f hg640 hx
     refine gv rfl hg640 rfl (r_ldBS Tryz.underlying70 sz70 rfl (us := [(.int .i64 ((el d.list k603).client)), (.int .i64 ((el d.list k603).seq)), s615.v]) rfl hM (.tail _ (.head _)) rfl) ?_
     obtain ⟨r649, h650, hx⟩ := bind_some' hx
     refine gc rfl hg640 rfl rfl (hM.callV fun X S oL hS hR hO => ct_spec_EntryOk _ X S (el d.list k603) s615 hS (hR _ (.head _)) oL h650) ?_
     rintro _ w651 ⟨rfl, hR652⟩
     have hM := hM.call hR652
     refine gv rfl hg640 rfl (r_not rfl) ?_
     refine wv rfl (p_f rfl hg640 rfl) ?_
     obtain rfl := Option.some.inj hx
     exact mid_nil () ⟨rfl, rfl, rfl, rfl, rfl, rfl, trivial⟩ hM
   rintro _ w654 hM
   replace hx := hx647
   refine wmv rfl rfl ?_
   obtain ⟨c656, hx, hx664⟩ := bind_some' hx
   refine wl_mid 4 (fun _ : Unit => [(59, (.bool c656)), (1, (.pointer (some ⟨b527, 0, none⟩))), (6, s629.v), (35, s_d_3.v), (36, (.int .i64 (d.list.length : Int))), (37, (.int .i64 (k603 : Int)))]) (fun _ w' => St ⟨w, X, S⟩ [oC (cSl 1 fI r626.1) s629.v, oBox b618 #[(.int .i64 ((el d.list k603).client)), (.int .i64 ((el d.list k603).seq)), s615.v] 70, oBox b527 #[(.string d.name), (.int .i64 d.from_), s_d_2.v, s_d_3.v, s_d_4.v] 27] [rV s615.v (cSl 3 fDPart ((el d.list k603).o)), rV s601.v (cSl 1 fI t600), rV s_d_2.v (cSl 1 fI d.text), rV s_d_3.v (cSl 3 fDEntry d.list), rV s_d_4.v (cSl 3 fDSeen d.seen)] w') ?_ ?_
   ·
    rcases Bool.eq_false_or_eq_true c639 with hg657 | hg657
    ·
     replace hx := xif_t hg657 hx
     refine gs rfl (isB_no hg657) rfl ?_
     refine gs rfl (isB_no hg657) rfl ?_
     refine gs rfl (isB_no hg657) rfl ?_
     refine wv rfl (p_t rfl hg657 rfl) ?_
     obtain rfl := Option.some.inj hx
     exact mid_nil () ⟨rfl, rfl, rfl, rfl, rfl, rfl, trivial⟩ hM
    ·
     replace hx := xif_f hg657 hx
     refine gv rfl hg657 rfl (r_move rfl) ?_
     obtain ⟨r666, h667, hx⟩ := bind_some' hx
     refine gc rfl hg657 rfl rfl (hM.callV fun X S oL hS hR hO => ct_spec_TextOk _ X S r626.1 s629 hS (seeA hO (.head _)) oL h667) ?_
     rintro _ w668 ⟨rfl, hR669⟩
     have hM := hM.call hR669
     refine gv rfl hg657 rfl (r_not rfl) ?_
     refine wv rfl (p_f rfl hg657 rfl) ?_
     obtain rfl := Option.some.inj hx
     exact mid_nil () ⟨rfl, rfl, rfl, rfl, rfl, rfl, trivial⟩ hM
   rintro _ w671 hM
   replace hx := hx664
   refine wl_sq ?_
   refine wc_cond rfl (fun hc672 => ?_) (fun hc672 => ?_)
   ·
    replace hx := xif_t hc672 hx
    refine wc_sr ?_
    refine was rfl rfl ?_
    refine wl_sq ?_
    refine wc_ret ?_
    refine sq_ret ?_
    refine bk_ret ?_
    refine sq_ret ?_
    refine lp1_ret ?_
    obtain rfl := Option.some.inj hx
    obtain rfl := Option.some.inj hx611
    replace hx := hx599
    try dsimp only [Sum.elim_inl, Sum.elim_inr] at hx
    refine bk_ret ?_
    refine sq_ret ?_
    obtain rfl := Option.some.inj hx
    refine fin_ret [(.bool false)] ⟨rfl, trivial⟩ ?_
    replace hM := hM.t0
    have hM := hM.fewer rsN
    exact ⟨(), rfl, hM.gives⟩
   ·
    replace hx := xif_f hc672 hx
    refine wc_skip ?_
    refine sq_n ?_
    refine wc_region ?_
    refine wmv rfl rfl ?_
    refine was rfl rfl ?_
    refine wl_nil ?_
    refine bk_n ?_
    refine sq_n ?_
    refine wc_region ?_
    refine wv rfl (r_add rfl rfl ⟨by omega, by omega⟩) ?_
    refine wmv rfl rfl ?_
    refine wl_nil ?_
    obtain rfl := Option.some.inj hx
    have hM := hM.selO
    replace hM := hM.p1
    replace hM := hM.t1
    have hM := hM.fewer (rsC (.head _) (rsC (.tail _ (.tail _ (.tail _ (.head _)))) (rsC (.tail _ (.tail _ (.tail _ (.tail _ (.head _))))) (rsC (.tail _ (.tail _ (.tail _ (.tail _ (.tail _ (.head _)))))) rsN))))
    replace hM : St ⟨w, X, S⟩ [oBox b527 #[(.string d.name), (.int .i64 d.from_), s_d_2.v, s_d_3.v, s_d_4.v] 27] [rV s629.v (cSl 1 fI r626.1), rV s_d_2.v (cSl 1 fI d.text), rV s_d_3.v (cSl 3 fDEntry d.list), rV s_d_4.v (cSl 3 fDSeen d.seen)] _ := hM
    exact lp_end (m609, k603 + 1, r626.1, s629) (Nat.lt_succ_self _) ⟨rfl, rfl, rfl, rfl, rfl, trivial⟩ ⟨hM, hx611, hk604⟩
  ·
   replace hc608 := of_decide_eq_false hc608
   obtain rfl := eachN_end hx hk604 hc608
   refine wc_exit ?_
   refine sq_exit ?_
   refine lp1_exit ?_
   replace hx := hx599
   try dsimp only [Sum.elim_inl, Sum.elim_inr] at hx
   refine bk_here ?_
   refine sq_n ?_
   refine wc_seq ?_
   refine wc_sr ?_
   refine wv rfl (r_fld Tryz.underlying27 rfl rfl sz25 rfl) ?_
   refine wv rfl (r_ldB Tryz.underlying25 rfl rfl hM (.head _) rfl) ?_
   refine wv rfl (r_lenC Tryz.underlying25 rfl (hM.seeR (.tail _ (.tail _ (.tail _ (.head _)))))) ?_
   refine wmv rfl rfl ?_
   refine wl_sq ?_
   refine wc_block ?_
   obtain ⟨y682, hx, hx683⟩ := bind_some' hx
   have hM := hM.fewer (rsC (.tail _ (.head _)) (rsC (.tail _ (.tail _ (.head _))) (rsC (.tail _ (.tail _ (.tail _ (.head _)))) rsN)))
   replace hM : St ⟨w, X, S⟩ [oBox b527 #[(.string d.name), (.int .i64 d.from_), s_d_2.v, s_d_3.v, s_d_4.v] 27] [rV s_d_2.v (cSl 1 fI d.text), rV s_d_3.v (cSl 3 fDEntry d.list), rV s_d_4.v (cSl 3 fDSeen d.seen)] _ := hM
   have hl687 := Cs.le (hM.seeR (.tail _ (.tail _ (.head _))))
   refine wc_loop (un fun (m684 : Nat) => fun (k685 : Nat) => [(1, (.pointer (some ⟨b527, 0, none⟩))), (63, s_d_4.v), (64, (.int .i64 (d.seen.length : Int))), (65, (.int .i64 (k685 : Int)))]) (un fun (m684 : Nat) => fun (k685 : Nat) w' => St ⟨w, X, S⟩ [oBox b527 #[(.string d.name), (.int .i64 d.from_), s_d_2.v, s_d_3.v, s_d_4.v] 27] [rV s_d_2.v (cSl 1 fI d.text), rV s_d_3.v (cSl 3 fDEntry d.list), rV s_d_4.v (cSl 3 fDSeen d.seen)] w' ∧ eachN _ _ m684 k685 () = some y682 ∧ k685 + m684 = d.seen.length) (fun p => p.1) (d.seen.length, 0) ⟨rfl, rfl, rfl, rfl, trivial⟩ ⟨hM, hx, Nat.zero_add _⟩ ?_
   rintro ⟨m684, k685⟩ w688 ⟨hM, hx, hk686⟩
   refine wc_sr ?_
   refine wv rfl (r_lss rfl rfl) ?_
   refine wl_sq ?_
   refine wc_seq ?_
   refine wc_cond rfl (fun hc690 => ?_) (fun hc690 => ?_)
   ·
    replace hc690 := of_decide_eq_true hc690
    obtain ⟨m691, z692, rfl, hk686, hx, hx693⟩ := eachN_step hx hk686 hc690
    unfold x_spec_DocOk_f1 x_spec_DocOk_b1 at hx
    try dsimp only at hx
    refine wc_skip ?_
    refine sq_n ?_
    refine wc_seq ?_
    refine wc_block ?_
    refine wc_sr ?_
    refine wmv rfl rfl ?_
    have hi696 : k685 < d.seen.length := by omega
    refine wv rfl (r_ixC Tryz.underlying25 sz83 rfl rfl (hM.seeR (.tail _ (.tail _ (.head _)))) ⟨by omega, hc690⟩) ?_
    refine wv rfl (r_ldC (o := k685 * 3) Tryz.underlying83 sz83 rfl (us := [(.int .i64 ((el d.seen k685).client)), (.int .i64 ((el d.seen k685).seq)), (.int .i64 ((el d.seen k685).rev))]) rfl (hM.seeR (.tail _ (.tail _ (.head _)))) hi696 ⟨(Cs.get (i := k685) (j := 0) (hM.seeR (.tail _ (.tail _ (.head _)))) (fun _ => rfl) hi696 rfl), (Cs.get (i := k685) (j := 1) (hM.seeR (.tail _ (.tail _ (.head _)))) (fun _ => rfl) hi696 rfl), (Cs.get (i := k685) (j := 2) (hM.seeR (.tail _ (.tail _ (.head _)))) (fun _ => rfl) hi696 rfl), trivial⟩) ?_
    refine w_ex rfl (x_alloc sz83 hM ?_); intro b699 w698 hR700 hM
    dsimp only [Value.cells] at hM
    refine was rfl rfl ?_
    refine w_exu (x_stB #[(.int .i64 ((el d.seen k685).client)), (.int .i64 ((el d.seen k685).seq)), (.int .i64 ((el d.seen k685).rev))] sz83 rfl rfl rfl rfl rfl rfl hM ?_); intro w703 hM
    refine wl_sq ?_
    refine wc_seq ?_
    refine wc_draw [(0, 0), (1, 0), (2, 0), (3, 0), (4, 0), (5, 0), (6, 0), (7, 0), (8, 0), (9, 0), (10, 0), (11, 0), (12, 0), (13, 0), (14, 0), (15, 0), (16, 0), (17, 0), (18, 0), (19, 0), (20, 0), (21, 0), (22, 0), (23, 0), (24, 0), (25, 0), (26, 0), (27, 0), (28, 0), (29, 0), (30, 0), (31, 0), (32, 0), (33, 0)] Tryz_mixed (by kernel_rfl) rfl (by kernel_rfl) rfl ?_
    refine ov rfl (fun w' h' => r_fld Tryz.underlying83 rfl rfl sz3 rfl) ?_
    refine ov rfl (fun w' h' => r_ldB Tryz.underlying3 rfl rfl (hM.call h') (.head _) rfl) ?_
    obtain ⟨r707, h708, hx⟩ := bind_some' hx
    refine oc rfl rfl (fun w' h' => (hM.call h').callV fun X S oL hS hR hO => ct_spec_l01In _ X S ((el d.seen k685).client) (1 : Int) (8 : Int) hS  oL h708) ?_
    refine ov rfl (fun w' h' => r_not rfl) ?_
    refine omv rfl rfl ?_
    obtain ⟨c712, hx, hx720⟩ := bind_some' hx
    refine wo_mid 5 [(79, (.bool c712)), (1, (.pointer (some ⟨b527, 0, none⟩))), (8, (.int .i64 (k685 : Int))), (9, (.pointer (some ⟨b699, 0, none⟩))), (63, s_d_4.v), (64, (.int .i64 (d.seen.length : Int))), (65, (.int .i64 (k685 : Int)))] rfl ?_ ?_
    ·
     rcases Bool.eq_false_or_eq_true (!r707) with hg713 | hg713
     ·
      replace hx := xif_t hg713 hx
      refine ogs rfl (isB_no hg713) rfl ?_
      refine ogs rfl (isB_no hg713) rfl ?_
      refine ogs rfl (isB_no hg713) rfl ?_
      refine ogs rfl (isB_no hg713) rfl ?_
      refine ov rfl (fun w' h' => p_t rfl hg713 rfl) ?_
      obtain rfl := Option.some.inj hx
      exact mid_onil ⟨rfl, rfl, rfl, rfl, rfl, rfl, rfl, trivial⟩
     ·
      replace hx := xif_f hg713 hx
      refine ogv rfl hg713 rfl (fun w' h' => r_fld Tryz.underlying83 rfl rfl sz3 rfl) ?_
      refine ogv rfl hg713 rfl (fun w' h' => r_ldB Tryz.underlying3 rfl rfl (hM.call h') (.head _) rfl) ?_
      obtain ⟨r723, h724, hx⟩ := bind_some' hx
      refine ogc rfl hg713 rfl rfl (fun w' h' => (hM.call h').callV fun X S oL hS hR hO => ct_spec_l01In _ X S ((el d.seen k685).seq) (1 : Int) (1000000000 : Int) hS  oL h724) ?_
      refine ogv rfl hg713 rfl (fun w' h' => r_not rfl) ?_
      refine ov rfl (fun w' h' => p_f rfl hg713 rfl) ?_
      obtain rfl := Option.some.inj hx
      exact mid_onil ⟨rfl, rfl, rfl, rfl, rfl, rfl, rfl, trivial⟩
    replace hx := hx720
    refine omv rfl rfl ?_
    obtain ⟨c728, hx, hx740⟩ := bind_some' hx
    refine wo_mid 7 [(87, (.bool c728)), (1, (.pointer (some ⟨b527, 0, none⟩))), (8, (.int .i64 (k685 : Int))), (9, (.pointer (some ⟨b699, 0, none⟩))), (63, s_d_4.v), (64, (.int .i64 (d.seen.length : Int))), (65, (.int .i64 (k685 : Int)))] rfl ?_ ?_
    ·
     rcases Bool.eq_false_or_eq_true c712 with hg729 | hg729
     ·
      replace hx := xif_t hg729 hx
      refine ogs rfl (isB_no hg729) rfl ?_
      refine ogs rfl (isB_no hg729) rfl ?_
      refine ogs rfl (isB_no hg729) rfl ?_
      refine ogs rfl (isB_no hg729) rfl ?_
      refine ogs rfl (isB_no hg729) rfl ?_
      refine ogs rfl (isB_no hg729) rfl ?_
      refine ov rfl (fun w' h' => p_t rfl hg729 rfl) ?_
      obtain rfl := Option.some.inj hx
      exact mid_onil ⟨rfl, rfl, rfl, rfl, rfl, rfl, rfl, trivial⟩
     ·
      replace hx := xif_f hg729 hx
      refine ogv rfl hg729 rfl (fun w' h' => r_fld Tryz.underlying83 rfl rfl sz3 rfl) ?_
      refine ogv rfl hg729 rfl (fun w' h' => r_ldB Tryz.underlying3 rfl rfl (hM.call h') (.head _) rfl) ?_
      refine ogv rfl hg729 rfl (fun w' h' => r_ldBS Tryz.underlying27 sz27 rfl (us := [(.string d.name), (.int .i64 d.from_), s_d_2.v, s_d_3.v, s_d_4.v]) rfl (hM.call h') (.tail _ (.head _)) rfl) ?_
      obtain ⟨r744, h745, hx⟩ := bind_some' hx
      refine ogc rfl hg729 rfl rfl (fun w' h' => (hM.call h').callV fun X S oL hS hR hO => ct_spec_HeadRev _ X S d s_d_2 s_d_3 s_d_4 hS (hR _ (.head _)) (hR _ (.tail _ (.head _))) (hR _ (.tail _ (.tail _ (.head _)))) oL h745) ?_
      obtain ⟨r747, h748, hx⟩ := bind_some' hx
      refine ogc rfl hg729 rfl rfl (fun w' h' => (hM.call h').callV fun X S oL hS hR hO => ct_spec_l01In _ X S ((el d.seen k685).rev) (1 : Int) r744 hS  oL h748) ?_
      refine ogv rfl hg729 rfl (fun w' h' => r_not rfl) ?_
      refine ov rfl (fun w' h' => p_f rfl hg729 rfl) ?_
      obtain rfl := Option.some.inj hx
      exact mid_onil ⟨rfl, rfl, rfl, rfl, rfl, rfl, rfl, trivial⟩
    replace hx := hx740
    refine omv rfl rfl ?_
    obtain ⟨c752, hx, hx785⟩ := bind_some' hx
    refine wo_mid 15 [(103, (.bool c752)), (1, (.pointer (some ⟨b527, 0, none⟩))), (63, s_d_4.v), (64, (.int .i64 (d.seen.length : Int))), (65, (.int .i64 (k685 : Int)))] rfl ?_ ?_
    ·
     rcases Bool.eq_false_or_eq_true c728 with hg753 | hg753
     ·
      replace hx := xif_t hg753 hx
      refine ogs rfl (isB_no hg753) rfl ?_
      refine ogs rfl (isB_no hg753) rfl ?_
      refine ogs rfl (isB_no hg753) rfl ?_
      refine ogs rfl rfl rfl ?_
      refine ogs rfl rfl rfl ?_
      refine ogs rfl rfl rfl ?_
      refine ogs rfl rfl rfl ?_
      refine ogs rfl rfl rfl ?_
      refine ogs rfl rfl rfl ?_
      refine ogs rfl rfl rfl ?_
      refine ogs rfl rfl rfl ?_
      refine ogs rfl rfl rfl ?_
      refine ogs rfl rfl rfl ?_
      refine ogs rfl (isB_no hg753) rfl ?_
      refine ov rfl (fun w' h' => p_t rfl hg753 rfl) ?_
      obtain rfl := Option.some.inj hx
      exact mid_onil ⟨rfl, rfl, rfl, rfl, rfl, trivial⟩
     ·
      replace hx := xif_f hg753 hx
      refine ogv rfl hg753 rfl (fun w' h' => r_move rfl) ?_
      refine ogv rfl hg753 rfl (fun w' h' => r_gtr rfl rfl) ?_
      refine ogv rfl hg753 rfl (fun w' h' => r_move rfl) ?_
      obtain ⟨c789, hx, hx804⟩ := bind_some' hx
      refine wo_mid 11 [(102, (.bool c789)), (1, (.pointer (some ⟨b527, 0, none⟩))), (63, s_d_4.v), (64, (.int .i64 (d.seen.length : Int))), (65, (.int .i64 (k685 : Int))), (88, (.bool c728)), (89, (.int .i64 (k685 : Int))), (90, (.bool (decide ((0 : Int) < (k685 : Int))))), (91, (.bool (decide ((0 : Int) < (k685 : Int)))))] rfl ?_ ?_
      ·
       rcases Bool.eq_false_or_eq_true (decide ((0 : Int) < (k685 : Int))) with hg790 | hg790
       ·
        replace hx := xif_t hg790 hx
        refine ogv rfl hg790 rfl (fun w' h' => r_fld Tryz.underlying27 rfl rfl sz25 rfl) ?_
        refine ogv rfl hg790 rfl (fun w' h' => r_ldB Tryz.underlying25 rfl rfl (hM.call h') (.tail _ (.head _)) rfl) ?_
        refine ogv rfl hg790 rfl (fun w' h' => r_move rfl) ?_
        obtain ⟨hg809, hx⟩ := xg_some hx
        refine ogv rfl hg790 rfl (fun w' h' => r_sub rfl rfl hg809) ?_
        obtain ⟨hg812, hx⟩ := xg_some hx
        have hi811 : (((k685 : Int) - 1).toNat) < d.seen.length := by omega
        refine ogv rfl hg790 rfl (fun w' h' => r_ixC Tryz.underlying25 sz83 rfl rfl ((hM.call h').seeR (.tail _ (.tail _ (.head _)))) hg812) ?_
        refine ogv rfl hg790 rfl (fun w' h' => r_fldC (i := (((k685 : Int) - 1).toNat)) Tryz.underlying83 rfl rfl sz3 rfl ((hM.call h').seeR (.tail _ (.tail _ (.head _)))) hi811) ?_
        refine ogv rfl hg790 rfl (fun w' h' => r_ld Tryz.underlying3 rfl rfl (Cs.get (i := (((k685 : Int) - 1).toNat)) (j := 0) ((hM.call h').seeR (.tail _ (.tail _ (.head _)))) (fun _ => rfl) hi811 rfl)) ?_
        refine ogv rfl hg790 rfl (fun w' h' => r_fld Tryz.underlying83 rfl rfl sz3 rfl) ?_
        refine ogv rfl hg790 rfl (fun w' h' => r_ldB Tryz.underlying3 rfl rfl (hM.call h') (.head _) rfl) ?_
        refine ogv rfl hg790 rfl (fun w' h' => r_geq rfl rfl) ?_
        refine ogv rfl hg753 rfl (fun w' h' => p_t rfl hg790 rfl) ?_
        obtain rfl := Option.some.inj hx
        exact mid_onil ⟨rfl, rfl, rfl, rfl, rfl, rfl, rfl, rfl, rfl, trivial⟩
       ·
        replace hx := xif_f hg790 hx
        refine ogs rfl (isB_no hg790) rfl ?_
        refine ogs rfl (isB_no hg790) rfl ?_
        refine ogs rfl (isB_no hg790) rfl ?_
        refine ogs rfl (isB_no hg790) rfl ?_
        refine ogs rfl (isB_no hg790) rfl ?_
        refine ogs rfl (isB_no hg790) rfl ?_
        refine ogs rfl (isB_no hg790) rfl ?_
        refine ogs rfl (isB_no hg790) rfl ?_
        refine ogs rfl (isB_no hg790) rfl ?_
        refine ogs rfl (isB_no hg790) rfl ?_
        refine ogv rfl hg753 rfl (fun w' h' => p_f rfl hg790 rfl) ?_
        obtain rfl := Option.some.inj hx
        exact mid_onil ⟨rfl, rfl, rfl, rfl, rfl, rfl, rfl, rfl, rfl, trivial⟩
      replace hx := hx804
      refine ov rfl (fun w' h' => p_f rfl hg753 rfl) ?_
      obtain rfl := Option.some.inj hx
      exact mid_onil ⟨rfl, rfl, rfl, rfl, rfl, trivial⟩
    replace hx := hx785
    refine o_nilM hM fun w818 hM => ?_
    refine sq_n ?_
    refine wc_cond rfl (fun hc820 => ?_) (fun hc820 => ?_)
    ·
     replace hx := xif_t hc820 hx
     refine wc_sr ?_
     refine was rfl rfl ?_
     refine wl_sq ?_
     refine wc_ret ?_
     refine bk_ret ?_
     refine sq_ret ?_
     refine lp1_ret ?_
     obtain rfl := Option.some.inj hx
     obtain rfl := Option.some.inj hx693
     replace hx := hx683
     try dsimp only [Sum.elim_inl, Sum.elim_inr] at hx
     refine bk_ret ?_
     refine sq_ret ?_
     obtain rfl := Option.some.inj hx
     refine fin_ret [(.bool false)] ⟨rfl, trivial⟩ ?_
     replace hM := hM.t0
     have hM := hM.fewer rsN
     exact ⟨(), rfl, hM.gives⟩
    ·
     replace hx := xif_f hc820 hx
     refine wc_skip ?_
     refine bk_n ?_
     refine sq_n ?_
     refine wc_region ?_
     refine wv rfl (r_add rfl rfl ⟨by omega, by omega⟩) ?_
     refine wmv rfl rfl ?_
     refine wl_nil ?_
     obtain rfl := Option.some.inj hx
     replace hM := hM.p1
     replace hM := hM.t1
     exact lp_end (m691, k685 + 1) (Nat.lt_succ_self _) ⟨rfl, rfl, rfl, rfl, trivial⟩ ⟨hM, hx693, hk686⟩
   ·
    replace hc690 := of_decide_eq_false hc690
    obtain rfl := eachN_end hx hk686 hc690
    refine wc_exit ?_
    refine sq_exit ?_
    refine lp1_exit ?_
    replace hx := hx683
    try dsimp only [Sum.elim_inl, Sum.elim_inr] at hx
    refine bk_here ?_
    refine sq_n ?_
    refine wc_sr ?_
    refine was rfl rfl ?_
    refine wl_sq ?_
    refine wc_ret ?_
    obtain rfl := Option.some.inj hx
    refine fin_ret [(.bool true)] ⟨rfl, trivial⟩ ?_
    replace hM := hM.t0
    have hM := hM.fewer rsN
    exact ⟨(), rfl, hM.gives⟩

noncomputable def x_impl_EntrySame (a : DEntry) (b : DEntry) : Option Bool :=
  Option.bind (bif decide (a.client = b.client) then (some (decide (a.seq = b.seq))) else (some false)) fun c16 => Option.bind (bif c16 then (Option.bind (x_impl_OpSame a.o b.o) fun r43 => some r43) else (some false)) fun c29 => some c29
theorem ct_impl_EntrySame (w : World) (X S : Bs) (a : DEntry) (s_a_2 : Sv) (b : DEntry) (s_b_2 : Sv) (hS : ∀ b, S b → b < w.heap.size ∧ ¬ X b) (a_a_2 : (cSl 3 fDPart a.o).rd S w s_a_2.v) (a_b_2 : (cSl 3 fDPart b.o).rd S w s_b_2.v) (oL : Sep [] X w) {r : Bool} (hx : x_impl_EntrySame a b = some r) :
  Ret Tryz.prog 39 [(.agg #[(.int .i64 a.client), (.int .i64 a.seq), s_a_2.v]), (.agg #[(.int .i64 b.client), (.int .i64 b.seq), s_b_2.v])] w (fun u w' => ∃ _ : Unit, u = (.bool r) ∧ Gives X S w [] [] w') := by
 unfold x_impl_EntrySame at hx
 refine enter Tryz.func39 rfl Tryz.ntmps39 (by kernel_rfl) rfl ?_
 have hM := St.enter oL hS
 have hM := hM.addE (r := rV s_a_2.v (cSl 3 fDPart a.o)) a_a_2
 have hM := hM.addE (r := rV s_b_2.v (cSl 3 fDPart b.o)) a_b_2
 refine wc_sr ?_
 refine w_ex rfl (x_box rfl hM ?_); intro b49 w48 hR50 hM
 dsimp only [Value.cells] at hM
 refine w_ex rfl (x_box rfl hM ?_); intro b53 w52 hR54 hM
 dsimp only [Value.cells] at hM
 refine was rfl rfl ?_
 refine wl_sq ?_
 refine wc_sr ?_
 refine wv rfl (r_fld Tryz.underlying70 rfl rfl sz3 rfl) ?_
 refine wv rfl (r_ldB Tryz.underlying3 rfl rfl hM (.tail _ (.head _)) rfl) ?_
 refine wv rfl (r_fld Tryz.underlying70 rfl rfl sz3 rfl) ?_
 refine wv rfl (r_ldB Tryz.underlying3 rfl rfl hM (.head _) rfl) ?_
 refine wv rfl (r_eql rfl rfl) ?_
 refine wmv rfl rfl ?_
 obtain ⟨c63, hx, hx70⟩ := bind_some' hx
 refine wl_mid 6 (fun _ : Unit => [(16, (.bool c63)), (2, (.pointer (some ⟨b49, 0, none⟩))), (3, (.pointer (some ⟨b53, 0, none⟩)))]) (fun _ w' => St ⟨w, X, S⟩ [oBox b53 #[(.int .i64 b.client), (.int .i64 b.seq), s_b_2.v] 70, oBox b49 #[(.int .i64 a.client), (.int .i64 a.seq), s_a_2.v] 70] [rV s_b_2.v (cSl 3 fDPart b.o), rV s_a_2.v (cSl 3 fDPart a.o)] w') ?_ ?_
 ·
  rcases Bool.eq_false_or_eq_true (decide (a.client = b.client)) with hg64 | hg64
  ·
   replace hx := xif_t hg64 hx
   refine gv rfl hg64 rfl (r_fld Tryz.underlying70 rfl rfl sz3 rfl) ?_
   refine gv rfl hg64 rfl (r_ldB Tryz.underlying3 rfl rfl hM (.tail _ (.head _)) rfl) ?_
   refine gv rfl hg64 rfl (r_fld Tryz.underlying70 rfl rfl sz3 rfl) ?_
   refine gv rfl hg64 rfl (r_ldB Tryz.underlying3 rfl rfl hM (.head _) rfl) ?_
   refine gv rfl hg64 rfl (r_eql rfl rfl) ?_
   refine wv rfl (p_t rfl hg64 rfl) ?_
   obtain rfl := Option.some.inj hx
   exact mid_nil () ⟨rfl, rfl, rfl, trivial⟩ hM
  ·
   replace hx := xif_f hg64 hx
   refine gs rfl (isB_no hg64) rfl ?_
   refine gs rfl (isB_no hg64) rfl ?_
   refine gs rfl (isB_no hg64) rfl ?_
   refine gs rfl (isB_no hg64) rfl ?_
   refine gs rfl (isB_no hg64) rfl ?_
   refine wv rfl (p_f rfl hg64 rfl) ?_
   obtain rfl := Option.some.inj hx
   exact mid_nil () ⟨rfl, rfl, rfl, trivial⟩ hM
 rintro _ w76 hM
 replace hx := hx70
 refine wmv rfl rfl ?_
 obtain ⟨c78, hx, hx88⟩ := bind_some' hx
 refine wl_mid 6 (fun _ : Unit => [(23, (.bool c78))]) (fun _ w' => St ⟨w, X, S⟩ [oBox b53 #[(.int .i64 b.client), (.int .i64 b.seq), s_b_2.v] 70, oBox b49 #[(.int .i64 a.client), (.int .i64 a.seq), s_a_2.v] 70] [rV s_b_2.v (cSl 3 fDPart b.o), rV s_a_2.v (cSl 3 fDPart a.o)] w') ?_ ?_
 ·
  rcases Bool.eq_false_or_eq_true c63 with hg79 | hg79
  ·
   replace hx := xif_t hg79 hx
   refine gv rfl hg79 rfl (r_fld Tryz.underlying70 rfl rfl sz48 rfl) ?_
   refine gv rfl hg79 rfl (r_ldB Tryz.underlying48 rfl rfl hM (.tail _ (.head _)) rfl) ?_
   refine gv rfl hg79 rfl (r_fld Tryz.underlying70 rfl rfl sz48 rfl) ?_
   refine gv rfl hg79 rfl (r_ldB Tryz.underlying48 rfl rfl hM (.head _) rfl) ?_
   obtain ⟨r93, h94, hx⟩ := bind_some' hx
   refine gc rfl hg79 rfl rfl (hM.callV fun X S oL hS hR hO => ct_impl_OpSame _ X S a.o s_a_2 b.o s_b_2 hS (hR _ (.tail _ (.head _))) (hR _ (.head _)) oL h94) ?_
   rintro _ w95 ⟨rfl, hR96⟩
   have hM := hM.call hR96
   refine wv rfl (p_t rfl hg79 rfl) ?_
   obtain rfl := Option.some.inj hx
   exact mid_nil () ⟨rfl, trivial⟩ hM
  ·
   replace hx := xif_f hg79 hx
   refine gs rfl (isB_no hg79) rfl ?_
   refine gs rfl (isB_no hg79) rfl ?_
   refine gs rfl (isB_no hg79) rfl ?_
   refine gs rfl (isB_no hg79) rfl ?_
   refine gs rfl (isB_no hg79) rfl ?_
   refine wv rfl (p_f rfl hg79 rfl) ?_
   obtain rfl := Option.some.inj hx
   exact mid_nil () ⟨rfl, trivial⟩ hM
 rintro _ w97 hM
 replace hx := hx88
 refine was rfl rfl ?_
 refine wl_sq ?_
 refine wc_ret ?_
 obtain rfl := Option.some.inj hx
 refine fin_ret [(.bool c78)] ⟨rfl, trivial⟩ ?_
 replace hM := hM.t0
 have hM := hM.fewer rsN
 exact ⟨(), rfl, hM.gives⟩

end Go.Proofs.YtlgmikaemfbmaaaGreat
