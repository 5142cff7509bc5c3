/- Walks of functions of this program (printed by a program of ours, by the rules of the layer). No condition. -/
import Derived.Test.YtdfjkipdmeomdaaDoorG3
import Derived.Test.YtdfjkipdmeomdaaDoorNs
import Derived.Test.YtdfjkipdmeomdaaDoorNx
import Derived.Test.YtdfjkipdmeomdaaDoorNt
namespace Go.Proofs.YtdfjkipdmeomdaaDoor
open Go.RowKit

noncomputable def x_impl_NumText (n : Int) : Option ByteArray :=
  Option.bind (x_impl_within n 0 1000000000) fun r3 => bif !r3 then (some (⟨#[]⟩ : ByteArray)) else (Option.bind (x_Itoa n) fun r10 => some r10)
theorem ct_impl_NumText (w : World) (X S : Bs) (n : Int) (hS : ∀ b, S b → b < w.heap.size ∧ ¬ X b) (hT : rTab.ok S w) (oL : Sep [] X w) {r : ByteArray} (hx : x_impl_NumText n = some r) :
  Ret Tryd.prog 19 [(.int .i64 n)] w (fun u w' => ∃ _ : Unit, u = (.string r) ∧ Gives X S w [] [] w') := by
 unfold x_impl_NumText at hx
 refine enter Tryd.func19 rfl Tryd.ntmps19 (by kernel_rfl) rfl ?_
 have hM := St.enter oL hS
 have hM := hM.addE (r := rTab) hT
 refine wc_sr ?_
 refine was rfl rfl ?_
 refine wl_sq ?_
 refine wc_seq ?_
 refine wc_sr ?_
 refine wmv rfl rfl ?_
 obtain ⟨r17, h18, hx⟩ := bind_some' hx
 refine w_call rfl rfl (hM.callV fun X S oL hS hR hO => ct_impl_within _ X S n (0 : Int) (1000000000 : Int) hS  oL h18) ?_
 rintro _ w19 ⟨rfl, hR20⟩
 have hM := hM.call hR20
 refine wv rfl (r_not rfl) ?_
 refine wl_sq ?_
 refine wc_cond rfl (fun hc22 => ?_) (fun hc22 => ?_)
 ·
  replace hx := xif_t hc22 hx
  refine wc_sr ?_
  refine was rfl rfl ?_
  refine wl_sq ?_
  refine wc_ret ?_
  refine sq_ret ?_
  obtain rfl := Option.some.inj hx
  refine fin_ret [(.string (⟨#[]⟩ : ByteArray))] ⟨rfl, trivial⟩ ?_
  replace hM := hM.t0
  have hM := hM.fewer rsN
  exact ⟨(), rfl, hM.gives⟩
 ·
  replace hx := xif_f hc22 hx
  refine wc_skip ?_
  refine sq_n ?_
  refine wc_sr ?_
  refine wmv rfl rfl ?_
  obtain ⟨r25, h26, hx⟩ := bind_some' hx
  refine w_call rfl rfl (hM.callV fun X S oL hS hR hO => ct_Itoa _ X S n hS (hR _ (.head _)) oL h26) ?_
  rintro _ w27 ⟨rfl, hR28⟩
  have hM := hM.call hR28
  refine was rfl rfl ?_
  refine wl_sq ?_
  refine wc_ret ?_
  obtain rfl := Option.some.inj hx
  refine fin_ret [(.string r25)] ⟨rfl, trivial⟩ ?_
  replace hM := hM.t0
  have hM := hM.fewer rsN
  exact ⟨(), rfl, hM.gives⟩

noncomputable def x_impl_MarkText (m_ : DMark) : Option ByteArray :=
  Option.bind (x_impl_NumText m_.id) fun r8 => xg (r8.size + (⟨#[58]⟩ : ByteArray).size ≤ 9223372036854775807) <| Option.bind (x_impl_NumText m_.from_) fun r15 => xg ((r8 ++ (⟨#[58]⟩ : ByteArray)).size + r15.size ≤ 9223372036854775807) <| xg (((r8 ++ (⟨#[58]⟩ : ByteArray)) ++ r15).size + (⟨#[45]⟩ : ByteArray).size ≤ 9223372036854775807) <| Option.bind (x_impl_NumText m_.to) fun r24 => xg ((((r8 ++ (⟨#[58]⟩ : ByteArray)) ++ r15) ++ (⟨#[45]⟩ : ByteArray)).size + r24.size ≤ 9223372036854775807) <| some ((((r8 ++ (⟨#[58]⟩ : ByteArray)) ++ r15) ++ (⟨#[45]⟩ : ByteArray)) ++ r24)
theorem ct_impl_MarkText (w : World) (X S : Bs) (m_ : DMark) (hS : ∀ b, S b → b < w.heap.size ∧ ¬ X b) (hT : rTab.ok S w) (oL : Sep [] X w) {r : ByteArray} (hx : x_impl_MarkText m_ = some r) :
  Ret Tryd.prog 7 [(.agg #[(.int .i64 m_.id), (.int .i64 m_.from_), (.int .i64 m_.to)])] w (fun u w' => ∃ _ : Unit, u = (.string r) ∧ Gives X S w [] [] w') := by
 unfold x_impl_MarkText at hx
 refine enter Tryd.func7 rfl Tryd.ntmps7 (by kernel_rfl) rfl ?_
 have hM := St.enter oL hS
 have hM := hM.addE (r := rTab) hT
 refine wc_sr ?_
 refine w_ex rfl (x_box rfl hM ?_); intro b33 w32 hR34 hM
 dsimp only [Value.cells] at hM
 refine was rfl rfl ?_
 refine wl_sq ?_
 refine wc_seq ?_
 refine wc_draw [(0, 0), (1, 0), (2, 0), (3, 0), (4, 0), (5, 0), (6, 0), (7, 0), (8, 0), (9, 0), (10, 0), (11, 0), (12, 0), (13, 0)] Tryd_mixed (by kernel_rfl) rfl (by kernel_rfl) rfl ?_
 refine ov rfl (fun w' h' => r_fld Tryd.underlying25 rfl rfl sz3 rfl) ?_
 refine ov rfl (fun w' h' => r_ldB Tryd.underlying3 rfl rfl (hM.call h') (.head _) rfl) ?_
 obtain ⟨r39, h40, hx⟩ := bind_some' hx
 refine oc rfl rfl (fun w' h' => (hM.call h').callV fun X S oL hS hR hO => ct_impl_NumText _ X S m_.id hS (hR _ (.head _)) oL h40) ?_
 obtain ⟨hg43, hx⟩ := xg_some hx
 refine ov rfl (fun w' h' => r_adds rfl rfl hg43) ?_
 refine ov rfl (fun w' h' => r_fld Tryd.underlying25 rfl rfl sz3 rfl) ?_
 refine ov rfl (fun w' h' => r_ldB Tryd.underlying3 rfl rfl (hM.call h') (.head _) rfl) ?_
 obtain ⟨r46, h47, hx⟩ := bind_some' hx
 refine oc rfl rfl (fun w' h' => (hM.call h').callV fun X S oL hS hR hO => ct_impl_NumText _ X S m_.from_ hS (hR _ (.head _)) oL h47) ?_
 obtain ⟨hg50, hx⟩ := xg_some hx
 refine ov rfl (fun w' h' => r_adds rfl rfl hg50) ?_
 obtain ⟨hg52, hx⟩ := xg_some hx
 refine ov rfl (fun w' h' => r_adds rfl rfl hg52) ?_
 refine ov rfl (fun w' h' => r_fld Tryd.underlying25 rfl rfl sz3 rfl) ?_
 refine ov rfl (fun w' h' => r_ldB Tryd.underlying3 rfl rfl (hM.call h') (.head _) rfl) ?_
 obtain ⟨r55, h56, hx⟩ := bind_some' hx
 refine oc rfl rfl (fun w' h' => (hM.call h').callV fun X S oL hS hR hO => ct_impl_NumText _ X S m_.to hS (hR _ (.head _)) oL h56) ?_
 obtain ⟨hg59, hx⟩ := xg_some hx
 refine ov rfl (fun w' h' => r_adds rfl rfl hg59) ?_
 refine ov rfl (fun w' h' => r_assign rfl) ?_
 refine o_nilM hM fun w61 hM => ?_
 refine sq_n ?_
 refine wc_ret ?_
 obtain rfl := Option.some.inj hx
 refine fin_ret [(.string ((((r39 ++ (⟨#[58]⟩ : ByteArray)) ++ r46) ++ (⟨#[45]⟩ : ByteArray)) ++ r55))] ⟨rfl, trivial⟩ ?_
 replace hM := hM.t0
 have hM := hM.fewer rsN
 exact ⟨(), rfl, hM.gives⟩

noncomputable def x_spec_NumText_b0 (n10 : Int) (s11 : ByteArray) : Option (Lr (Int × ByteArray) (Int × ByteArray)) :=
  bif decide ((9 : Int) < n10) then (xg (0 ≤ n10 ∧ 0 < (10 : Int)) <| xg (inI (48 + (n10 % 10))) <| xg ((⟨[y8 (48 + (n10 % 10))].toArray⟩ : ByteArray).size + s11.size ≤ 9223372036854775807) <| xg (0 ≤ n10 ∧ n10 ≤ 9223372036854775807 ∧ 0 < (10 : Int)) <| some (Lr.go (n10 / 10, (⟨[y8 (48 + (n10 % 10))].toArray⟩ : ByteArray) ++ s11))) else (some (Lr.out (n10, s11)))
noncomputable def x_spec_NumText_f0 (s54 : Int × ByteArray) : Option (Lr (Int × ByteArray) (Int × ByteArray)) := x_spec_NumText_b0 s54.1 s54.2
noncomputable def x_spec_NumText (n : Int) : Option ByteArray :=
  Option.bind (x_spec_l01In n 0 1000000000) fun r3 => bif !r3 then (some (⟨#[]⟩ : ByteArray)) else (Option.bind (iter (x_spec_NumText_f0) (n, (⟨#[]⟩ : ByteArray))) fun (y55 : Int × ByteArray) => xg (inI (48 + y55.1)) <| xg ((⟨[y8 (48 + y55.1)].toArray⟩ : ByteArray).size + y55.2.size ≤ 9223372036854775807) <| some ((⟨[y8 (48 + y55.1)].toArray⟩ : ByteArray) ++ y55.2))
theorem ct_spec_NumText (w : World) (X S : Bs) (n : Int) (hS : ∀ b, S b → b < w.heap.size ∧ ¬ X b)  (oL : Sep [] X w) {r : ByteArray} (hx : x_spec_NumText n = some r) :
  Ret Tryd.prog 18 [(.int .i64 n)] w (fun u w' => ∃ _ : Unit, u = (.string r) ∧ Gives X S w [] [] w') := by
 unfold x_spec_NumText at hx
 refine enter Tryd.func18 rfl Tryd.ntmps18 (by kernel_rfl) rfl ?_
 have hM := St.enter oL hS
 refine wc_sr ?_
 refine was rfl rfl ?_
 refine wl_sq ?_
 refine wc_seq ?_
 refine wc_sr ?_
 refine wmv rfl rfl ?_
 obtain ⟨r71, h72, hx⟩ := bind_some' hx
 refine w_call rfl rfl (hM.callV fun X S oL hS hR hO => ct_spec_l01In _ X S n (0 : Int) (1000000000 : Int) hS  oL h72) ?_
 rintro _ w73 ⟨rfl, hR74⟩
 have hM := hM.call hR74
 refine wv rfl (r_not rfl) ?_
 refine wl_sq ?_
 refine wc_cond rfl (fun hc76 => ?_) (fun hc76 => ?_)
 ·
  replace hx := xif_t hc76 hx
  refine wc_sr ?_
  refine was rfl rfl ?_
  refine wl_sq ?_
  refine wc_ret ?_
  refine sq_ret ?_
  obtain rfl := Option.some.inj hx
  refine fin_ret [(.string (⟨#[]⟩ : ByteArray))] ⟨rfl, trivial⟩ ?_
  replace hM := hM.t0
  have hM := hM.fewer rsN
  exact ⟨(), rfl, hM.gives⟩
 ·
  replace hx := xif_f hc76 hx
  refine wc_skip ?_
  refine sq_n ?_
  refine wc_sr ?_
  refine was rfl rfl ?_
  refine wl_sq ?_
  refine wc_seq ?_
  refine wc_block ?_
  obtain ⟨y79, hx, hx80⟩ := bind_some' hx
  obtain ⟨m85, hx⟩ := iter_run hx
  refine wc_loop (un fun (m83 : Nat) => un fun (n81 : Int) => fun (s82 : ByteArray) => [(0, (.int .i64 n81)), (3, (.string s82))]) (un fun (m83 : Nat) => un fun (n81 : Int) => fun (s82 : ByteArray) w' => St ⟨w, X, S⟩ [] [] w' ∧ iterN _ m83 (n81, s82) = some y79) (fun p => p.1) (m85, n, (⟨#[]⟩ : ByteArray)) ⟨rfl, rfl, trivial⟩ ⟨hM, hx⟩ ?_
  rintro ⟨m83, n81, s82⟩ w86 ⟨hM, hx⟩
  obtain ⟨m87, z88, rfl, hx, hx89⟩ := iterN_step hx
  unfold x_spec_NumText_f0 x_spec_NumText_b0 at hx
  try dsimp only at hx
  refine wc_seq ?_
  refine wc_sr ?_
  refine wmv rfl rfl ?_
  refine wv rfl (r_gtr rfl rfl) ?_
  refine wl_sq ?_
  refine wc_cond rfl (fun hc92 => ?_) (fun hc92 => ?_)
  ·
   replace hx := xif_t hc92 hx
   refine wc_skip ?_
   refine sq_n ?_
   refine wc_block ?_
   refine wc_sr ?_
   refine wmv rfl rfl ?_
   obtain ⟨hg95, hx⟩ := xg_some hx
   refine wv rfl (r_rem rfl rfl hg95) ?_
   obtain ⟨hg97, hx⟩ := xg_some hx
   refine wv rfl (r_add rfl rfl hg97) ?_
   refine wv rfl (r_cvt8 Tryd.underlying3 Tryd.underlying5 rfl) ?_
   refine w_ex rfl (x_lit (f := fY) (own := []) [y8 (48 + (n81 % 10))] [(.int .u8 ((y8 (48 + (n81 % 10))).toNat : Int))] 1 Tryd.underlying28 sz5 (fun _ => rfl) rfl rfl rfl rfl rfl (by kernel_rfl) (fun _ => zP (pV _ rfl) zN) hM ?_); intro s100 w99 hR101 hM
   refine wv rfl (r_b2s Tryd.underlying28 Tryd.underlying9 Tryd.underlying5 rfl (hM.seeO (.head _))) ?_
   refine wmv rfl rfl ?_
   obtain ⟨hg106, hx⟩ := xg_some hx
   refine wv rfl (r_adds rfl rfl hg106) ?_
   refine was rfl rfl ?_
   refine wl_sq ?_
   refine wc_region ?_
   refine wmv rfl rfl ?_
   obtain ⟨hg110, hx⟩ := xg_some hx
   refine wv rfl (r_quo rfl rfl hg110) ?_
   refine was rfl rfl ?_
   refine wl_nil ?_
   refine bk_n ?_
   obtain rfl := Option.some.inj hx
   replace hM := hM.t0
   exact lp_end (m87, n81 / 10, (⟨[y8 (48 + (n81 % 10))].toArray⟩ : ByteArray) ++ s82) (Nat.lt_succ_self _) ⟨rfl, rfl, trivial⟩ ⟨hM, hx89⟩
  ·
   replace hx := xif_f hc92 hx
   refine wc_exit ?_
   refine sq_exit ?_
   refine lp1_exit ?_
   obtain rfl := Option.some.inj hx
   obtain rfl := Option.some.inj hx89
   replace hx := hx80
   try dsimp only [Sum.elim_inl, Sum.elim_inr] at hx
   refine bk_here ?_
   refine sq_n ?_
   refine wc_sr ?_
   refine wmv rfl rfl ?_
   obtain ⟨hg114, hx⟩ := xg_some hx
   refine wv rfl (r_add rfl rfl hg114) ?_
   refine wv rfl (r_cvt8 Tryd.underlying3 Tryd.underlying5 rfl) ?_
   refine w_ex rfl (x_lit (f := fY) (own := []) [y8 (48 + n81)] [(.int .u8 ((y8 (48 + n81)).toNat : Int))] 1 Tryd.underlying28 sz5 (fun _ => rfl) rfl rfl rfl rfl rfl (by kernel_rfl) (fun _ => zP (pV _ rfl) zN) hM ?_); intro s117 w116 hR118 hM
   refine wv rfl (r_b2s Tryd.underlying28 Tryd.underlying9 Tryd.underlying5 rfl (hM.seeO (.head _))) ?_
   refine wmv rfl rfl ?_
   obtain ⟨hg123, hx⟩ := xg_some hx
   refine wv rfl (r_adds rfl rfl hg123) ?_
   refine was rfl rfl ?_
   refine wl_sq ?_
   refine wc_ret ?_
   obtain rfl := Option.some.inj hx
   refine fin_ret [(.string ((⟨[y8 (48 + n81)].toArray⟩ : ByteArray) ++ s82))] ⟨rfl, trivial⟩ ?_
   replace hM := hM.t0
   have hM := hM.fewer rsN
   exact ⟨(), rfl, hM.gives⟩

noncomputable def x_spec_MarkText (m_ : DMark) : Option ByteArray :=
  Option.bind (x_spec_NumText m_.id) fun r8 => xg (r8.size + (⟨#[58]⟩ : ByteArray).size ≤ 9223372036854775807) <| Option.bind (x_spec_NumText m_.from_) fun r15 => xg ((r8 ++ (⟨#[58]⟩ : ByteArray)).size + r15.size ≤ 9223372036854775807) <| xg (((r8 ++ (⟨#[58]⟩ : ByteArray)) ++ r15).size + (⟨#[45]⟩ : ByteArray).size ≤ 9223372036854775807) <| Option.bind (x_spec_NumText m_.to) fun r24 => xg ((((r8 ++ (⟨#[58]⟩ : ByteArray)) ++ r15) ++ (⟨#[45]⟩ : ByteArray)).size + r24.size ≤ 9223372036854775807) <| some ((((r8 ++ (⟨#[58]⟩ : ByteArray)) ++ r15) ++ (⟨#[45]⟩ : ByteArray)) ++ r24)
theorem ct_spec_MarkText (w : World) (X S : Bs) (m_ : DMark) (hS : ∀ b, S b → b < w.heap.size ∧ ¬ X b)  (oL : Sep [] X w) {r : ByteArray} (hx : x_spec_MarkText m_ = some r) :
  Ret Tryd.prog 5 [(.agg #[(.int .i64 m_.id), (.int .i64 m_.from_), (.int .i64 m_.to)])] w (fun u w' => ∃ _ : Unit, u = (.string r) ∧ Gives X S w [] [] w') := by
 unfold x_spec_MarkText at hx
 refine enter Tryd.func5 rfl Tryd.ntmps5 (by kernel_rfl) rfl ?_
 have hM := St.enter oL hS
 refine wc_sr ?_
 refine w_ex rfl (x_box rfl hM ?_); intro b33 w32 hR34 hM
 dsimp only [Value.cells] at hM
 refine was rfl rfl ?_
 refine wl_sq ?_
 refine wc_seq ?_
 refine wc_draw [(0, 0), (1, 0), (2, 0), (3, 0), (4, 0), (5, 0), (6, 0), (7, 0), (8, 0), (9, 0), (10, 0), (11, 0), (12, 0), (13, 0)] Tryd_mixed (by kernel_rfl) rfl (by kernel_rfl) rfl ?_
 refine ov rfl (fun w' h' => r_fld Tryd.underlying25 rfl rfl sz3 rfl) ?_
 refine ov rfl (fun w' h' => r_ldB Tryd.underlying3 rfl rfl (hM.call h') (.head _) rfl) ?_
 obtain ⟨r39, h40, hx⟩ := bind_some' hx
 refine oc rfl rfl (fun w' h' => (hM.call h').callV fun X S oL hS hR hO => ct_spec_NumText _ X S m_.id hS  oL h40) ?_
 obtain ⟨hg43, hx⟩ := xg_some hx
 refine ov rfl (fun w' h' => r_adds rfl rfl hg43) ?_
 refine ov rfl (fun w' h' => r_fld Tryd.underlying25 rfl rfl sz3 rfl) ?_
 refine ov rfl (fun w' h' => r_ldB Tryd.underlying3 rfl rfl (hM.call h') (.head _) rfl) ?_
 obtain ⟨r46, h47, hx⟩ := bind_some' hx
 refine oc rfl rfl (fun w' h' => (hM.call h').callV fun X S oL hS hR hO => ct_spec_NumText _ X S m_.from_ hS  oL h47) ?_
 obtain ⟨hg50, hx⟩ := xg_some hx
 refine ov rfl (fun w' h' => r_adds rfl rfl hg50) ?_
 obtain ⟨hg52, hx⟩ := xg_some hx
 refine ov rfl (fun w' h' => r_adds rfl rfl hg52) ?_
 refine ov rfl (fun w' h' => r_fld Tryd.underlying25 rfl rfl sz3 rfl) ?_
 refine ov rfl (fun w' h' => r_ldB Tryd.underlying3 rfl rfl (hM.call h') (.head _) rfl) ?_
 obtain ⟨r55, h56, hx⟩ := bind_some' hx
 refine oc rfl rfl (fun w' h' => (hM.call h').callV fun X S oL hS hR hO => ct_spec_NumText _ X S m_.to hS  oL h56) ?_
 obtain ⟨hg59, hx⟩ := xg_some hx
 refine ov rfl (fun w' h' => r_adds rfl rfl hg59) ?_
 refine ov rfl (fun w' h' => r_assign rfl) ?_
 refine o_nilM hM fun w61 hM => ?_
 refine sq_n ?_
 refine wc_ret ?_
 obtain rfl := Option.some.inj hx
 refine fin_ret [(.string ((((r39 ++ (⟨#[58]⟩ : ByteArray)) ++ r46) ++ (⟨#[45]⟩ : ByteArray)) ++ r55))] ⟨rfl, trivial⟩ ?_
 replace hM := hM.t0
 have hM := hM.fewer rsN
 exact ⟨(), rfl, hM.gives⟩

end Go.Proofs.YtdfjkipdmeomdaaDoor
