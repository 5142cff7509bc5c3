/- Walks of functions of this program (printed by a program of ours, by the rules of the layer). No condition. -/
import Derived.Test.YtbapjbanejimiaaG1
import Derived.Test.YtbapjbanejimiaaNs
namespace Go.Proofs.Ytbapjbanejimiaa
open Go.RowKit

noncomputable def x_impl_ClName (k : Int) : Option ByteArray :=
  Option.bind (x_impl_within k 1 8) fun r8 => bif !r8 then (some (⟨#[]⟩ : ByteArray)) else (xg (inI (k - 1)) <| xg (0 ≤ (k - 1) ∧ (k - 1) < ([(⟨#[111, 112, 101, 110]⟩ : ByteArray), (⟨#[115, 117, 98, 109, 105, 116]⟩ : ByteArray), (⟨#[102, 101, 116, 99, 104]⟩ : ByteArray), (⟨#[115, 110, 97, 112]⟩ : ByteArray), (⟨#[115, 117, 98]⟩ : ByteArray), (⟨#[112, 111, 108, 108]⟩ : ByteArray), (⟨#[114, 101, 115, 121, 110, 99]⟩ : ByteArray), (⟨#[115, 104, 117, 116]⟩ : ByteArray)].length : Int)) <| some (el [(⟨#[111, 112, 101, 110]⟩ : ByteArray), (⟨#[115, 117, 98, 109, 105, 116]⟩ : ByteArray), (⟨#[102, 101, 116, 99, 104]⟩ : ByteArray), (⟨#[115, 110, 97, 112]⟩ : ByteArray), (⟨#[115, 117, 98]⟩ : ByteArray), (⟨#[112, 111, 108, 108]⟩ : ByteArray), (⟨#[114, 101, 115, 121, 110, 99]⟩ : ByteArray), (⟨#[115, 104, 117, 116]⟩ : ByteArray)] ((k - 1).toNat)))
theorem ct_impl_ClName (w : World) (X S : Bs) (k : Int) (hS : ∀ b, S b → b < w.heap.size ∧ ¬ X b)  (oL : Sep [] X w) {r : ByteArray} (hx : x_impl_ClName k = some r) :
    Ret Try.prog 26 [(.int .i64 k)] w (fun u w' => ∃ _ : Unit, u = (.string r) ∧ Gives X S w [] [] w') := by
  unfold x_impl_ClName at hx
  refine enter Try.func26 rfl Try.ntmps26 (by kernel_rfl) rfl ?_
  have hM := St.enter oL hS
  refine wc_seq ?_
  refine wc_region ?_
  refine wv rfl (r_assign rfl) ?_
  refine wl_nil ?_
  refine sq_n ?_
  refine wc_seq ?_
  refine wc_region ?_
  refine w_ex rfl (x_lit (f := fT) (own := []) [(⟨#[111, 112, 101, 110]⟩ : ByteArray), (⟨#[115, 117, 98, 109, 105, 116]⟩ : ByteArray), (⟨#[102, 101, 116, 99, 104]⟩ : ByteArray), (⟨#[115, 110, 97, 112]⟩ : ByteArray), (⟨#[115, 117, 98]⟩ : ByteArray), (⟨#[112, 111, 108, 108]⟩ : ByteArray), (⟨#[114, 101, 115, 121, 110, 99]⟩ : ByteArray), (⟨#[115, 104, 117, 116]⟩ : ByteArray)] [(.string (⟨#[111, 112, 101, 110]⟩ : ByteArray)), (.string (⟨#[115, 117, 98, 109, 105, 116]⟩ : ByteArray)), (.string (⟨#[102, 101, 116, 99, 104]⟩ : ByteArray)), (.string (⟨#[115, 110, 97, 112]⟩ : ByteArray)), (.string (⟨#[115, 117, 98]⟩ : ByteArray)), (.string (⟨#[112, 111, 108, 108]⟩ : ByteArray)), (.string (⟨#[114, 101, 115, 121, 110, 99]⟩ : ByteArray)), (.string (⟨#[115, 104, 117, 116]⟩ : ByteArray))] 8 Try.underlying88 sz9 (fun _ => rfl) rfl rfl rfl rfl rfl (by kernel_rfl) (fun _ => zP (pV _ rfl) (zP (pV _ rfl) (zP (pV _ rfl) (zP (pV _ rfl) (zP (pV _ rfl) (zP (pV _ rfl) (zP (pV _ rfl) (zP (pV _ rfl) zN)))))))) hM ?_); intro s25 w24 hR26 hM
  refine wv rfl (r_assign rfl) ?_
  refine wl_nil ?_
  refine sq_n ?_
  refine wc_seq ?_
  refine wc_seq ?_
  refine wc_region ?_
  refine wv rfl (r_move rfl) ?_
  obtain ⟨r30, h31, hx⟩ := bind_some' hx
  refine w_call rfl rfl (hM.callV fun X S oL hS hR hO => ct_impl_within _ X S k (1 : Int) (8 : Int) hS  oL h31) ?_
  rintro _ w32 ⟨rfl, hR33⟩
  have hM := hM.call hR33
  refine wv rfl (r_not rfl) ?_
  refine wl_nil ?_
  refine sq_n ?_
  refine wc_cond rfl (fun hc35 => ?_) (fun hc35 => ?_)
  · replace hx := xif_t hc35 hx
    refine wc_seq ?_
    refine wc_region ?_
    refine wv rfl (r_assign rfl) ?_
    refine wl_nil ?_
    refine sq_n ?_
    refine wc_ret ?_
    refine sq_ret ?_
    obtain rfl := Option.some.inj hx
    refine fin_ret [(.string (⟨#[]⟩ : ByteArray))] ⟨rfl, trivial⟩ ?_
    replace hM := hM.t0
    have hM := hM.fewer rsN
    exact ⟨(), rfl, hM.gives⟩
  · replace hx := xif_f hc35 hx
    refine wc_skip ?_
    refine sq_n ?_
    refine wc_seq ?_
    refine wc_region ?_
    refine wv rfl (r_move rfl) ?_
    refine wv rfl (r_move rfl) ?_
    obtain ⟨hg40, hx⟩ := xg_some hx
    refine wv rfl (r_sub rfl rfl hg40) ?_
    obtain ⟨hg43, hx⟩ := xg_some hx
    have hi42 : ((k - 1).toNat) < [(⟨#[111, 112, 101, 110]⟩ : ByteArray), (⟨#[115, 117, 98, 109, 105, 116]⟩ : ByteArray), (⟨#[102, 101, 116, 99, 104]⟩ : ByteArray), (⟨#[115, 110, 97, 112]⟩ : ByteArray), (⟨#[115, 117, 98]⟩ : ByteArray), (⟨#[112, 111, 108, 108]⟩ : ByteArray), (⟨#[114, 101, 115, 121, 110, 99]⟩ : ByteArray), (⟨#[115, 104, 117, 116]⟩ : ByteArray)].length := by omega
    refine wv rfl (r_ixC Try.underlying88 sz9 rfl rfl (hM.seeO (.head _)) hg43) ?_
    refine wv rfl (r_ld Try.underlying9 rfl rfl (Cs.get (i := ((k - 1).toNat)) (j := 0) (hM.seeO (.head _)) (fun _ => rfl) hi42 rfl)) ?_
    refine wv rfl (r_assign rfl) ?_
    refine wl_nil ?_
    refine sq_n ?_
    refine wc_ret ?_
    obtain rfl := Option.some.inj hx
    refine fin_ret [(.string (el [(⟨#[111, 112, 101, 110]⟩ : ByteArray), (⟨#[115, 117, 98, 109, 105, 116]⟩ : ByteArray), (⟨#[102, 101, 116, 99, 104]⟩ : ByteArray), (⟨#[115, 110, 97, 112]⟩ : ByteArray), (⟨#[115, 117, 98]⟩ : ByteArray), (⟨#[112, 111, 108, 108]⟩ : ByteArray), (⟨#[114, 101, 115, 121, 110, 99]⟩ : ByteArray), (⟨#[115, 104, 117, 116]⟩ : ByteArray)] ((k - 1).toNat)))] ⟨rfl, trivial⟩ ?_
    replace hM := hM.t0
    have hM := hM.fewer rsN
    exact ⟨(), rfl, hM.gives⟩

noncomputable def x_impl_PcName (pc : Int) : Option ByteArray :=
  Option.bind (x_impl_within pc 0 4) fun r8 => bif !r8 then (some (⟨#[]⟩ : ByteArray)) else (xg (0 ≤ pc ∧ pc < ([(⟨#[115, 116, 97, 114, 116]⟩ : ByteArray), (⟨#[108, 111, 99, 107, 101, 100]⟩ : ByteArray), (⟨#[119, 97, 105, 116]⟩ : ByteArray), (⟨#[115, 101, 110, 100]⟩ : ByteArray), (⟨#[100, 111, 110, 101]⟩ : ByteArray)].length : Int)) <| some (el [(⟨#[115, 116, 97, 114, 116]⟩ : ByteArray), (⟨#[108, 111, 99, 107, 101, 100]⟩ : ByteArray), (⟨#[119, 97, 105, 116]⟩ : ByteArray), (⟨#[115, 101, 110, 100]⟩ : ByteArray), (⟨#[100, 111, 110, 101]⟩ : ByteArray)] pc.toNat))
theorem ct_impl_PcName (w : World) (X S : Bs) (pc : Int) (hS : ∀ b, S b → b < w.heap.size ∧ ¬ X b)  (oL : Sep [] X w) {r : ByteArray} (hx : x_impl_PcName pc = some r) :
    Ret Try.prog 27 [(.int .i64 pc)] w (fun u w' => ∃ _ : Unit, u = (.string r) ∧ Gives X S w [] [] w') := by
  unfold x_impl_PcName at hx
  refine enter Try.func27 rfl Try.ntmps27 (by kernel_rfl) rfl ?_
  have hM := St.enter oL hS
  refine wc_seq ?_
  refine wc_region ?_
  refine wv rfl (r_assign rfl) ?_
  refine wl_nil ?_
  refine sq_n ?_
  refine wc_seq ?_
  refine wc_region ?_
  refine w_ex rfl (x_lit (f := fT) (own := []) [(⟨#[115, 116, 97, 114, 116]⟩ : ByteArray), (⟨#[108, 111, 99, 107, 101, 100]⟩ : ByteArray), (⟨#[119, 97, 105, 116]⟩ : ByteArray), (⟨#[115, 101, 110, 100]⟩ : ByteArray), (⟨#[100, 111, 110, 101]⟩ : ByteArray)] [(.string (⟨#[115, 116, 97, 114, 116]⟩ : ByteArray)), (.string (⟨#[108, 111, 99, 107, 101, 100]⟩ : ByteArray)), (.string (⟨#[119, 97, 105, 116]⟩ : ByteArray)), (.string (⟨#[115, 101, 110, 100]⟩ : ByteArray)), (.string (⟨#[100, 111, 110, 101]⟩ : ByteArray))] 5 Try.underlying88 sz9 (fun _ => rfl) rfl rfl rfl rfl rfl (by kernel_rfl) (fun _ => zP (pV _ rfl) (zP (pV _ rfl) (zP (pV _ rfl) (zP (pV _ rfl) (zP (pV _ rfl) zN))))) hM ?_); intro s23 w22 hR24 hM
  refine wv rfl (r_assign rfl) ?_
  refine wl_nil ?_
  refine sq_n ?_
  refine wc_seq ?_
  refine wc_seq ?_
  refine wc_region ?_
  refine wv rfl (r_move rfl) ?_
  obtain ⟨r28, h29, hx⟩ := bind_some' hx
  refine w_call rfl rfl (hM.callV fun X S oL hS hR hO => ct_impl_within _ X S pc (0 : Int) (4 : Int) hS  oL h29) ?_
  rintro _ w30 ⟨rfl, hR31⟩
  have hM := hM.call hR31
  refine wv rfl (r_not rfl) ?_
  refine wl_nil ?_
  refine sq_n ?_
  refine wc_cond rfl (fun hc33 => ?_) (fun hc33 => ?_)
  · replace hx := xif_t hc33 hx
    refine wc_seq ?_
    refine wc_region ?_
    refine wv rfl (r_assign rfl) ?_
    refine wl_nil ?_
    refine sq_n ?_
    refine wc_ret ?_
    refine sq_ret ?_
    obtain rfl := Option.some.inj hx
    refine fin_ret [(.string (⟨#[]⟩ : ByteArray))] ⟨rfl, trivial⟩ ?_
    replace hM := hM.t0
    have hM := hM.fewer rsN
    exact ⟨(), rfl, hM.gives⟩
  · replace hx := xif_f hc33 hx
    refine wc_skip ?_
    refine sq_n ?_
    refine wc_seq ?_
    refine wc_region ?_
    refine wv rfl (r_move rfl) ?_
    refine wv rfl (r_move rfl) ?_
    obtain ⟨hg39, hx⟩ := xg_some hx
    have hi38 : pc.toNat < [(⟨#[115, 116, 97, 114, 116]⟩ : ByteArray), (⟨#[108, 111, 99, 107, 101, 100]⟩ : ByteArray), (⟨#[119, 97, 105, 116]⟩ : ByteArray), (⟨#[115, 101, 110, 100]⟩ : ByteArray), (⟨#[100, 111, 110, 101]⟩ : ByteArray)].length := by omega
    refine wv rfl (r_ixC Try.underlying88 sz9 rfl rfl (hM.seeO (.head _)) hg39) ?_
    refine wv rfl (r_ld Try.underlying9 rfl rfl (Cs.get (i := pc.toNat) (j := 0) (hM.seeO (.head _)) (fun _ => rfl) hi38 rfl)) ?_
    refine wv rfl (r_assign rfl) ?_
    refine wl_nil ?_
    refine sq_n ?_
    refine wc_ret ?_
    obtain rfl := Option.some.inj hx
    refine fin_ret [(.string (el [(⟨#[115, 116, 97, 114, 116]⟩ : ByteArray), (⟨#[108, 111, 99, 107, 101, 100]⟩ : ByteArray), (⟨#[119, 97, 105, 116]⟩ : ByteArray), (⟨#[115, 101, 110, 100]⟩ : ByteArray), (⟨#[100, 111, 110, 101]⟩ : ByteArray)] pc.toNat))] ⟨rfl, trivial⟩ ?_
    replace hM := hM.t0
    have hM := hM.fewer rsN
    exact ⟨(), rfl, hM.gives⟩

noncomputable def x_impl_OtName (code : Int) : Option ByteArray :=
  Option.bind (x_impl_within code 0 12) fun r8 => bif !r8 then (some (⟨#[]⟩ : ByteArray)) else (xg (0 ≤ code ∧ code < ([(⟨#[111, 107]⟩ : ByteArray), (⟨#[105, 110, 118, 97, 108, 105, 100]⟩ : ByteArray), (⟨#[102, 117, 116, 117, 114, 101]⟩ : ByteArray), (⟨#[111, 108, 100]⟩ : ByteArray), (⟨#[115, 101, 113]⟩ : ByteArray), (⟨#[108, 97, 114, 103, 101]⟩ : ByteArray), (⟨#[110, 111, 100, 111, 99]⟩ : ByteArray), (⟨#[104, 97, 118, 101]⟩ : ByteArray), (⟨#[110, 111, 115, 117, 98]⟩ : ByteArray), (⟨#[101, 118, 105, 99, 116, 101, 100]⟩ : ByteArray), (⟨#[102, 117, 108, 108]⟩ : ByteArray), (⟨#[98, 117, 115, 121]⟩ : ByteArray), (⟨#[99, 108, 111, 115, 101, 100]⟩ : ByteArray)].length : Int)) <| some (el [(⟨#[111, 107]⟩ : ByteArray), (⟨#[105, 110, 118, 97, 108, 105, 100]⟩ : ByteArray), (⟨#[102, 117, 116, 117, 114, 101]⟩ : ByteArray), (⟨#[111, 108, 100]⟩ : ByteArray), (⟨#[115, 101, 113]⟩ : ByteArray), (⟨#[108, 97, 114, 103, 101]⟩ : ByteArray), (⟨#[110, 111, 100, 111, 99]⟩ : ByteArray), (⟨#[104, 97, 118, 101]⟩ : ByteArray), (⟨#[110, 111, 115, 117, 98]⟩ : ByteArray), (⟨#[101, 118, 105, 99, 116, 101, 100]⟩ : ByteArray), (⟨#[102, 117, 108, 108]⟩ : ByteArray), (⟨#[98, 117, 115, 121]⟩ : ByteArray), (⟨#[99, 108, 111, 115, 101, 100]⟩ : ByteArray)] code.toNat))
theorem ct_impl_OtName (w : World) (X S : Bs) (code : Int) (hS : ∀ b, S b → b < w.heap.size ∧ ¬ X b)  (oL : Sep [] X w) {r : ByteArray} (hx : x_impl_OtName code = some r) :
    Ret Try.prog 28 [(.int .i64 code)] w (fun u w' => ∃ _ : Unit, u = (.string r) ∧ Gives X S w [] [] w') := by
  unfold x_impl_OtName at hx
  refine enter Try.func28 rfl Try.ntmps28 (by kernel_rfl) rfl ?_
  have hM := St.enter oL hS
  refine wc_seq ?_
  refine wc_region ?_
  refine wv rfl (r_assign rfl) ?_
  refine wl_nil ?_
  refine sq_n ?_
  refine wc_seq ?_
  refine wc_region ?_
  refine w_ex rfl (x_lit (f := fT) (own := []) [(⟨#[111, 107]⟩ : ByteArray), (⟨#[105, 110, 118, 97, 108, 105, 100]⟩ : ByteArray), (⟨#[102, 117, 116, 117, 114, 101]⟩ : ByteArray), (⟨#[111, 108, 100]⟩ : ByteArray), (⟨#[115, 101, 113]⟩ : ByteArray), (⟨#[108, 97, 114, 103, 101]⟩ : ByteArray), (⟨#[110, 111, 100, 111, 99]⟩ : ByteArray), (⟨#[104, 97, 118, 101]⟩ : ByteArray), (⟨#[110, 111, 115, 117, 98]⟩ : ByteArray), (⟨#[101, 118, 105, 99, 116, 101, 100]⟩ : ByteArray), (⟨#[102, 117, 108, 108]⟩ : ByteArray), (⟨#[98, 117, 115, 121]⟩ : ByteArray), (⟨#[99, 108, 111, 115, 101, 100]⟩ : ByteArray)] [(.string (⟨#[111, 107]⟩ : ByteArray)), (.string (⟨#[105, 110, 118, 97, 108, 105, 100]⟩ : ByteArray)), (.string (⟨#[102, 117, 116, 117, 114, 101]⟩ : ByteArray)), (.string (⟨#[111, 108, 100]⟩ : ByteArray)), (.string (⟨#[115, 101, 113]⟩ : ByteArray)), (.string (⟨#[108, 97, 114, 103, 101]⟩ : ByteArray)), (.string (⟨#[110, 111, 100, 111, 99]⟩ : ByteArray)), (.string (⟨#[104, 97, 118, 101]⟩ : ByteArray)), (.string (⟨#[110, 111, 115, 117, 98]⟩ : ByteArray)), (.string (⟨#[101, 118, 105, 99, 116, 101, 100]⟩ : ByteArray)), (.string (⟨#[102, 117, 108, 108]⟩ : ByteArray)), (.string (⟨#[98, 117, 115, 121]⟩ : ByteArray)), (.string (⟨#[99, 108, 111, 115, 101, 100]⟩ : ByteArray))] 13 Try.underlying88 sz9 (fun _ => rfl) rfl rfl rfl rfl rfl (by kernel_rfl) (fun _ => zP (pV _ rfl) (zP (pV _ rfl) (zP (pV _ rfl) (zP (pV _ rfl) (zP (pV _ rfl) (zP (pV _ rfl) (zP (pV _ rfl) (zP (pV _ rfl) (zP (pV _ rfl) (zP (pV _ rfl) (zP (pV _ rfl) (zP (pV _ rfl) (zP (pV _ rfl) zN))))))))))))) hM ?_); intro s23 w22 hR24 hM
  refine wv rfl (r_assign rfl) ?_
  refine wl_nil ?_
  refine sq_n ?_
  refine wc_seq ?_
  refine wc_seq ?_
  refine wc_region ?_
  refine wv rfl (r_move rfl) ?_
  obtain ⟨r28, h29, hx⟩ := bind_some' hx
  refine w_call rfl rfl (hM.callV fun X S oL hS hR hO => ct_impl_within _ X S code (0 : Int) (12 : Int) hS  oL h29) ?_
  rintro _ w30 ⟨rfl, hR31⟩
  have hM := hM.call hR31
  refine wv rfl (r_not rfl) ?_
  refine wl_nil ?_
  refine sq_n ?_
  refine wc_cond rfl (fun hc33 => ?_) (fun hc33 => ?_)
  · replace hx := xif_t hc33 hx
    refine wc_seq ?_
    refine wc_region ?_
    refine wv rfl (r_assign rfl) ?_
    refine wl_nil ?_
    refine sq_n ?_
    refine wc_ret ?_
    refine sq_ret ?_
    obtain rfl := Option.some.inj hx
    refine fin_ret [(.string (⟨#[]⟩ : ByteArray))] ⟨rfl, trivial⟩ ?_
    replace hM := hM.t0
    have hM := hM.fewer rsN
    exact ⟨(), rfl, hM.gives⟩
  · replace hx := xif_f hc33 hx
    refine wc_skip ?_
    refine sq_n ?_
    refine wc_seq ?_
    refine wc_region ?_
    refine wv rfl (r_move rfl) ?_
    refine wv rfl (r_move rfl) ?_
    obtain ⟨hg39, hx⟩ := xg_some hx
    have hi38 : code.toNat < [(⟨#[111, 107]⟩ : ByteArray), (⟨#[105, 110, 118, 97, 108, 105, 100]⟩ : ByteArray), (⟨#[102, 117, 116, 117, 114, 101]⟩ : ByteArray), (⟨#[111, 108, 100]⟩ : ByteArray), (⟨#[115, 101, 113]⟩ : ByteArray), (⟨#[108, 97, 114, 103, 101]⟩ : ByteArray), (⟨#[110, 111, 100, 111, 99]⟩ : ByteArray), (⟨#[104, 97, 118, 101]⟩ : ByteArray), (⟨#[110, 111, 115, 117, 98]⟩ : ByteArray), (⟨#[101, 118, 105, 99, 116, 101, 100]⟩ : ByteArray), (⟨#[102, 117, 108, 108]⟩ : ByteArray), (⟨#[98, 117, 115, 121]⟩ : ByteArray), (⟨#[99, 108, 111, 115, 101, 100]⟩ : ByteArray)].length := by omega
    refine wv rfl (r_ixC Try.underlying88 sz9 rfl rfl (hM.seeO (.head _)) hg39) ?_
    refine wv rfl (r_ld Try.underlying9 rfl rfl (Cs.get (i := code.toNat) (j := 0) (hM.seeO (.head _)) (fun _ => rfl) hi38 rfl)) ?_
    refine wv rfl (r_assign rfl) ?_
    refine wl_nil ?_
    refine sq_n ?_
    refine wc_ret ?_
    obtain rfl := Option.some.inj hx
    refine fin_ret [(.string (el [(⟨#[111, 107]⟩ : ByteArray), (⟨#[105, 110, 118, 97, 108, 105, 100]⟩ : ByteArray), (⟨#[102, 117, 116, 117, 114, 101]⟩ : ByteArray), (⟨#[111, 108, 100]⟩ : ByteArray), (⟨#[115, 101, 113]⟩ : ByteArray), (⟨#[108, 97, 114, 103, 101]⟩ : ByteArray), (⟨#[110, 111, 100, 111, 99]⟩ : ByteArray), (⟨#[104, 97, 118, 101]⟩ : ByteArray), (⟨#[110, 111, 115, 117, 98]⟩ : ByteArray), (⟨#[101, 118, 105, 99, 116, 101, 100]⟩ : ByteArray), (⟨#[102, 117, 108, 108]⟩ : ByteArray), (⟨#[98, 117, 115, 121]⟩ : ByteArray), (⟨#[99, 108, 111, 115, 101, 100]⟩ : ByteArray)] code.toNat))] ⟨rfl, trivial⟩ ?_
    replace hM := hM.t0
    have hM := hM.fewer rsN
    exact ⟨(), rfl, hM.gives⟩

noncomputable def x_impl_TaskText (t : DTask) : Option ByteArray :=
  Option.bind (x_impl_ClName t.c.kind) fun r9 => xg (r9.size + (⟨#[32]⟩ : ByteArray).size ≤ 9223372036854775807) <| Option.bind (x_impl_PcName t.pc) fun r16 => xg ((r9 ++ (⟨#[32]⟩ : ByteArray)).size + r16.size ≤ 9223372036854775807) <| Option.bind (bif decide (t.pc = 3) then (some true) else (some (decide (t.pc = 4)))) fun c28 => bif c28 then (Option.bind (x_impl_OtName t.a.code) fun r40 => xg ((⟨#[32]⟩ : ByteArray).size + r40.size ≤ 9223372036854775807) <| xg (((r9 ++ (⟨#[32]⟩ : ByteArray)) ++ r16).size + ((⟨#[32]⟩ : ByteArray) ++ r40).size ≤ 9223372036854775807) <| some (((r9 ++ (⟨#[32]⟩ : ByteArray)) ++ r16) ++ ((⟨#[32]⟩ : ByteArray) ++ r40))) else (some ((r9 ++ (⟨#[32]⟩ : ByteArray)) ++ r16))
theorem ct_impl_TaskText (w : World) (X S : Bs) (t : DTask) (s_t_5 : Sv) (s_t_6 : Sv) (s_t_13 : Sv) (s_t_14 : Sv) (hS : ∀ b, S b → b < w.heap.size ∧ ¬ X b) (a_t_5 : (cSl 3 fDPart t.c.o).rd S w s_t_5.v) (a_t_6 : (cSl 1 fI t.c.text).rd S w s_t_6.v) (a_t_13 : (cSl 1 fI t.a.text).rd S w s_t_13.v) (a_t_14 : (cSl 3 fDEntry t.a.list).rd S w s_t_14.v) (oL : Sep [] X w) {r : ByteArray} (hx : x_impl_TaskText t = some r) :
    Ret Try.prog 8 [(.agg #[(.int .i64 t.c.kind), (.string t.c.doc), (.int .i64 t.c.client), (.int .i64 t.c.seq), (.int .i64 t.c.n), s_t_5.v, s_t_6.v, (.int .i64 t.pc), (.int .i64 t.inv), (.int .i64 t.lin), (.int .i64 t.res), (.int .i64 t.a.code), (.int .i64 t.a.rev), s_t_13.v, s_t_14.v])] w (fun u w' => ∃ _ : Unit, u = (.string r) ∧ Gives X S w [] [] w') := by
  unfold x_impl_TaskText at hx
  refine enter Try.func8 rfl Try.ntmps8 (by kernel_rfl) rfl ?_
  have hM := St.enter oL hS
  have hM := hM.addE (r := rV s_t_5.v (cSl 3 fDPart t.c.o)) a_t_5
  have hM := hM.addE (r := rV s_t_6.v (cSl 1 fI t.c.text)) a_t_6
  have hM := hM.addE (r := rV s_t_13.v (cSl 1 fI t.a.text)) a_t_13
  have hM := hM.addE (r := rV s_t_14.v (cSl 3 fDEntry t.a.list)) a_t_14
  refine wc_seq ?_
  refine wc_region ?_
  refine w_ex rfl (x_box rfl hM ?_); intro b54 w53 hR55 hM
  replace hM : St ⟨w, X, S⟩ [oBox b54 #[(.int .i64 t.c.kind), (.string t.c.doc), (.int .i64 t.c.client), (.int .i64 t.c.seq), (.int .i64 t.c.n), s_t_5.v, s_t_6.v, (.int .i64 t.pc), (.int .i64 t.inv), (.int .i64 t.lin), (.int .i64 t.res), (.int .i64 t.a.code), (.int .i64 t.a.rev), s_t_13.v, s_t_14.v] 40] [rV s_t_14.v (cSl 3 fDEntry t.a.list), rV s_t_13.v (cSl 1 fI t.a.text), rV s_t_6.v (cSl 1 fI t.c.text), rV s_t_5.v (cSl 3 fDPart t.c.o)] _ := hM
  refine wv rfl (r_assign rfl) ?_
  refine wl_nil ?_
  refine sq_n ?_
  refine wc_seq ?_
  refine wc_draw [(0, 0), (1, 0), (2, 0), (3, 0), (4, 0), (5, 0), (6, 0), (7, 0), (8, 0), (9, 0)] Try_mixed (by kernel_rfl) rfl (by kernel_rfl) rfl ?_
  refine ov rfl (fun w' h' => r_fld Try.underlying40 rfl rfl sz35 rfl) ?_
  refine ov rfl (fun w' h' => r_fld Try.underlying35 rfl rfl sz3 rfl) ?_
  refine ov rfl (fun w' h' => r_ldB Try.underlying3 rfl rfl (hM.call h') (.head _) rfl) ?_
  obtain ⟨r61, h62, hx⟩ := bind_some' hx
  refine oc rfl rfl (fun w' h' => (hM.call h').callV fun X S oL hS hR hO => ct_impl_ClName _ X S t.c.kind hS  oL h62) ?_
  obtain ⟨hg65, hx⟩ := xg_some hx
  refine ov rfl (fun w' h' => r_adds rfl rfl hg65) ?_
  refine ov rfl (fun w' h' => r_fld Try.underlying40 rfl rfl sz3 rfl) ?_
  refine ov rfl (fun w' h' => r_ldB Try.underlying3 rfl rfl (hM.call h') (.head _) rfl) ?_
  obtain ⟨r68, h69, hx⟩ := bind_some' hx
  refine oc rfl rfl (fun w' h' => (hM.call h').callV fun X S oL hS hR hO => ct_impl_PcName _ X S t.pc hS  oL h69) ?_
  obtain ⟨hg72, hx⟩ := xg_some hx
  refine ov rfl (fun w' h' => r_adds rfl rfl hg72) ?_
  refine ov rfl (fun w' h' => r_assign rfl) ?_
  refine o_nil fun w74 hw75 => ?_
  have hM := hM.call hw75
  refine sq_n ?_
  refine wc_seq ?_
  refine wc_seq ?_
  refine wc_region ?_
  refine wv rfl (r_fld Try.underlying40 rfl rfl sz3 rfl) ?_
  refine wv rfl (r_ldB Try.underlying3 rfl rfl hM (.head _) rfl) ?_
  refine wv rfl (r_eql rfl rfl) ?_
  refine wv rfl (r_move rfl) ?_
  obtain ⟨c80, hx, hx85⟩ := bind_some' hx
  refine wl_mid 4 (fun _ : Unit => [(20, (.bool c80)), (1, (.pointer (some ⟨b54, 0, none⟩))), (3, (.string ((r61 ++ (⟨#[32]⟩ : ByteArray)) ++ r68)))]) (fun _ w' => St ⟨w, X, S⟩ [oBox b54 #[(.int .i64 t.c.kind), (.string t.c.doc), (.int .i64 t.c.client), (.int .i64 t.c.seq), (.int .i64 t.c.n), s_t_5.v, s_t_6.v, (.int .i64 t.pc), (.int .i64 t.inv), (.int .i64 t.lin), (.int .i64 t.res), (.int .i64 t.a.code), (.int .i64 t.a.rev), s_t_13.v, s_t_14.v] 40] [rV s_t_14.v (cSl 3 fDEntry t.a.list), rV s_t_13.v (cSl 1 fI t.a.text), rV s_t_6.v (cSl 1 fI t.c.text), rV s_t_5.v (cSl 3 fDPart t.c.o)] w') ?_ ?_
  · rcases Bool.eq_false_or_eq_true (decide (t.pc = 3)) with hg81 | hg81
    · replace hx := xif_t hg81 hx
      refine gs rfl (isB_no hg81) rfl ?_
      refine gs rfl (isB_no hg81) rfl ?_
      refine gs rfl (isB_no hg81) rfl ?_
      refine wv rfl (p_t rfl hg81 rfl) ?_
      obtain rfl := Option.some.inj hx
      exact mid_nil () ⟨rfl, rfl, rfl, trivial⟩ hM
    · replace hx := xif_f hg81 hx
      refine gv rfl hg81 rfl (r_fld Try.underlying40 rfl rfl sz3 rfl) ?_
      refine gv rfl hg81 rfl (r_ldB Try.underlying3 rfl rfl hM (.head _) rfl) ?_
      refine gv rfl hg81 rfl (r_eql rfl rfl) ?_
      refine wv rfl (p_f rfl hg81 rfl) ?_
      obtain rfl := Option.some.inj hx
      exact mid_nil () ⟨rfl, rfl, rfl, trivial⟩ hM
  rintro _ w89 hM
  replace hx := hx85
  refine wl_nil ?_
  refine sq_n ?_
  refine wc_cond rfl (fun hc90 => ?_) (fun hc90 => ?_)
  · replace hx := xif_t hc90 hx
    refine wc_region ?_
    refine wv rfl (r_move rfl) ?_
    refine wv rfl (r_fld Try.underlying40 rfl rfl sz38 rfl) ?_
    refine wv rfl (r_fld Try.underlying38 rfl rfl sz3 rfl) ?_
    refine wv rfl (r_ldB Try.underlying3 rfl rfl hM (.head _) rfl) ?_
    obtain ⟨r95, h96, hx⟩ := bind_some' hx
    refine w_call rfl rfl (hM.callV fun X S oL hS hR hO => ct_impl_OtName _ X S t.a.code hS  oL h96) ?_
    rintro _ w97 ⟨rfl, hR98⟩
    have hM := hM.call hR98
    obtain ⟨hg100, hx⟩ := xg_some hx
    refine wv rfl (r_adds rfl rfl hg100) ?_
    obtain ⟨hg102, hx⟩ := xg_some hx
    refine wv rfl (r_adds rfl rfl hg102) ?_
    refine wv rfl (r_assign rfl) ?_
    refine wl_nil ?_
    refine sq_n ?_
    refine wc_seq ?_
    refine wc_region ?_
    refine wv rfl (r_move rfl) ?_
    refine wv rfl (r_assign rfl) ?_
    refine wl_nil ?_
    refine sq_n ?_
    refine wc_ret ?_
    obtain rfl := Option.some.inj hx
    refine fin_ret [(.string (((r61 ++ (⟨#[32]⟩ : ByteArray)) ++ r68) ++ ((⟨#[32]⟩ : ByteArray) ++ r95)))] ⟨rfl, trivial⟩ ?_
    replace hM := hM.t0
    have hM := hM.fewer rsN
    exact ⟨(), rfl, hM.gives⟩
  · replace hx := xif_f hc90 hx
    refine wc_skip ?_
    refine sq_n ?_
    refine wc_seq ?_
    refine wc_region ?_
    refine wv rfl (r_move rfl) ?_
    refine wv rfl (r_assign rfl) ?_
    refine wl_nil ?_
    refine sq_n ?_
    refine wc_ret ?_
    obtain rfl := Option.some.inj hx
    refine fin_ret [(.string ((r61 ++ (⟨#[32]⟩ : ByteArray)) ++ r68))] ⟨rfl, trivial⟩ ?_
    replace hM := hM.t0
    have hM := hM.fewer rsN
    exact ⟨(), rfl, hM.gives⟩

noncomputable def x_spec_l12Kind (k : Int) : Option Bool :=
  Option.bind (x_spec_l01In k 1 8) fun r3 => some r3
theorem ct_spec_l12Kind (w : World) (X S : Bs) (k : Int) (hS : ∀ b, S b → b < w.heap.size ∧ ¬ X b)  (oL : Sep [] X w) {r : Bool} (hx : x_spec_l12Kind k = some r) :
    Ret Try.prog 50 [(.int .i64 k)] w (fun u w' => ∃ _ : Unit, u = (.bool r) ∧ Gives X S w [] [] w') := by
  unfold x_spec_l12Kind at hx
  refine enter Try.func50 rfl Try.ntmps50 (by kernel_rfl) rfl ?_
  have hM := St.enter oL hS
  refine wc_seq ?_
  refine wc_region ?_
  refine wv rfl (r_assign rfl) ?_
  refine wl_nil ?_
  refine sq_n ?_
  refine wc_seq ?_
  refine wc_region ?_
  refine wv rfl (r_move rfl) ?_
  obtain ⟨r10, h11, hx⟩ := bind_some' hx
  refine w_call rfl rfl (hM.callV fun X S oL hS hR hO => ct_spec_l01In _ X S k (1 : Int) (8 : Int) hS  oL h11) ?_
  rintro _ w12 ⟨rfl, hR13⟩
  have hM := hM.call hR13
  refine wv rfl (r_assign rfl) ?_
  refine wl_nil ?_
  refine sq_n ?_
  refine wc_ret ?_
  obtain rfl := Option.some.inj hx
  refine fin_ret [(.bool r10)] ⟨rfl, trivial⟩ ?_
  replace hM := hM.t0
  have hM := hM.fewer rsN
  exact ⟨(), rfl, hM.gives⟩

noncomputable def x_spec_ClName (k : Int) : Option ByteArray :=
  Option.bind (x_spec_l12Kind k) fun r3 => bif !r3 then (some (⟨#[]⟩ : ByteArray)) else (xg (0 ≤ k ∧ k < ([(⟨#[]⟩ : ByteArray), (⟨#[111, 112, 101, 110]⟩ : ByteArray), (⟨#[115, 117, 98, 109, 105, 116]⟩ : ByteArray), (⟨#[102, 101, 116, 99, 104]⟩ : ByteArray), (⟨#[115, 110, 97, 112]⟩ : ByteArray), (⟨#[115, 117, 98]⟩ : ByteArray), (⟨#[112, 111, 108, 108]⟩ : ByteArray), (⟨#[114, 101, 115, 121, 110, 99]⟩ : ByteArray), (⟨#[115, 104, 117, 116]⟩ : ByteArray)].length : Int)) <| some (el [(⟨#[]⟩ : ByteArray), (⟨#[111, 112, 101, 110]⟩ : ByteArray), (⟨#[115, 117, 98, 109, 105, 116]⟩ : ByteArray), (⟨#[102, 101, 116, 99, 104]⟩ : ByteArray), (⟨#[115, 110, 97, 112]⟩ : ByteArray), (⟨#[115, 117, 98]⟩ : ByteArray), (⟨#[112, 111, 108, 108]⟩ : ByteArray), (⟨#[114, 101, 115, 121, 110, 99]⟩ : ByteArray), (⟨#[115, 104, 117, 116]⟩ : ByteArray)] k.toNat))
theorem ct_spec_ClName (w : World) (X S : Bs) (k : Int) (hS : ∀ b, S b → b < w.heap.size ∧ ¬ X b)  (oL : Sep [] X w) {r : ByteArray} (hx : x_spec_ClName k = some r) :
    Ret Try.prog 21 [(.int .i64 k)] w (fun u w' => ∃ _ : Unit, u = (.string r) ∧ Gives X S w [] [] w') := by
  unfold x_spec_ClName at hx
  refine enter Try.func21 rfl Try.ntmps21 (by kernel_rfl) rfl ?_
  have hM := St.enter oL hS
  refine wc_seq ?_
  refine wc_region ?_
  refine wv rfl (r_assign rfl) ?_
  refine wl_nil ?_
  refine sq_n ?_
  refine wc_seq ?_
  refine wc_seq ?_
  refine wc_region ?_
  refine wv rfl (r_move rfl) ?_
  obtain ⟨r21, h22, hx⟩ := bind_some' hx
  refine w_call rfl rfl (hM.callV fun X S oL hS hR hO => ct_spec_l12Kind _ X S k hS  oL h22) ?_
  rintro _ w23 ⟨rfl, hR24⟩
  have hM := hM.call hR24
  refine wv rfl (r_not rfl) ?_
  refine wl_nil ?_
  refine sq_n ?_
  refine wc_cond rfl (fun hc26 => ?_) (fun hc26 => ?_)
  · replace hx := xif_t hc26 hx
    refine wc_seq ?_
    refine wc_region ?_
    refine wv rfl (r_assign rfl) ?_
    refine wl_nil ?_
    refine sq_n ?_
    refine wc_ret ?_
    refine sq_ret ?_
    obtain rfl := Option.some.inj hx
    refine fin_ret [(.string (⟨#[]⟩ : ByteArray))] ⟨rfl, trivial⟩ ?_
    replace hM := hM.t0
    have hM := hM.fewer rsN
    exact ⟨(), rfl, hM.gives⟩
  · replace hx := xif_f hc26 hx
    refine wc_skip ?_
    refine sq_n ?_
    refine wc_seq ?_
    refine wc_region ?_
    refine w_ex rfl (x_lit (f := fT) (own := []) [(⟨#[]⟩ : ByteArray), (⟨#[111, 112, 101, 110]⟩ : ByteArray), (⟨#[115, 117, 98, 109, 105, 116]⟩ : ByteArray), (⟨#[102, 101, 116, 99, 104]⟩ : ByteArray), (⟨#[115, 110, 97, 112]⟩ : ByteArray), (⟨#[115, 117, 98]⟩ : ByteArray), (⟨#[112, 111, 108, 108]⟩ : ByteArray), (⟨#[114, 101, 115, 121, 110, 99]⟩ : ByteArray), (⟨#[115, 104, 117, 116]⟩ : ByteArray)] [(.string (⟨#[]⟩ : ByteArray)), (.string (⟨#[111, 112, 101, 110]⟩ : ByteArray)), (.string (⟨#[115, 117, 98, 109, 105, 116]⟩ : ByteArray)), (.string (⟨#[102, 101, 116, 99, 104]⟩ : ByteArray)), (.string (⟨#[115, 110, 97, 112]⟩ : ByteArray)), (.string (⟨#[115, 117, 98]⟩ : ByteArray)), (.string (⟨#[112, 111, 108, 108]⟩ : ByteArray)), (.string (⟨#[114, 101, 115, 121, 110, 99]⟩ : ByteArray)), (.string (⟨#[115, 104, 117, 116]⟩ : ByteArray))] 9 Try.underlying88 sz9 (fun _ => rfl) rfl rfl rfl rfl rfl (by kernel_rfl) (fun _ => zP (pV _ rfl) (zP (pV _ rfl) (zP (pV _ rfl) (zP (pV _ rfl) (zP (pV _ rfl) (zP (pV _ rfl) (zP (pV _ rfl) (zP (pV _ rfl) (zP (pV _ rfl) zN))))))))) hM ?_); intro s29 w28 hR30 hM
    refine wv rfl (r_move rfl) ?_
    obtain ⟨hg35, hx⟩ := xg_some hx
    have hi34 : k.toNat < [(⟨#[]⟩ : ByteArray), (⟨#[111, 112, 101, 110]⟩ : ByteArray), (⟨#[115, 117, 98, 109, 105, 116]⟩ : ByteArray), (⟨#[102, 101, 116, 99, 104]⟩ : ByteArray), (⟨#[115, 110, 97, 112]⟩ : ByteArray), (⟨#[115, 117, 98]⟩ : ByteArray), (⟨#[112, 111, 108, 108]⟩ : ByteArray), (⟨#[114, 101, 115, 121, 110, 99]⟩ : ByteArray), (⟨#[115, 104, 117, 116]⟩ : ByteArray)].length := by omega
    refine wv rfl (r_ixC Try.underlying88 sz9 rfl rfl (hM.seeO (.head _)) hg35) ?_
    refine wv rfl (r_ld Try.underlying9 rfl rfl (Cs.get (i := k.toNat) (j := 0) (hM.seeO (.head _)) (fun _ => rfl) hi34 rfl)) ?_
    refine wv rfl (r_assign rfl) ?_
    refine wl_nil ?_
    refine sq_n ?_
    refine wc_ret ?_
    obtain rfl := Option.some.inj hx
    refine fin_ret [(.string (el [(⟨#[]⟩ : ByteArray), (⟨#[111, 112, 101, 110]⟩ : ByteArray), (⟨#[115, 117, 98, 109, 105, 116]⟩ : ByteArray), (⟨#[102, 101, 116, 99, 104]⟩ : ByteArray), (⟨#[115, 110, 97, 112]⟩ : ByteArray), (⟨#[115, 117, 98]⟩ : ByteArray), (⟨#[112, 111, 108, 108]⟩ : ByteArray), (⟨#[114, 101, 115, 121, 110, 99]⟩ : ByteArray), (⟨#[115, 104, 117, 116]⟩ : ByteArray)] k.toNat))] ⟨rfl, trivial⟩ ?_
    replace hM := hM.t0
    have hM := hM.fewer rsN
    exact ⟨(), rfl, hM.gives⟩

noncomputable def x_spec_PcName (pc : Int) : Option ByteArray :=
  Option.bind (x_spec_l01In pc 0 4) fun r3 => bif !r3 then (some (⟨#[]⟩ : ByteArray)) else (xg (0 ≤ pc ∧ pc < ([(⟨#[115, 116, 97, 114, 116]⟩ : ByteArray), (⟨#[108, 111, 99, 107, 101, 100]⟩ : ByteArray), (⟨#[119, 97, 105, 116]⟩ : ByteArray), (⟨#[115, 101, 110, 100]⟩ : ByteArray), (⟨#[100, 111, 110, 101]⟩ : ByteArray)].length : Int)) <| some (el [(⟨#[115, 116, 97, 114, 116]⟩ : ByteArray), (⟨#[108, 111, 99, 107, 101, 100]⟩ : ByteArray), (⟨#[119, 97, 105, 116]⟩ : ByteArray), (⟨#[115, 101, 110, 100]⟩ : ByteArray), (⟨#[100, 111, 110, 101]⟩ : ByteArray)] pc.toNat))
theorem ct_spec_PcName (w : World) (X S : Bs) (pc : Int) (hS : ∀ b, S b → b < w.heap.size ∧ ¬ X b)  (oL : Sep [] X w) {r : ByteArray} (hx : x_spec_PcName pc = some r) :
    Ret Try.prog 22 [(.int .i64 pc)] w (fun u w' => ∃ _ : Unit, u = (.string r) ∧ Gives X S w [] [] w') := by
  unfold x_spec_PcName at hx
  refine enter Try.func22 rfl Try.ntmps22 (by kernel_rfl) rfl ?_
  have hM := St.enter oL hS
  refine wc_seq ?_
  refine wc_region ?_
  refine wv rfl (r_assign rfl) ?_
  refine wl_nil ?_
  refine sq_n ?_
  refine wc_seq ?_
  refine wc_seq ?_
  refine wc_region ?_
  refine wv rfl (r_move rfl) ?_
  obtain ⟨r21, h22, hx⟩ := bind_some' hx
  refine w_call rfl rfl (hM.callV fun X S oL hS hR hO => ct_spec_l01In _ X S pc (0 : Int) (4 : Int) hS  oL h22) ?_
  rintro _ w23 ⟨rfl, hR24⟩
  have hM := hM.call hR24
  refine wv rfl (r_not rfl) ?_
  refine wl_nil ?_
  refine sq_n ?_
  refine wc_cond rfl (fun hc26 => ?_) (fun hc26 => ?_)
  · replace hx := xif_t hc26 hx
    refine wc_seq ?_
    refine wc_region ?_
    refine wv rfl (r_assign rfl) ?_
    refine wl_nil ?_
    refine sq_n ?_
    refine wc_ret ?_
    refine sq_ret ?_
    obtain rfl := Option.some.inj hx
    refine fin_ret [(.string (⟨#[]⟩ : ByteArray))] ⟨rfl, trivial⟩ ?_
    replace hM := hM.t0
    have hM := hM.fewer rsN
    exact ⟨(), rfl, hM.gives⟩
  · replace hx := xif_f hc26 hx
    refine wc_skip ?_
    refine sq_n ?_
    refine wc_seq ?_
    refine wc_region ?_
    refine w_ex rfl (x_lit (f := fT) (own := []) [(⟨#[115, 116, 97, 114, 116]⟩ : ByteArray), (⟨#[108, 111, 99, 107, 101, 100]⟩ : ByteArray), (⟨#[119, 97, 105, 116]⟩ : ByteArray), (⟨#[115, 101, 110, 100]⟩ : ByteArray), (⟨#[100, 111, 110, 101]⟩ : ByteArray)] [(.string (⟨#[115, 116, 97, 114, 116]⟩ : ByteArray)), (.string (⟨#[108, 111, 99, 107, 101, 100]⟩ : ByteArray)), (.string (⟨#[119, 97, 105, 116]⟩ : ByteArray)), (.string (⟨#[115, 101, 110, 100]⟩ : ByteArray)), (.string (⟨#[100, 111, 110, 101]⟩ : ByteArray))] 5 Try.underlying88 sz9 (fun _ => rfl) rfl rfl rfl rfl rfl (by kernel_rfl) (fun _ => zP (pV _ rfl) (zP (pV _ rfl) (zP (pV _ rfl) (zP (pV _ rfl) (zP (pV _ rfl) zN))))) hM ?_); intro s29 w28 hR30 hM
    refine wv rfl (r_move rfl) ?_
    obtain ⟨hg35, hx⟩ := xg_some hx
    have hi34 : pc.toNat < [(⟨#[115, 116, 97, 114, 116]⟩ : ByteArray), (⟨#[108, 111, 99, 107, 101, 100]⟩ : ByteArray), (⟨#[119, 97, 105, 116]⟩ : ByteArray), (⟨#[115, 101, 110, 100]⟩ : ByteArray), (⟨#[100, 111, 110, 101]⟩ : ByteArray)].length := by omega
    refine wv rfl (r_ixC Try.underlying88 sz9 rfl rfl (hM.seeO (.head _)) hg35) ?_
    refine wv rfl (r_ld Try.underlying9 rfl rfl (Cs.get (i := pc.toNat) (j := 0) (hM.seeO (.head _)) (fun _ => rfl) hi34 rfl)) ?_
    refine wv rfl (r_assign rfl) ?_
    refine wl_nil ?_
    refine sq_n ?_
    refine wc_ret ?_
    obtain rfl := Option.some.inj hx
    refine fin_ret [(.string (el [(⟨#[115, 116, 97, 114, 116]⟩ : ByteArray), (⟨#[108, 111, 99, 107, 101, 100]⟩ : ByteArray), (⟨#[119, 97, 105, 116]⟩ : ByteArray), (⟨#[115, 101, 110, 100]⟩ : ByteArray), (⟨#[100, 111, 110, 101]⟩ : ByteArray)] pc.toNat))] ⟨rfl, trivial⟩ ?_
    replace hM := hM.t0
    have hM := hM.fewer rsN
    exact ⟨(), rfl, hM.gives⟩

noncomputable def x_spec_OtName (code : Int) : Option ByteArray :=
  Option.bind (x_spec_l01In code 0 12) fun r3 => bif !r3 then (some (⟨#[]⟩ : ByteArray)) else (xg (0 ≤ code ∧ code < ([(⟨#[111, 107]⟩ : ByteArray), (⟨#[105, 110, 118, 97, 108, 105, 100]⟩ : ByteArray), (⟨#[102, 117, 116, 117, 114, 101]⟩ : ByteArray), (⟨#[111, 108, 100]⟩ : ByteArray), (⟨#[115, 101, 113]⟩ : ByteArray), (⟨#[108, 97, 114, 103, 101]⟩ : ByteArray), (⟨#[110, 111, 100, 111, 99]⟩ : ByteArray), (⟨#[104, 97, 118, 101]⟩ : ByteArray), (⟨#[110, 111, 115, 117, 98]⟩ : ByteArray), (⟨#[101, 118, 105, 99, 116, 101, 100]⟩ : ByteArray), (⟨#[102, 117, 108, 108]⟩ : ByteArray), (⟨#[98, 117, 115, 121]⟩ : ByteArray), (⟨#[99, 108, 111, 115, 101, 100]⟩ : ByteArray)].length : Int)) <| some (el [(⟨#[111, 107]⟩ : ByteArray), (⟨#[105, 110, 118, 97, 108, 105, 100]⟩ : ByteArray), (⟨#[102, 117, 116, 117, 114, 101]⟩ : ByteArray), (⟨#[111, 108, 100]⟩ : ByteArray), (⟨#[115, 101, 113]⟩ : ByteArray), (⟨#[108, 97, 114, 103, 101]⟩ : ByteArray), (⟨#[110, 111, 100, 111, 99]⟩ : ByteArray), (⟨#[104, 97, 118, 101]⟩ : ByteArray), (⟨#[110, 111, 115, 117, 98]⟩ : ByteArray), (⟨#[101, 118, 105, 99, 116, 101, 100]⟩ : ByteArray), (⟨#[102, 117, 108, 108]⟩ : ByteArray), (⟨#[98, 117, 115, 121]⟩ : ByteArray), (⟨#[99, 108, 111, 115, 101, 100]⟩ : ByteArray)] code.toNat))
theorem ct_spec_OtName (w : World) (X S : Bs) (code : Int) (hS : ∀ b, S b → b < w.heap.size ∧ ¬ X b)  (oL : Sep [] X w) {r : ByteArray} (hx : x_spec_OtName code = some r) :
    Ret Try.prog 23 [(.int .i64 code)] w (fun u w' => ∃ _ : Unit, u = (.string r) ∧ Gives X S w [] [] w') := by
  unfold x_spec_OtName at hx
  refine enter Try.func23 rfl Try.ntmps23 (by kernel_rfl) rfl ?_
  have hM := St.enter oL hS
  refine wc_seq ?_
  refine wc_region ?_
  refine wv rfl (r_assign rfl) ?_
  refine wl_nil ?_
  refine sq_n ?_
  refine wc_seq ?_
  refine wc_seq ?_
  refine wc_region ?_
  refine wv rfl (r_move rfl) ?_
  obtain ⟨r21, h22, hx⟩ := bind_some' hx
  refine w_call rfl rfl (hM.callV fun X S oL hS hR hO => ct_spec_l01In _ X S code (0 : Int) (12 : Int) hS  oL h22) ?_
  rintro _ w23 ⟨rfl, hR24⟩
  have hM := hM.call hR24
  refine wv rfl (r_not rfl) ?_
  refine wl_nil ?_
  refine sq_n ?_
  refine wc_cond rfl (fun hc26 => ?_) (fun hc26 => ?_)
  · replace hx := xif_t hc26 hx
    refine wc_seq ?_
    refine wc_region ?_
    refine wv rfl (r_assign rfl) ?_
    refine wl_nil ?_
    refine sq_n ?_
    refine wc_ret ?_
    refine sq_ret ?_
    obtain rfl := Option.some.inj hx
    refine fin_ret [(.string (⟨#[]⟩ : ByteArray))] ⟨rfl, trivial⟩ ?_
    replace hM := hM.t0
    have hM := hM.fewer rsN
    exact ⟨(), rfl, hM.gives⟩
  · replace hx := xif_f hc26 hx
    refine wc_skip ?_
    refine sq_n ?_
    refine wc_seq ?_
    refine wc_region ?_
    refine w_ex rfl (x_lit (f := fT) (own := []) [(⟨#[111, 107]⟩ : ByteArray), (⟨#[105, 110, 118, 97, 108, 105, 100]⟩ : ByteArray), (⟨#[102, 117, 116, 117, 114, 101]⟩ : ByteArray), (⟨#[111, 108, 100]⟩ : ByteArray), (⟨#[115, 101, 113]⟩ : ByteArray), (⟨#[108, 97, 114, 103, 101]⟩ : ByteArray), (⟨#[110, 111, 100, 111, 99]⟩ : ByteArray), (⟨#[104, 97, 118, 101]⟩ : ByteArray), (⟨#[110, 111, 115, 117, 98]⟩ : ByteArray), (⟨#[101, 118, 105, 99, 116, 101, 100]⟩ : ByteArray), (⟨#[102, 117, 108, 108]⟩ : ByteArray), (⟨#[98, 117, 115, 121]⟩ : ByteArray), (⟨#[99, 108, 111, 115, 101, 100]⟩ : ByteArray)] [(.string (⟨#[111, 107]⟩ : ByteArray)), (.string (⟨#[105, 110, 118, 97, 108, 105, 100]⟩ : ByteArray)), (.string (⟨#[102, 117, 116, 117, 114, 101]⟩ : ByteArray)), (.string (⟨#[111, 108, 100]⟩ : ByteArray)), (.string (⟨#[115, 101, 113]⟩ : ByteArray)), (.string (⟨#[108, 97, 114, 103, 101]⟩ : ByteArray)), (.string (⟨#[110, 111, 100, 111, 99]⟩ : ByteArray)), (.string (⟨#[104, 97, 118, 101]⟩ : ByteArray)), (.string (⟨#[110, 111, 115, 117, 98]⟩ : ByteArray)), (.string (⟨#[101, 118, 105, 99, 116, 101, 100]⟩ : ByteArray)), (.string (⟨#[102, 117, 108, 108]⟩ : ByteArray)), (.string (⟨#[98, 117, 115, 121]⟩ : ByteArray)), (.string (⟨#[99, 108, 111, 115, 101, 100]⟩ : ByteArray))] 13 Try.underlying88 sz9 (fun _ => rfl) rfl rfl rfl rfl rfl (by kernel_rfl) (fun _ => zP (pV _ rfl) (zP (pV _ rfl) (zP (pV _ rfl) (zP (pV _ rfl) (zP (pV _ rfl) (zP (pV _ rfl) (zP (pV _ rfl) (zP (pV _ rfl) (zP (pV _ rfl) (zP (pV _ rfl) (zP (pV _ rfl) (zP (pV _ rfl) (zP (pV _ rfl) zN))))))))))))) hM ?_); intro s29 w28 hR30 hM
    refine wv rfl (r_move rfl) ?_
    obtain ⟨hg35, hx⟩ := xg_some hx
    have hi34 : code.toNat < [(⟨#[111, 107]⟩ : ByteArray), (⟨#[105, 110, 118, 97, 108, 105, 100]⟩ : ByteArray), (⟨#[102, 117, 116, 117, 114, 101]⟩ : ByteArray), (⟨#[111, 108, 100]⟩ : ByteArray), (⟨#[115, 101, 113]⟩ : ByteArray), (⟨#[108, 97, 114, 103, 101]⟩ : ByteArray), (⟨#[110, 111, 100, 111, 99]⟩ : ByteArray), (⟨#[104, 97, 118, 101]⟩ : ByteArray), (⟨#[110, 111, 115, 117, 98]⟩ : ByteArray), (⟨#[101, 118, 105, 99, 116, 101, 100]⟩ : ByteArray), (⟨#[102, 117, 108, 108]⟩ : ByteArray), (⟨#[98, 117, 115, 121]⟩ : ByteArray), (⟨#[99, 108, 111, 115, 101, 100]⟩ : ByteArray)].length := by omega
    refine wv rfl (r_ixC Try.underlying88 sz9 rfl rfl (hM.seeO (.head _)) hg35) ?_
    refine wv rfl (r_ld Try.underlying9 rfl rfl (Cs.get (i := code.toNat) (j := 0) (hM.seeO (.head _)) (fun _ => rfl) hi34 rfl)) ?_
    refine wv rfl (r_assign rfl) ?_
    refine wl_nil ?_
    refine sq_n ?_
    refine wc_ret ?_
    obtain rfl := Option.some.inj hx
    refine fin_ret [(.string (el [(⟨#[111, 107]⟩ : ByteArray), (⟨#[105, 110, 118, 97, 108, 105, 100]⟩ : ByteArray), (⟨#[102, 117, 116, 117, 114, 101]⟩ : ByteArray), (⟨#[111, 108, 100]⟩ : ByteArray), (⟨#[115, 101, 113]⟩ : ByteArray), (⟨#[108, 97, 114, 103, 101]⟩ : ByteArray), (⟨#[110, 111, 100, 111, 99]⟩ : ByteArray), (⟨#[104, 97, 118, 101]⟩ : ByteArray), (⟨#[110, 111, 115, 117, 98]⟩ : ByteArray), (⟨#[101, 118, 105, 99, 116, 101, 100]⟩ : ByteArray), (⟨#[102, 117, 108, 108]⟩ : ByteArray), (⟨#[98, 117, 115, 121]⟩ : ByteArray), (⟨#[99, 108, 111, 115, 101, 100]⟩ : ByteArray)] code.toNat))] ⟨rfl, trivial⟩ ?_
    replace hM := hM.t0
    have hM := hM.fewer rsN
    exact ⟨(), rfl, hM.gives⟩

noncomputable def x_spec_TaskText (t : DTask) : Option ByteArray :=
  Option.bind (x_spec_ClName t.c.kind) fun r9 => xg (r9.size + (⟨#[32]⟩ : ByteArray).size ≤ 9223372036854775807) <| Option.bind (x_spec_PcName t.pc) fun r16 => xg ((r9 ++ (⟨#[32]⟩ : ByteArray)).size + r16.size ≤ 9223372036854775807) <| Option.bind (bif decide (t.pc = 3) then (some true) else (some (decide (t.pc = 4)))) fun c28 => bif c28 then (xg (((r9 ++ (⟨#[32]⟩ : ByteArray)) ++ r16).size + (⟨#[32]⟩ : ByteArray).size ≤ 9223372036854775807) <| Option.bind (x_spec_OtName t.a.code) fun r42 => xg ((((r9 ++ (⟨#[32]⟩ : ByteArray)) ++ r16) ++ (⟨#[32]⟩ : ByteArray)).size + r42.size ≤ 9223372036854775807) <| some ((((r9 ++ (⟨#[32]⟩ : ByteArray)) ++ r16) ++ (⟨#[32]⟩ : ByteArray)) ++ r42)) else (some ((r9 ++ (⟨#[32]⟩ : ByteArray)) ++ r16))
theorem ct_spec_TaskText (w : World) (X S : Bs) (t : DTask) (s_t_5 : Sv) (s_t_6 : Sv) (s_t_13 : Sv) (s_t_14 : Sv) (hS : ∀ b, S b → b < w.heap.size ∧ ¬ X b) (a_t_5 : (cSl 3 fDPart t.c.o).rd S w s_t_5.v) (a_t_6 : (cSl 1 fI t.c.text).rd S w s_t_6.v) (a_t_13 : (cSl 1 fI t.a.text).rd S w s_t_13.v) (a_t_14 : (cSl 3 fDEntry t.a.list).rd S w s_t_14.v) (oL : Sep [] X w) {r : ByteArray} (hx : x_spec_TaskText t = some r) :
    Ret Try.prog 6 [(.agg #[(.int .i64 t.c.kind), (.string t.c.doc), (.int .i64 t.c.client), (.int .i64 t.c.seq), (.int .i64 t.c.n), s_t_5.v, s_t_6.v, (.int .i64 t.pc), (.int .i64 t.inv), (.int .i64 t.lin), (.int .i64 t.res), (.int .i64 t.a.code), (.int .i64 t.a.rev), s_t_13.v, s_t_14.v])] w (fun u w' => ∃ _ : Unit, u = (.string r) ∧ Gives X S w [] [] w') := by
  unfold x_spec_TaskText at hx
  refine enter Try.func6 rfl Try.ntmps6 (by kernel_rfl) rfl ?_
  have hM := St.enter oL hS
  have hM := hM.addE (r := rV s_t_5.v (cSl 3 fDPart t.c.o)) a_t_5
  have hM := hM.addE (r := rV s_t_6.v (cSl 1 fI t.c.text)) a_t_6
  have hM := hM.addE (r := rV s_t_13.v (cSl 1 fI t.a.text)) a_t_13
  have hM := hM.addE (r := rV s_t_14.v (cSl 3 fDEntry t.a.list)) a_t_14
  refine wc_seq ?_
  refine wc_region ?_
  refine w_ex rfl (x_box rfl hM ?_); intro b52 w51 hR53 hM
  replace hM : St ⟨w, X, S⟩ [oBox b52 #[(.int .i64 t.c.kind), (.string t.c.doc), (.int .i64 t.c.client), (.int .i64 t.c.seq), (.int .i64 t.c.n), s_t_5.v, s_t_6.v, (.int .i64 t.pc), (.int .i64 t.inv), (.int .i64 t.lin), (.int .i64 t.res), (.int .i64 t.a.code), (.int .i64 t.a.rev), s_t_13.v, s_t_14.v] 40] [rV s_t_14.v (cSl 3 fDEntry t.a.list), rV s_t_13.v (cSl 1 fI t.a.text), rV s_t_6.v (cSl 1 fI t.c.text), rV s_t_5.v (cSl 3 fDPart t.c.o)] _ := hM
  refine wv rfl (r_assign rfl) ?_
  refine wl_nil ?_
  refine sq_n ?_
  refine wc_seq ?_
  refine wc_draw [(0, 0), (1, 0), (2, 0), (3, 0), (4, 0), (5, 0), (6, 0), (7, 0), (8, 0), (9, 0)] Try_mixed (by kernel_rfl) rfl (by kernel_rfl) rfl ?_
  refine ov rfl (fun w' h' => r_fld Try.underlying40 rfl rfl sz35 rfl) ?_
  refine ov rfl (fun w' h' => r_fld Try.underlying35 rfl rfl sz3 rfl) ?_
  refine ov rfl (fun w' h' => r_ldB Try.underlying3 rfl rfl (hM.call h') (.head _) rfl) ?_
  obtain ⟨r59, h60, hx⟩ := bind_some' hx
  refine oc rfl rfl (fun w' h' => (hM.call h').callV fun X S oL hS hR hO => ct_spec_ClName _ X S t.c.kind hS  oL h60) ?_
  obtain ⟨hg63, hx⟩ := xg_some hx
  refine ov rfl (fun w' h' => r_adds rfl rfl hg63) ?_
  refine ov rfl (fun w' h' => r_fld Try.underlying40 rfl rfl sz3 rfl) ?_
  refine ov rfl (fun w' h' => r_ldB Try.underlying3 rfl rfl (hM.call h') (.head _) rfl) ?_
  obtain ⟨r66, h67, hx⟩ := bind_some' hx
  refine oc rfl rfl (fun w' h' => (hM.call h').callV fun X S oL hS hR hO => ct_spec_PcName _ X S t.pc hS  oL h67) ?_
  obtain ⟨hg70, hx⟩ := xg_some hx
  refine ov rfl (fun w' h' => r_adds rfl rfl hg70) ?_
  refine ov rfl (fun w' h' => r_assign rfl) ?_
  refine o_nil fun w72 hw73 => ?_
  have hM := hM.call hw73
  refine sq_n ?_
  refine wc_seq ?_
  refine wc_seq ?_
  refine wc_region ?_
  refine wv rfl (r_fld Try.underlying40 rfl rfl sz3 rfl) ?_
  refine wv rfl (r_ldB Try.underlying3 rfl rfl hM (.head _) rfl) ?_
  refine wv rfl (r_eql rfl rfl) ?_
  refine wv rfl (r_move rfl) ?_
  obtain ⟨c78, hx, hx83⟩ := bind_some' hx
  refine wl_mid 4 (fun _ : Unit => [(20, (.bool c78)), (1, (.pointer (some ⟨b52, 0, none⟩))), (3, (.string ((r59 ++ (⟨#[32]⟩ : ByteArray)) ++ r66)))]) (fun _ w' => St ⟨w, X, S⟩ [oBox b52 #[(.int .i64 t.c.kind), (.string t.c.doc), (.int .i64 t.c.client), (.int .i64 t.c.seq), (.int .i64 t.c.n), s_t_5.v, s_t_6.v, (.int .i64 t.pc), (.int .i64 t.inv), (.int .i64 t.lin), (.int .i64 t.res), (.int .i64 t.a.code), (.int .i64 t.a.rev), s_t_13.v, s_t_14.v] 40] [rV s_t_14.v (cSl 3 fDEntry t.a.list), rV s_t_13.v (cSl 1 fI t.a.text), rV s_t_6.v (cSl 1 fI t.c.text), rV s_t_5.v (cSl 3 fDPart t.c.o)] w') ?_ ?_
  · rcases Bool.eq_false_or_eq_true (decide (t.pc = 3)) with hg79 | hg79
    · replace hx := xif_t hg79 hx
      refine gs rfl (isB_no hg79) rfl ?_
      refine gs rfl (isB_no hg79) rfl ?_
      refine gs rfl (isB_no hg79) rfl ?_
      refine wv rfl (p_t rfl hg79 rfl) ?_
      obtain rfl := Option.some.inj hx
      exact mid_nil () ⟨rfl, rfl, rfl, trivial⟩ hM
    · replace hx := xif_f hg79 hx
      refine gv rfl hg79 rfl (r_fld Try.underlying40 rfl rfl sz3 rfl) ?_
      refine gv rfl hg79 rfl (r_ldB Try.underlying3 rfl rfl hM (.head _) rfl) ?_
      refine gv rfl hg79 rfl (r_eql rfl rfl) ?_
      refine wv rfl (p_f rfl hg79 rfl) ?_
      obtain rfl := Option.some.inj hx
      exact mid_nil () ⟨rfl, rfl, rfl, trivial⟩ hM
  rintro _ w87 hM
  replace hx := hx83
  refine wl_nil ?_
  refine sq_n ?_
  refine wc_cond rfl (fun hc88 => ?_) (fun hc88 => ?_)
  · replace hx := xif_t hc88 hx
    refine wc_seq ?_
    refine wc_region ?_
    refine wv rfl (r_move rfl) ?_
    obtain ⟨hg91, hx⟩ := xg_some hx
    refine wv rfl (r_adds rfl rfl hg91) ?_
    refine wv rfl (r_fld Try.underlying40 rfl rfl sz38 rfl) ?_
    refine wv rfl (r_fld Try.underlying38 rfl rfl sz3 rfl) ?_
    refine wv rfl (r_ldB Try.underlying3 rfl rfl hM (.head _) rfl) ?_
    obtain ⟨r95, h96, hx⟩ := bind_some' hx
    refine w_call rfl rfl (hM.callV fun X S oL hS hR hO => ct_spec_OtName _ X S t.a.code hS  oL h96) ?_
    rintro _ w97 ⟨rfl, hR98⟩
    have hM := hM.call hR98
    obtain ⟨hg100, hx⟩ := xg_some hx
    refine wv rfl (r_adds rfl rfl hg100) ?_
    refine wv rfl (r_assign rfl) ?_
    refine wl_nil ?_
    refine sq_n ?_
    refine wc_ret ?_
    refine sq_ret ?_
    obtain rfl := Option.some.inj hx
    refine fin_ret [(.string ((((r59 ++ (⟨#[32]⟩ : ByteArray)) ++ r66) ++ (⟨#[32]⟩ : ByteArray)) ++ r95))] ⟨rfl, trivial⟩ ?_
    replace hM := hM.t0
    have hM := hM.fewer rsN
    exact ⟨(), rfl, hM.gives⟩
  · replace hx := xif_f hc88 hx
    refine wc_skip ?_
    refine sq_n ?_
    refine wc_seq ?_
    refine wc_region ?_
    refine wv rfl (r_move rfl) ?_
    refine wv rfl (r_assign rfl) ?_
    refine wl_nil ?_
    refine sq_n ?_
    refine wc_ret ?_
    obtain rfl := Option.some.inj hx
    refine fin_ret [(.string ((r59 ++ (⟨#[32]⟩ : ByteArray)) ++ r66))] ⟨rfl, trivial⟩ ?_
    replace hM := hM.t0
    have hM := hM.fewer rsN
    exact ⟨(), rfl, hM.gives⟩

end Go.Proofs.Ytbapjbanejimiaa
