/- Walks of functions of this program (printed by a program of ours, by the rules of the layer). No condition. -/
import Derived.Test.YtjbonmmmcnpjiaaGreatDoorTX
import Derived.Test.YtjbonmmmcnpjiaaGreatDoorNw
import Derived.Test.YtjbonmmmcnpjiaaGreatDoorNx
import Derived.Test.YtjbonmmmcnpjiaaGreatDoorNy
namespace Go.Proofs.YtjbonmmmcnpjiaaGreatDoor
open Go.RowKit

noncomputable def x_impl_ClName (k : Int) : Option ByteArray :=
  Option.bind (x_impl_within k 1 8) fun r8 => bif !r8 then (some (⟨#[]⟩ : ByteArray)) else (xg (inI (k - 1)) <| xg (0 ≤ (k - 1) ∧ (k - 1) < ([(⟨#[111, 112, 101, 110]⟩ : ByteArray), (⟨#[115, 117, 98, 109, 105, 116]⟩ : ByteArray), (⟨#[102, 101, 116, 99, 104]⟩ : ByteArray), (⟨#[115, 110, 97, 112]⟩ : ByteArray), (⟨#[115, 117, 98]⟩ : ByteArray), (⟨#[112, 111, 108, 108]⟩ : ByteArray), (⟨#[114, 101, 115, 121, 110, 99]⟩ : ByteArray), (⟨#[115, 104, 117, 116]⟩ : ByteArray)].length : Int)) <| some (el [(⟨#[111, 112, 101, 110]⟩ : ByteArray), (⟨#[115, 117, 98, 109, 105, 116]⟩ : ByteArray), (⟨#[102, 101, 116, 99, 104]⟩ : ByteArray), (⟨#[115, 110, 97, 112]⟩ : ByteArray), (⟨#[115, 117, 98]⟩ : ByteArray), (⟨#[112, 111, 108, 108]⟩ : ByteArray), (⟨#[114, 101, 115, 121, 110, 99]⟩ : ByteArray), (⟨#[115, 104, 117, 116]⟩ : ByteArray)] ((k - 1).toNat)))
theorem ct_impl_ClName (w : World) (X S : Bs) (k : Int) (hS : SX X S w)  (oL : Sep [] X w) {r : ByteArray} (hx : x_impl_ClName k = some r) :
 Ret Tryz.prog 66 [(iv k)] w (KV X S w (.string r)) := by
 unfold x_impl_ClName at hx
 refine enter Tryz.func66 rfl Tryz.ntmps66 (by kernel_rfl) rfl ?_
 have hM := St.enter oL hS
 refine wc_sr <| was rfl rfl <| wl_sq <| wc_sr ?_
 refine w_ex rfl (x_lit (f := fT) (own := []) [(⟨#[111, 112, 101, 110]⟩ : ByteArray), (⟨#[115, 117, 98, 109, 105, 116]⟩ : ByteArray), (⟨#[102, 101, 116, 99, 104]⟩ : ByteArray), (⟨#[115, 110, 97, 112]⟩ : ByteArray), (⟨#[115, 117, 98]⟩ : ByteArray), (⟨#[112, 111, 108, 108]⟩ : ByteArray), (⟨#[114, 101, 115, 121, 110, 99]⟩ : ByteArray), (⟨#[115, 104, 117, 116]⟩ : ByteArray)] [(.string (⟨#[111, 112, 101, 110]⟩ : ByteArray)), (.string (⟨#[115, 117, 98, 109, 105, 116]⟩ : ByteArray)), (.string (⟨#[102, 101, 116, 99, 104]⟩ : ByteArray)), (.string (⟨#[115, 110, 97, 112]⟩ : ByteArray)), (.string (⟨#[115, 117, 98]⟩ : ByteArray)), (.string (⟨#[112, 111, 108, 108]⟩ : ByteArray)), (.string (⟨#[114, 101, 115, 121, 110, 99]⟩ : ByteArray)), (.string (⟨#[115, 104, 117, 116]⟩ : ByteArray))] 8 u44 sz9 (fun _ => rfl) rfl rfl rfl rfl rfl (by kernel_rfl) (fun _ => zP (pV _ rfl) (zP (pV _ rfl) (zP (pV _ rfl) (zP (pV _ rfl) (zP (pV _ rfl) (zP (pV _ rfl) (zP (pV _ rfl) (zP (pV _ rfl) zN)))))))) hM ?_); intro s24 w23 hR25 hM
 refine was rfl rfl <| wl_sq <| wc_seq <| wc_sr <| wmv rfl rfl <| bs hx fun _ h30 hx => w_cv hM rfl rfl (fun X S oL hS hR hO => ct_impl_within _ X S k (1 : Int) (8 : Int) hS  oL h30) fun _ hM => wv rfl (r_not rfl) <| wl_sq ?_
 refine wcx hx rfl (fun hx => ?_) (fun hx => ?_)
 refine wc_sr <| was rfl rfl <| wl_sq <| wc_ret <| sq_ret ?_
 obtain rfl := oi hx
 exact fin_u [(.string (⟨#[]⟩ : ByteArray))] hM ⟨rfl, trivial⟩ rfl
 refine wc_skip <| sq_n <| wc_sr <| wmv rfl rfl <| wmv rfl rfl <| xgs hx fun hg38 hx => wv rfl (r_sub rfl rfl hg38) <| xgs hx fun hg41 hx => ?_
 have hi40 : ((k - 1).toNat) < [(⟨#[111, 112, 101, 110]⟩ : ByteArray), (⟨#[115, 117, 98, 109, 105, 116]⟩ : ByteArray), (⟨#[102, 101, 116, 99, 104]⟩ : ByteArray), (⟨#[115, 110, 97, 112]⟩ : ByteArray), (⟨#[115, 117, 98]⟩ : ByteArray), (⟨#[112, 111, 108, 108]⟩ : ByteArray), (⟨#[114, 101, 115, 121, 110, 99]⟩ : ByteArray), (⟨#[115, 104, 117, 116]⟩ : ByteArray)].length := by omega
 refine wv rfl (r_ixC u44 sz9 rfl rfl (hM.seeO m0) hg41) <| wv rfl (r_ld u9 rfl rfl (Cs.get (i := ((k - 1).toNat)) (j := 0) (hM.seeO m0) (fun _ => rfl) hi40 rfl)) <| was rfl rfl <| wl_sq <| wc_ret ?_
 obtain rfl := oi hx
 exact fin_u [(.string (el [(⟨#[111, 112, 101, 110]⟩ : ByteArray), (⟨#[115, 117, 98, 109, 105, 116]⟩ : ByteArray), (⟨#[102, 101, 116, 99, 104]⟩ : ByteArray), (⟨#[115, 110, 97, 112]⟩ : ByteArray), (⟨#[115, 117, 98]⟩ : ByteArray), (⟨#[112, 111, 108, 108]⟩ : ByteArray), (⟨#[114, 101, 115, 121, 110, 99]⟩ : ByteArray), (⟨#[115, 104, 117, 116]⟩ : ByteArray)] ((k - 1).toNat)))] hM ⟨rfl, trivial⟩ rfl

noncomputable def x_spec_ClName (k : Int) : Option ByteArray :=
  Option.bind (x_spec_l12Kind k) fun r3 => bif !r3 then (some (⟨#[]⟩ : ByteArray)) else (xg (0 ≤ k ∧ k < ([(⟨#[]⟩ : ByteArray), (⟨#[111, 112, 101, 110]⟩ : ByteArray), (⟨#[115, 117, 98, 109, 105, 116]⟩ : ByteArray), (⟨#[102, 101, 116, 99, 104]⟩ : ByteArray), (⟨#[115, 110, 97, 112]⟩ : ByteArray), (⟨#[115, 117, 98]⟩ : ByteArray), (⟨#[112, 111, 108, 108]⟩ : ByteArray), (⟨#[114, 101, 115, 121, 110, 99]⟩ : ByteArray), (⟨#[115, 104, 117, 116]⟩ : ByteArray)].length : Int)) <| some (el [(⟨#[]⟩ : ByteArray), (⟨#[111, 112, 101, 110]⟩ : ByteArray), (⟨#[115, 117, 98, 109, 105, 116]⟩ : ByteArray), (⟨#[102, 101, 116, 99, 104]⟩ : ByteArray), (⟨#[115, 110, 97, 112]⟩ : ByteArray), (⟨#[115, 117, 98]⟩ : ByteArray), (⟨#[112, 111, 108, 108]⟩ : ByteArray), (⟨#[114, 101, 115, 121, 110, 99]⟩ : ByteArray), (⟨#[115, 104, 117, 116]⟩ : ByteArray)] k.toNat))
theorem ct_spec_ClName (w : World) (X S : Bs) (k : Int) (hS : SX X S w)  (oL : Sep [] X w) {r : ByteArray} (hx : x_spec_ClName k = some r) :
 Ret Tryz.prog 51 [(iv k)] w (KV X S w (.string r)) := by
 unfold x_spec_ClName at hx
 refine enter Tryz.func51 rfl Tryz.ntmps51 (by kernel_rfl) rfl ?_
 have hM := St.enter oL hS
 refine wc_sr <| was rfl rfl <| wl_sq <| wc_seq <| wc_sr <| wmv rfl rfl <| bs hx fun _ h21 hx => w_cv hM rfl rfl (fun X S oL hS hR hO => ct_spec_l12Kind _ X S k hS  oL h21) fun _ hM => wv rfl (r_not rfl) <| wl_sq ?_
 refine wcx hx rfl (fun hx => ?_) (fun hx => ?_)
 refine wc_sr <| was rfl rfl <| wl_sq <| wc_ret <| sq_ret ?_
 obtain rfl := oi hx
 exact fin_u [(.string (⟨#[]⟩ : ByteArray))] hM ⟨rfl, trivial⟩ rfl
 refine wc_skip <| sq_n <| wc_sr ?_
 refine w_ex rfl (x_lit (f := fT) (own := []) [(⟨#[]⟩ : ByteArray), (⟨#[111, 112, 101, 110]⟩ : ByteArray), (⟨#[115, 117, 98, 109, 105, 116]⟩ : ByteArray), (⟨#[102, 101, 116, 99, 104]⟩ : ByteArray), (⟨#[115, 110, 97, 112]⟩ : ByteArray), (⟨#[115, 117, 98]⟩ : ByteArray), (⟨#[112, 111, 108, 108]⟩ : ByteArray), (⟨#[114, 101, 115, 121, 110, 99]⟩ : ByteArray), (⟨#[115, 104, 117, 116]⟩ : ByteArray)] [(.string (⟨#[]⟩ : ByteArray)), (.string (⟨#[111, 112, 101, 110]⟩ : ByteArray)), (.string (⟨#[115, 117, 98, 109, 105, 116]⟩ : ByteArray)), (.string (⟨#[102, 101, 116, 99, 104]⟩ : ByteArray)), (.string (⟨#[115, 110, 97, 112]⟩ : ByteArray)), (.string (⟨#[115, 117, 98]⟩ : ByteArray)), (.string (⟨#[112, 111, 108, 108]⟩ : ByteArray)), (.string (⟨#[114, 101, 115, 121, 110, 99]⟩ : ByteArray)), (.string (⟨#[115, 104, 117, 116]⟩ : ByteArray))] 9 u44 sz9 (fun _ => rfl) rfl rfl rfl rfl rfl (by kernel_rfl) (fun _ => zP (pV _ rfl) (zP (pV _ rfl) (zP (pV _ rfl) (zP (pV _ rfl) (zP (pV _ rfl) (zP (pV _ rfl) (zP (pV _ rfl) (zP (pV _ rfl) (zP (pV _ rfl) zN))))))))) hM ?_); intro s27 w26 hR28 hM
 refine wmv rfl rfl <| xgs hx fun hg33 hx => ?_
 have hi32 : k.toNat < [(⟨#[]⟩ : ByteArray), (⟨#[111, 112, 101, 110]⟩ : ByteArray), (⟨#[115, 117, 98, 109, 105, 116]⟩ : ByteArray), (⟨#[102, 101, 116, 99, 104]⟩ : ByteArray), (⟨#[115, 110, 97, 112]⟩ : ByteArray), (⟨#[115, 117, 98]⟩ : ByteArray), (⟨#[112, 111, 108, 108]⟩ : ByteArray), (⟨#[114, 101, 115, 121, 110, 99]⟩ : ByteArray), (⟨#[115, 104, 117, 116]⟩ : ByteArray)].length := by omega
 refine wv rfl (r_ixC u44 sz9 rfl rfl (hM.seeO m0) hg33) <| wv rfl (r_ld u9 rfl rfl (Cs.get (i := k.toNat) (j := 0) (hM.seeO m0) (fun _ => rfl) hi32 rfl)) <| was rfl rfl <| wl_sq <| wc_ret ?_
 obtain rfl := oi hx
 exact fin_u [(.string (el [(⟨#[]⟩ : ByteArray), (⟨#[111, 112, 101, 110]⟩ : ByteArray), (⟨#[115, 117, 98, 109, 105, 116]⟩ : ByteArray), (⟨#[102, 101, 116, 99, 104]⟩ : ByteArray), (⟨#[115, 110, 97, 112]⟩ : ByteArray), (⟨#[115, 117, 98]⟩ : ByteArray), (⟨#[112, 111, 108, 108]⟩ : ByteArray), (⟨#[114, 101, 115, 121, 110, 99]⟩ : ByteArray), (⟨#[115, 104, 117, 116]⟩ : ByteArray)] k.toNat))] hM ⟨rfl, trivial⟩ rfl

noncomputable def x_impl_dotted_b0 (_l : List Int) (_k25 : Nat) (x63 : Int) (out26 : List ByteArray) : Option (Lr (List ByteArray) (List ByteArray)) :=
  Option.bind (x_impl_NumText x63) fun r53 => xg (out26.length < 1099511627776) <| some (Lr.go (out26 ++ [r53]))
noncomputable def x_impl_dotted_f0 (l : List Int) (k25 : Nat) (s64 : List ByteArray) : Option (Lr (List ByteArray) (List ByteArray)) := x_impl_dotted_b0 l k25 (el l k25) s64
noncomputable def x_impl_dotted (l : List Int) : Option ByteArray :=
  Option.bind (eachN (x_impl_dotted_f0 l) (fun (s64 : List ByteArray) => (s64 : List ByteArray)) l.length 0 []) fun (y65 : List ByteArray) => Option.bind (x_Join y65 (⟨#[46]⟩ : ByteArray)) fun r69 => some r69
theorem ct_impl_dotted (w : World) (X S : Bs) (l : List Int) (s_l : Sv) (hS : SX X S w) (hT : rTab.ok S w) (a_l_0 : (cSl 1 fI l).rd S w s_l.v) (oL : Sep [] X w) {r : ByteArray} (hx : x_impl_dotted l = some r) :
 Ret Tryz.prog 132 [s_l.v] w (KV X S w (.string r)) := by
 unfold x_impl_dotted at hx
 refine enter Tryz.func132 rfl Tryz.ntmps132 (by kernel_rfl) rfl ?_
 have hM := St.enter oL hS
 have hM := hM.addE (r := rTab) hT
 have hM := hM.addV a_l_0
 refine wc_sr <| was rfl rfl <| wl_sq <| wc_sr <| was rfl rfl <| wl_sq <| wc_seq <| wc_sr <| wmv rfl rfl <| wv rfl (r_lenC u26 rfl (hM.seeR m0)) <| wmv rfl rfl <| wl_sq <| wc_block <| bs hx fun y78 hx hx79 => ?_
 have hM := hM.nil0 (T := ByteArray) 1 fT
 have hM := hM.fewer (rsC m1 (rsC m0 rsN))
 replace hM : St ⟨w, X, S⟩ [oC (cSl 1 fT ([] : List ByteArray)) nS.v] [rTab, rV s_l.v (cSl 1 fI l)] _ := hM
 have hl87 := Cs.le (hM.seeR m1)
 refine wc_loop (un fun (m84 : Nat) => un fun (k85 : Nat) => un fun (out81 : List ByteArray) => fun (s83 : Sv) => [(3, s83.v), (6, s_l.v), (7, (iv (l.length : Int))), (8, (iv (k85 : Int)))]) (un fun (m84 : Nat) => un fun (k85 : Nat) => un fun (out81 : List ByteArray) => fun (s83 : Sv) w' => St ⟨w, X, S⟩ [oC (cSl 1 fT out81) s83.v] [rTab, rV s_l.v (cSl 1 fI l)] w' ∧ eachN _ _ m84 k85 out81 = some y78 ∧ k85 + m84 = l.length) (fun p => p.1) (l.length, 0, [], nS) ⟨rfl, rfl, rfl, rfl, trivial⟩ ⟨hM, hx, Nat.zero_add _⟩ ?_
 rintro ⟨m84, k85, out81, s83⟩ w88 ⟨hM, hx, hk86⟩
 refine wc_sr <| wv rfl (r_lss rfl rfl) <| wl_sq <| wc_seq ?_
 refine wc_cond rfl (fun hc90 => ?_) (fun hc90 => ?_)
 replace hc90 := of_decide_eq_true hc90
 obtain ⟨m91, z92, rfl, hk86, hx, hx93⟩ := eachN_step hx hk86 hc90
 unfold x_impl_dotted_f0 x_impl_dotted_b0 at hx
 try dsimp only at hx
 refine wc_skip <| sq_n <| wc_seq <| wc_block <| wc_sr ?_
 have hi95 : k85 < l.length := by omega
 refine wv rfl (r_ixC u26 sz3 rfl rfl (hM.seeR m1) ⟨by omega, hc90⟩) <| wv rfl (r_ld u3 rfl rfl (Cs.get (i := k85) (j := 0) (hM.seeR m1) (fun _ => rfl) hi95 rfl)) <| was rfl rfl <| wl_sq <| wc_region <| wmv rfl rfl <| wmv rfl rfl <| bs hx fun r100 h101 hx => w_cv hM rfl rfl (fun X S oL hS hR hO => ct_impl_NumText _ X S (el l k85) hS (hR _ m0) oL h101) fun _ hM => xgs hx fun hg106 hx => ?_
 refine w_push (f := fT) r100 rfl rfl u44 sz9 rfl rfl rfl rfl (fun _ => rfl) hM (fun _ => zP (pV _ rfl) zN) rfl hg106 rfl ?_; intro u104 s105 w103 hM
 refine was rfl rfl <| wl_nil <| bk_n <| sq_n <| wc_region <| wv rfl (r_add rfl rfl ⟨by omega, by omega⟩) <| wmv rfl rfl <| wl_nil ?_
 cases hx
 exact lp_end (m91, k85 + 1, out81 ++ [r100], s105) (Nat.lt_succ_self _) ⟨rfl, rfl, rfl, rfl, trivial⟩ ⟨hM, hx93, hk86⟩
 replace hc90 := of_decide_eq_false hc90
 obtain rfl := eachN_end hx hk86 hc90
 refine wc_exit <| sq_exit <| lp1_exit ?_
 replace hx := hx79
 refine bk_here <| sq_n <| wc_sr <| wmv rfl rfl <| bs hx fun r111 h112 hx => w_cv hM rfl rfl (fun X S oL hS hR hO => ct_Join _ X S out81 s83 (⟨#[46]⟩ : ByteArray) hS (seeA hO m0) oL h112) fun _ hM => was rfl rfl <| wl_sq <| wc_ret ?_
 obtain rfl := oi hx
 exact fin_u [(.string r111)] hM ⟨rfl, trivial⟩ rfl

noncomputable def x_impl_SignText (l : List Int) : Option ByteArray :=
  Option.bind (x_impl_SignsOk l) fun r3 => bif !r3 then (some (⟨#[]⟩ : ByteArray)) else (bif decide ((l.length : Int) = 0) then (some (⟨#[45]⟩ : ByteArray)) else (Option.bind (x_impl_dotted l) fun r15 => some r15))
theorem ct_impl_SignText (w : World) (X S : Bs) (l : List Int) (s_l : Sv) (hS : SX X S w) (hT : rTab.ok S w) (a_l_0 : (cSl 1 fI l).rd S w s_l.v) (oL : Sep [] X w) {r : ByteArray} (hx : x_impl_SignText l = some r) :
 Ret Tryz.prog 85 [s_l.v] w (KV X S w (.string r)) := by
 unfold x_impl_SignText at hx
 refine enter Tryz.func85 rfl Tryz.ntmps85 (by kernel_rfl) rfl ?_
 have hM := St.enter oL hS
 have hM := hM.addE (r := rTab) hT
 have hM := hM.addV a_l_0
 refine wc_sr <| was rfl rfl <| wl_sq <| wc_seq <| wc_block <| wc_sr <| wmv rfl rfl <| bs hx fun _ h22 hx => w_cv hM rfl rfl (fun X S oL hS hR hO => ct_impl_SignsOk _ X S l s_l hS (hR _ m0) oL h22) fun _ hM => wv rfl (r_not rfl) <| was rfl rfl <| wl_sq ?_
 refine wcx hx rfl (fun hx => ?_) (fun hx => ?_)
 refine wc_sr <| was rfl rfl <| wl_sq <| wc_ret <| bk_ret <| sq_ret ?_
 obtain rfl := oi hx
 exact fin_u [(.string (⟨#[]⟩ : ByteArray))] hM ⟨rfl, trivial⟩ rfl
 refine wc_sr <| wmv rfl rfl <| wv rfl (r_lenC u26 rfl (hM.seeR m0)) <| wv rfl (r_eql rfl rfl) <| was rfl rfl <| wl_sq ?_
 refine wcx hx rfl (fun hx => ?_) (fun hx => ?_)
 refine wc_sr <| was rfl rfl <| wl_sq <| wc_ret <| bk_ret <| sq_ret ?_
 obtain rfl := oi hx
 exact fin_u [(.string (⟨#[45]⟩ : ByteArray))] hM ⟨rfl, trivial⟩ rfl
 refine wc_skip <| bk_n <| sq_n <| wc_sr <| wmv rfl rfl <| bs hx fun r35 h36 hx => w_cv hM rfl rfl (fun X S oL hS hR hO => ct_impl_dotted _ X S l s_l hS (hR _ m1) (hR _ m0) oL h36) fun _ hM => was rfl rfl <| wl_sq <| wc_ret ?_
 obtain rfl := oi hx
 exact fin_u [(.string r35)] hM ⟨rfl, trivial⟩ rfl

noncomputable def x_spec_SignText_b0 (_l : List Int) (k16 : Nat) (x84 : Int) (s17 : ByteArray) : Option (Lr ByteArray ByteArray) :=
  bif decide ((0 : Int) < (k16 : Int)) then (xg (s17.size + (⟨#[46]⟩ : ByteArray).size ≤ 9223372036854775807) <| Option.bind (x_spec_NumText x84) fun r66 => xg ((s17 ++ (⟨#[46]⟩ : ByteArray)).size + r66.size ≤ 9223372036854775807) <| some (Lr.go ((s17 ++ (⟨#[46]⟩ : ByteArray)) ++ r66))) else (Option.bind (x_spec_NumText x84) fun r76 => xg (s17.size + r76.size ≤ 9223372036854775807) <| some (Lr.go (s17 ++ r76)))
noncomputable def x_spec_SignText_f0 (l : List Int) (k16 : Nat) (s85 : ByteArray) : Option (Lr ByteArray ByteArray) := x_spec_SignText_b0 l k16 (el l k16) s85
noncomputable def x_spec_SignText (l : List Int) : Option ByteArray :=
  Option.bind (x_spec_SignsOk l) fun r3 => bif !r3 then (some (⟨#[]⟩ : ByteArray)) else (bif decide ((l.length : Int) = 0) then (some (⟨#[45]⟩ : ByteArray)) else (Option.bind (eachN (x_spec_SignText_f0 l) (fun (s85 : ByteArray) => (s85 : ByteArray)) l.length 0 (⟨#[]⟩ : ByteArray)) fun (y86 : ByteArray) => some y86))
theorem ct_spec_SignText (w : World) (X S : Bs) (l : List Int) (s_l : Sv) (hS : SX X S w) (a_l_0 : (cSl 1 fI l).rd S w s_l.v) (oL : Sep [] X w) {r : ByteArray} (hx : x_spec_SignText l = some r) :
 Ret Tryz.prog 79 [s_l.v] w (KV X S w (.string r)) := by
 unfold x_spec_SignText at hx
 refine enter Tryz.func79 rfl Tryz.ntmps79 (by kernel_rfl) rfl ?_
 have hM := (St.enter oL hS).addV a_l_0
 refine wc_sr <| was rfl rfl <| wl_sq <| wc_seq <| wc_sr <| wmv rfl rfl <| bs hx fun _ h92 hx => w_cv hM rfl rfl (fun X S oL hS hR hO => ct_spec_SignsOk _ X S l s_l hS (hR _ m0) oL h92) fun _ hM => wv rfl (r_not rfl) <| wl_sq ?_
 refine wcx hx rfl (fun hx => ?_) (fun hx => ?_)
 refine wc_sr <| was rfl rfl <| wl_sq <| wc_ret <| sq_ret ?_
 obtain rfl := oi hx
 exact fin_u [(.string (⟨#[]⟩ : ByteArray))] hM ⟨rfl, trivial⟩ rfl
 refine wc_skip <| sq_n <| wc_seq <| wc_sr <| wmv rfl rfl <| wv rfl (r_lenC u26 rfl (hM.seeR m0)) <| wv rfl (r_eql rfl rfl) <| wl_sq ?_
 refine wcx hx rfl (fun hx => ?_) (fun hx => ?_)
 refine wc_sr <| was rfl rfl <| wl_sq <| wc_ret <| sq_ret ?_
 obtain rfl := oi hx
 exact fin_u [(.string (⟨#[45]⟩ : ByteArray))] hM ⟨rfl, trivial⟩ rfl
 refine wc_skip <| sq_n <| wc_sr <| was rfl rfl <| wl_sq <| wc_seq <| wc_sr <| wmv rfl rfl <| wv rfl (r_lenC u26 rfl (hM.seeR m0)) <| wmv rfl rfl <| wl_sq <| wc_block <| bs hx fun y106 hx hx107 => ?_
 have hl112 := Cs.le (hM.seeR m0)
 refine wc_loop (un fun (m109 : Nat) => un fun (k110 : Nat) => fun (s108 : ByteArray) => [(3, (.string s108)), (12, s_l.v), (13, (iv (l.length : Int))), (14, (iv (k110 : Int)))]) (un fun (m109 : Nat) => un fun (k110 : Nat) => fun (s108 : ByteArray) w' => St ⟨w, X, S⟩ [] [rV s_l.v (cSl 1 fI l)] w' ∧ eachN _ _ m109 k110 s108 = some y106 ∧ k110 + m109 = l.length) (fun p => p.1) (l.length, 0, (⟨#[]⟩ : ByteArray)) ⟨rfl, rfl, rfl, rfl, trivial⟩ ⟨hM, hx, Nat.zero_add _⟩ ?_
 rintro ⟨m109, k110, s108⟩ w113 ⟨hM, hx, hk111⟩
 refine wc_sr <| wv rfl (r_lss rfl rfl) <| wl_sq <| wc_seq ?_
 refine wc_cond rfl (fun hc115 => ?_) (fun hc115 => ?_)
 replace hc115 := of_decide_eq_true hc115
 obtain ⟨m116, z117, rfl, hk111, hx, hx118⟩ := eachN_step hx hk111 hc115
 unfold x_spec_SignText_f0 x_spec_SignText_b0 at hx
 try dsimp only at hx
 refine wc_skip <| sq_n <| wc_seq <| wc_block <| wc_sr <| wmv rfl rfl ?_
 have hi121 : k110 < l.length := by omega
 refine wv rfl (r_ixC u26 sz3 rfl rfl (hM.seeR m0) ⟨by omega, hc115⟩) <| wv rfl (r_ld u3 rfl rfl (Cs.get (i := k110) (j := 0) (hM.seeR m0) (fun _ => rfl) hi121 rfl)) <| was rfl rfl <| was rfl rfl <| wl_sq <| wc_seq <| wc_sr <| wmv rfl rfl <| wv rfl (r_gtr rfl rfl) <| wl_sq ?_
 refine wcx hx rfl (fun hx => ?_) (fun hx => ?_)
 refine wc_region <| wmv rfl rfl <| xgs hx fun hg130 hx => wv rfl (r_adds rfl rfl hg130) <| was rfl rfl <| wl_sq <| wc_region <| wmv rfl rfl <| wmv rfl rfl <| bs hx fun r134 h135 hx => w_cv hM rfl rfl (fun X S oL hS hR hO => ct_spec_NumText _ X S (el l k110) hS  oL h135) fun _ hM => xgs hx fun hg138 hx => wv rfl (r_adds rfl rfl hg138) <| was rfl rfl ?_
 refine wl_nil <| bk_n <| sq_n <| wc_region <| wv rfl (r_add rfl rfl ⟨by omega, by omega⟩) <| wmv rfl rfl <| wl_nil ?_
 cases hx
 exact lp_end (m116, k110 + 1, (s108 ++ (⟨#[46]⟩ : ByteArray)) ++ r134) (Nat.lt_succ_self _) ⟨rfl, rfl, rfl, rfl, trivial⟩ ⟨hM, hx118, hk111⟩
 refine wc_skip <| sq_n <| wc_region <| wmv rfl rfl <| wmv rfl rfl <| bs hx fun r144 h145 hx => w_cv hM rfl rfl (fun X S oL hS hR hO => ct_spec_NumText _ X S (el l k110) hS  oL h145) fun _ hM => xgs hx fun hg148 hx => wv rfl (r_adds rfl rfl hg148) <| was rfl rfl <| wl_nil <| bk_n <| sq_n <| wc_region ?_
 refine wv rfl (r_add rfl rfl ⟨by omega, by omega⟩) <| wmv rfl rfl <| wl_nil ?_
 cases hx
 exact lp_end (m116, k110 + 1, s108 ++ r144) (Nat.lt_succ_self _) ⟨rfl, rfl, rfl, rfl, trivial⟩ ⟨hM, hx118, hk111⟩
 replace hc115 := of_decide_eq_false hc115
 obtain rfl := eachN_end hx hk111 hc115
 refine wc_exit <| sq_exit <| lp1_exit ?_
 replace hx := hx107
 refine bk_here <| sq_n <| wc_sr <| wmv rfl rfl <| was rfl rfl <| wl_sq <| wc_ret ?_
 obtain rfl := oi hx
 exact fin_u [(.string s108)] hM ⟨rfl, trivial⟩ rfl

noncomputable def x_impl_OpText_b0 (_r10 : List DPart) (_k82 : Nat) (x212 : DPart) (out83 : List ByteArray) : Option (Lr (List ByteArray) (List ByteArray)) :=
  bif decide ((x212.kind) = 1) then (Option.bind (x_impl_NumText (x212.n)) fun r168 => xg ((⟨#[107]⟩ : ByteArray).size + r168.size ≤ 9223372036854775807) <| xg (out83.length < 1099511627776) <| some (Lr.go (out83 ++ [(⟨#[107]⟩ : ByteArray) ++ r168]))) else (bif decide ((x212.kind) = 3) then (Option.bind (x_impl_NumText (x212.n)) fun r185 => xg ((⟨#[100]⟩ : ByteArray).size + r185.size ≤ 9223372036854775807) <| xg (out83.length < 1099511627776) <| some (Lr.go (out83 ++ [(⟨#[100]⟩ : ByteArray) ++ r185]))) else (Option.bind (x_impl_dotted (x212.signs)) fun r200 => xg ((⟨#[112]⟩ : ByteArray).size + r200.size ≤ 9223372036854775807) <| xg (out83.length < 1099511627776) <| some (Lr.go (out83 ++ [(⟨#[112]⟩ : ByteArray) ++ r200]))))
noncomputable def x_impl_OpText_f0 (r10 : List DPart) (k82 : Nat) (s213 : List ByteArray) : Option (Lr (List ByteArray) (List ByteArray)) := x_impl_OpText_b0 r10 k82 (el r10 k82) s213
noncomputable def x_impl_OpText (o : List DPart) : Option ByteArray :=
  Option.bind (x_impl_OpOk o) fun r3 => bif !r3 then (some (⟨#[]⟩ : ByteArray)) else (Option.bind (x_impl_OpNorm o) fun r10 => Option.bind (eachN (x_impl_OpText_f0 r10) (fun (s213 : List ByteArray) => (s213 : List ByteArray)) r10.length 0 []) fun (y214 : List ByteArray) => bif decide ((y214.length : Int) = 0) then (some (⟨#[45]⟩ : ByteArray)) else (Option.bind (x_Join y214 (⟨#[32]⟩ : ByteArray)) fun r222 => some r222))
theorem ct_impl_OpText (w : World) (X S : Bs) (o : List DPart) (s_o : Sv) (hS : SX X S w) (hT : rTab.ok S w) (a_o_0 : (cSl 3 fDPart o).rd S w s_o.v) (oL : Sep [] X w) {r : ByteArray} (hx : x_impl_OpText o = some r) :
 Ret Tryz.prog 134 [s_o.v] w (KV X S w (.string r)) := by
 unfold x_impl_OpText at hx
 refine enter Tryz.func134 rfl Tryz.ntmps134 (by kernel_rfl) rfl ?_
 have hM := St.enter oL hS
 have hM := hM.addE (r := rTab) hT
 have hM := hM.addV a_o_0
 refine wc_sr <| was rfl rfl <| wl_sq <| wc_seq <| wc_sr <| wmv rfl rfl <| bs hx fun _ h229 hx => w_cv hM rfl rfl (fun X S oL hS hR hO => ct_impl_OpOk _ X S o s_o hS (hR _ m0) oL h229) fun _ hM => wv rfl (r_not rfl) <| wl_sq ?_
 refine wcx hx rfl (fun hx => ?_) (fun hx => ?_)
 refine wc_sr <| was rfl rfl <| wl_sq <| wc_ret <| sq_ret ?_
 obtain rfl := oi hx
 exact fin_u [(.string (⟨#[]⟩ : ByteArray))] hM ⟨rfl, trivial⟩ rfl
 refine wc_skip <| sq_n <| wc_sr <| was rfl rfl <| wl_sq <| wc_seq <| wc_sr <| wmv rfl rfl <| bs hx fun r236 h237 hx => w_call rfl rfl (hM.callO (l := []) fun X S oL hS hR hO => ct_impl_OpNorm _ X S o s_o hS (hR _ m0) oL h237) ?_
 rintro _ w238 ⟨s239, rfl, hM⟩
 dsimp only [List.cons_append, List.nil_append] at hM
 refine wv rfl (r_lenC u57 rfl (hM.seeO m0)) <| wmv rfl rfl <| wl_sq <| wc_block <| bs hx fun y243 hx hx244 => ?_
 have hM := hM.nil0 (T := ByteArray) 1 fT
 replace hM := hM.p1
 have hM := hM.fewer (rsC m1 rsN)
 replace hM : St ⟨w, X, S⟩ [oC (cSl 3 fDPart r236) s239.v, oC (cSl 1 fT ([] : List ByteArray)) nS.v] [rTab] _ := hM
 have hl252 := Cs.le (hM.seeO m0)
 refine wc_loop (un fun (m249 : Nat) => un fun (k250 : Nat) => un fun (out246 : List ByteArray) => fun (s248 : Sv) => [(3, s248.v), (10, s239.v), (11, (iv (r236.length : Int))), (12, (iv (k250 : Int)))]) (un fun (m249 : Nat) => un fun (k250 : Nat) => un fun (out246 : List ByteArray) => fun (s248 : Sv) w' => St ⟨w, X, S⟩ [oC (cSl 3 fDPart r236) s239.v, oC (cSl 1 fT out246) s248.v] [rTab] w' ∧ eachN _ _ m249 k250 out246 = some y243 ∧ k250 + m249 = r236.length) (fun p => p.1) (r236.length, 0, [], nS) ⟨rfl, rfl, rfl, rfl, trivial⟩ ⟨hM, hx, Nat.zero_add _⟩ ?_
 rintro ⟨m249, k250, out246, s248⟩ w253 ⟨hM, hx, hk251⟩
 refine wc_sr <| wv rfl (r_lss rfl rfl) <| wl_sq <| wc_seq ?_
 refine wc_cond rfl (fun hc255 => ?_) (fun hc255 => ?_)
 replace hc255 := of_decide_eq_true hc255
 obtain ⟨m256, z257, rfl, hk251, hx, hx258⟩ := eachN_step hx hk251 hc255
 unfold x_impl_OpText_f0 x_impl_OpText_b0 at hx
 try dsimp only at hx
 refine wc_skip <| sq_n <| wc_seq <| wc_block <| wc_sr ?_
 have hi260 : k250 < r236.length := by omega
 refine wv rfl (r_ixC u57 sz156 rfl rfl (hM.seeO m0) ⟨by omega, hc255⟩) ?_
 obtain ⟨s262, hM, hc263⟩ := hM.leafO (i := k250) (j := 2) (fun _ => rfl) hi260 rfl
 refine wv rfl (r_ldC (o := k250 * 3) u156 sz156 rfl (us := [(iv ((el r236 k250).kind)), (iv ((el r236 k250).n)), s262.v]) rfl (hM.seeOV m0) hi260 ⟨(Cs.get (i := k250) (j := 0) (hM.seeOV m0) (fun _ => rfl) hi260 rfl), (Cs.get (i := k250) (j := 1) (hM.seeOV m0) (fun _ => rfl) hi260 rfl), (hc263 _ (Rel.refl _)), trivial⟩) ?_
 refine w_ex rfl (x_alloc sz156 hM ?_); intro b265 w264 hR266 hM
 refine w_exu (x_stB #[(iv ((el r236 k250).kind)), (iv ((el r236 k250).n)), s262.v] sz156 rfl rfl rfl rfl rfl rfl hM ?_); intro w268 hM
 refine wl_sq <| wc_sr <| wv rfl (r_fld u156 rfl rfl sz3 rfl) <| wv rfl (r_ldB u3 rfl rfl hM m0 rfl) <| wl_sq <| wc_block <| wc_sr <| wv rfl (r_eql rfl rfl) <| was rfl rfl <| wl_sq ?_
 refine wcx hx rfl (fun hx => ?_) (fun hx => ?_)
 refine wc_region <| wmv rfl rfl <| wv rfl (r_fld u156 rfl rfl sz3 rfl) <| wv rfl (r_ldB u3 rfl rfl hM m0 rfl) <| bs hx fun r278 h279 hx => w_cv hM rfl rfl (fun X S oL hS hR hO => ct_impl_NumText _ X S ((el r236 k250).n) hS (hR _ m0) oL h279) fun _ hM => xgs hx fun hg282 hx => wv rfl (r_adds rfl rfl hg282) ?_
 replace hM := hM.p2
 refine xgs hx fun hg286 hx => ?_
 refine w_push (f := fT) ((⟨#[107]⟩ : ByteArray) ++ r278) rfl rfl u44 sz9 rfl rfl rfl rfl (fun _ => rfl) hM (fun _ => zP (pV _ rfl) zN) rfl hg286 rfl ?_; intro u284 s285 w283 hM
 refine was rfl rfl <| wl_nil <| bk_n <| bk_n <| sq_n <| wc_region <| wv rfl (r_add rfl rfl ⟨by omega, by omega⟩) <| wmv rfl rfl <| wl_nil ?_
 cases hx
 replace hM := hM.p2
 replace hM : St ⟨w, X, S⟩ [oC (cSl 3 fDPart r236) s239.v, oC (cSl 1 fT (out246 ++ [(⟨#[107]⟩ : ByteArray) ++ r278])) s285.v, oBox b265 #[(iv ((el r236 k250).kind)), (iv ((el r236 k250).n)), s262.v] 156] [rTab] _ := hM.unview
 replace hM := hM.t2
 exact lp_end (m256, k250 + 1, out246 ++ [(⟨#[107]⟩ : ByteArray) ++ r278], s285) (Nat.lt_succ_self _) ⟨rfl, rfl, rfl, rfl, trivial⟩ ⟨hM, hx258, hk251⟩
 refine wc_sr <| wv rfl (r_eql rfl rfl) <| was rfl rfl <| wl_sq ?_
 refine wcx hx rfl (fun hx => ?_) (fun hx => ?_)
 refine wc_region <| wmv rfl rfl <| wv rfl (r_fld u156 rfl rfl sz3 rfl) <| wv rfl (r_ldB u3 rfl rfl hM m0 rfl) <| bs hx fun r296 h297 hx => w_cv hM rfl rfl (fun X S oL hS hR hO => ct_impl_NumText _ X S ((el r236 k250).n) hS (hR _ m0) oL h297) fun _ hM => xgs hx fun hg300 hx => wv rfl (r_adds rfl rfl hg300) ?_
 replace hM := hM.p2
 refine xgs hx fun hg304 hx => ?_
 refine w_push (f := fT) ((⟨#[100]⟩ : ByteArray) ++ r296) rfl rfl u44 sz9 rfl rfl rfl rfl (fun _ => rfl) hM (fun _ => zP (pV _ rfl) zN) rfl hg304 rfl ?_; intro u302 s303 w301 hM
 refine was rfl rfl <| wl_nil <| bk_n <| bk_n <| sq_n <| wc_region <| wv rfl (r_add rfl rfl ⟨by omega, by omega⟩) <| wmv rfl rfl <| wl_nil ?_
 cases hx
 replace hM := hM.p2
 replace hM : St ⟨w, X, S⟩ [oC (cSl 3 fDPart r236) s239.v, oC (cSl 1 fT (out246 ++ [(⟨#[100]⟩ : ByteArray) ++ r296])) s303.v, oBox b265 #[(iv ((el r236 k250).kind)), (iv ((el r236 k250).n)), s262.v] 156] [rTab] _ := hM.unview
 replace hM := hM.t2
 exact lp_end (m256, k250 + 1, out246 ++ [(⟨#[100]⟩ : ByteArray) ++ r296], s303) (Nat.lt_succ_self _) ⟨rfl, rfl, rfl, rfl, trivial⟩ ⟨hM, hx258, hk251⟩
 refine wc_region <| wmv rfl rfl <| wv rfl (r_fld u156 rfl rfl sz26 rfl) <| wv rfl (r_ldB u26 rfl rfl hM m0 rfl) <| bs hx fun r311 h312 hx => w_cv hM rfl rfl (fun X S oL hS hR hO => ct_impl_dotted _ X S ((el r236 k250).signs) s262 hS (hR _ m0) (seeAW hO m1 m0) oL h312) fun _ hM => xgs hx fun hg315 hx => wv rfl (r_adds rfl rfl hg315) ?_
 replace hM := hM.p2
 refine xgs hx fun hg319 hx => ?_
 refine w_push (f := fT) ((⟨#[112]⟩ : ByteArray) ++ r311) rfl rfl u44 sz9 rfl rfl rfl rfl (fun _ => rfl) hM (fun _ => zP (pV _ rfl) zN) rfl hg319 rfl ?_; intro u317 s318 w316 hM
 refine was rfl rfl <| wl_nil <| bk_n <| bk_n <| sq_n <| wc_region <| wv rfl (r_add rfl rfl ⟨by omega, by omega⟩) <| wmv rfl rfl <| wl_nil ?_
 cases hx
 replace hM := hM.p2
 replace hM : St ⟨w, X, S⟩ [oC (cSl 3 fDPart r236) s239.v, oC (cSl 1 fT (out246 ++ [(⟨#[112]⟩ : ByteArray) ++ r311])) s318.v, oBox b265 #[(iv ((el r236 k250).kind)), (iv ((el r236 k250).n)), s262.v] 156] [rTab] _ := hM.unview
 replace hM := hM.t2
 exact lp_end (m256, k250 + 1, out246 ++ [(⟨#[112]⟩ : ByteArray) ++ r311], s318) (Nat.lt_succ_self _) ⟨rfl, rfl, rfl, rfl, trivial⟩ ⟨hM, hx258, hk251⟩
 replace hc255 := of_decide_eq_false hc255
 obtain rfl := eachN_end hx hk251 hc255
 refine wc_exit <| sq_exit <| lp1_exit ?_
 replace hx := hx244
 refine bk_here <| sq_n <| wc_seq <| wc_sr <| wmv rfl rfl <| wv rfl (r_lenC u44 rfl (hM.seeO m1)) <| wv rfl (r_eql rfl rfl) <| wl_sq ?_
 refine wcx hx rfl (fun hx => ?_) (fun hx => ?_)
 refine wc_sr <| was rfl rfl <| wl_sq <| wc_ret <| sq_ret ?_
 obtain rfl := oi hx
 exact fin_u [(.string (⟨#[45]⟩ : ByteArray))] hM ⟨rfl, trivial⟩ rfl
 refine wc_skip <| sq_n <| wc_sr <| wmv rfl rfl <| bs hx fun r329 h330 hx => w_cv hM rfl rfl (fun X S oL hS hR hO => ct_Join _ X S out246 s248 (⟨#[32]⟩ : ByteArray) hS (seeA hO m1) oL h330) fun _ hM => was rfl rfl <| wl_sq <| wc_ret ?_
 obtain rfl := oi hx
 exact fin_u [(.string r329)] hM ⟨rfl, trivial⟩ rfl

noncomputable def x_spec_OpText_b0 (_r10 : List DPart) (_k17 : Nat) (x235 : DPart) (s18 : ByteArray) : Option (Lr ByteArray ByteArray) :=
  bif !decide (s18 = (⟨#[]⟩ : ByteArray)) then (xg (s18.size + (⟨#[32]⟩ : ByteArray).size ≤ 9223372036854775807) <| bif decide ((x235.kind) = 1) then (xg ((s18 ++ (⟨#[32]⟩ : ByteArray)).size + (⟨#[107]⟩ : ByteArray).size ≤ 9223372036854775807) <| Option.bind (x_spec_NumText (x235.n)) fun r154 => xg (((s18 ++ (⟨#[32]⟩ : ByteArray)) ++ (⟨#[107]⟩ : ByteArray)).size + r154.size ≤ 9223372036854775807) <| some (Lr.go (((s18 ++ (⟨#[32]⟩ : ByteArray)) ++ (⟨#[107]⟩ : ByteArray)) ++ r154))) else (bif decide ((x235.kind) = 2) then (xg ((s18 ++ (⟨#[32]⟩ : ByteArray)).size + (⟨#[112]⟩ : ByteArray).size ≤ 9223372036854775807) <| Option.bind (x_spec_SignText (x235.signs)) fun r169 => xg (((s18 ++ (⟨#[32]⟩ : ByteArray)) ++ (⟨#[112]⟩ : ByteArray)).size + r169.size ≤ 9223372036854775807) <| some (Lr.go (((s18 ++ (⟨#[32]⟩ : ByteArray)) ++ (⟨#[112]⟩ : ByteArray)) ++ r169))) else (xg ((s18 ++ (⟨#[32]⟩ : ByteArray)).size + (⟨#[100]⟩ : ByteArray).size ≤ 9223372036854775807) <| Option.bind (x_spec_NumText (x235.n)) fun r182 => xg (((s18 ++ (⟨#[32]⟩ : ByteArray)) ++ (⟨#[100]⟩ : ByteArray)).size + r182.size ≤ 9223372036854775807) <| some (Lr.go (((s18 ++ (⟨#[32]⟩ : ByteArray)) ++ (⟨#[100]⟩ : ByteArray)) ++ r182))))) else (bif decide ((x235.kind) = 1) then (xg (s18.size + (⟨#[107]⟩ : ByteArray).size ≤ 9223372036854775807) <| Option.bind (x_spec_NumText (x235.n)) fun r199 => xg ((s18 ++ (⟨#[107]⟩ : ByteArray)).size + r199.size ≤ 9223372036854775807) <| some (Lr.go ((s18 ++ (⟨#[107]⟩ : ByteArray)) ++ r199))) else (bif decide ((x235.kind) = 2) then (xg (s18.size + (⟨#[112]⟩ : ByteArray).size ≤ 9223372036854775807) <| Option.bind (x_spec_SignText (x235.signs)) fun r214 => xg ((s18 ++ (⟨#[112]⟩ : ByteArray)).size + r214.size ≤ 9223372036854775807) <| some (Lr.go ((s18 ++ (⟨#[112]⟩ : ByteArray)) ++ r214))) else (xg (s18.size + (⟨#[100]⟩ : ByteArray).size ≤ 9223372036854775807) <| Option.bind (x_spec_NumText (x235.n)) fun r227 => xg ((s18 ++ (⟨#[100]⟩ : ByteArray)).size + r227.size ≤ 9223372036854775807) <| some (Lr.go ((s18 ++ (⟨#[100]⟩ : ByteArray)) ++ r227)))))
noncomputable def x_spec_OpText_f0 (r10 : List DPart) (k17 : Nat) (s236 : ByteArray) : Option (Lr ByteArray ByteArray) := x_spec_OpText_b0 r10 k17 (el r10 k17) s236
noncomputable def x_spec_OpText (o : List DPart) : Option ByteArray :=
  Option.bind (x_spec_OpOk o) fun r3 => bif !r3 then (some (⟨#[]⟩ : ByteArray)) else (Option.bind (x_spec_OpNorm o) fun r10 => Option.bind (eachN (x_spec_OpText_f0 r10) (fun (s236 : ByteArray) => (s236 : ByteArray)) r10.length 0 (⟨#[]⟩ : ByteArray)) fun (y237 : ByteArray) => bif decide (y237 = (⟨#[]⟩ : ByteArray)) then (some (⟨#[45]⟩ : ByteArray)) else (some y237))
theorem ct_spec_OpText (w : World) (X S : Bs) (o : List DPart) (s_o : Sv) (hS : SX X S w) (a_o_0 : (cSl 3 fDPart o).rd S w s_o.v) (oL : Sep [] X w) {r : ByteArray} (hx : x_spec_OpText o = some r) :
 Ret Tryz.prog 123 [s_o.v] w (KV X S w (.string r)) := by
 unfold x_spec_OpText at hx
 refine enter Tryz.func123 rfl Tryz.ntmps123 (by kernel_rfl) rfl ?_
 have hM := (St.enter oL hS).addV a_o_0
 refine wc_sr <| was rfl rfl <| wl_sq <| wc_seq <| wc_sr <| wmv rfl rfl <| bs hx fun _ h246 hx => w_cv hM rfl rfl (fun X S oL hS hR hO => ct_spec_OpOk _ X S o s_o hS (hR _ m0) oL h246) fun _ hM => wv rfl (r_not rfl) <| wl_sq ?_
 refine wcx hx rfl (fun hx => ?_) (fun hx => ?_)
 refine wc_sr <| was rfl rfl <| wl_sq <| wc_ret <| sq_ret ?_
 obtain rfl := oi hx
 exact fin_u [(.string (⟨#[]⟩ : ByteArray))] hM ⟨rfl, trivial⟩ rfl
 refine wc_skip <| sq_n <| wc_sr <| was rfl rfl <| wl_sq <| wc_seq <| wc_sr <| wmv rfl rfl <| bs hx fun r253 h254 hx => w_call rfl rfl (hM.callO (l := []) fun X S oL hS hR hO => ct_spec_OpNorm _ X S o s_o hS (hR _ m0) oL h254) ?_
 rintro _ w255 ⟨s256, rfl, hM⟩
 dsimp only [List.cons_append, List.nil_append] at hM
 refine wv rfl (r_lenC u57 rfl (hM.seeO m0)) <| wmv rfl rfl <| wl_sq <| wc_block <| bs hx fun y260 hx hx261 => ?_
 have hM := hM.fewer rsN
 replace hM : St ⟨w, X, S⟩ [oC (cSl 3 fDPart r253) s256.v] [] _ := hM
 have hl266 := Cs.le (hM.seeO m0)
 refine wc_loop (un fun (m263 : Nat) => un fun (k264 : Nat) => fun (s262 : ByteArray) => [(3, (.string s262)), (10, s256.v), (11, (iv (r253.length : Int))), (12, (iv (k264 : Int)))]) (un fun (m263 : Nat) => un fun (k264 : Nat) => fun (s262 : ByteArray) w' => St ⟨w, X, S⟩ [oC (cSl 3 fDPart r253) s256.v] [] w' ∧ eachN _ _ m263 k264 s262 = some y260 ∧ k264 + m263 = r253.length) (fun p => p.1) (r253.length, 0, (⟨#[]⟩ : ByteArray)) ⟨rfl, rfl, rfl, rfl, trivial⟩ ⟨hM, hx, Nat.zero_add _⟩ ?_
 rintro ⟨m263, k264, s262⟩ w267 ⟨hM, hx, hk265⟩
 refine wc_sr <| wv rfl (r_lss rfl rfl) <| wl_sq <| wc_seq ?_
 refine wc_cond rfl (fun hc269 => ?_) (fun hc269 => ?_)
 replace hc269 := of_decide_eq_true hc269
 obtain ⟨m270, z271, rfl, hk265, hx, hx272⟩ := eachN_step hx hk265 hc269
 unfold x_spec_OpText_f0 x_spec_OpText_b0 at hx
 try dsimp only at hx
 refine wc_skip <| sq_n <| wc_seq <| wc_block <| wc_sr ?_
 have hi274 : k264 < r253.length := by omega
 refine wv rfl (r_ixC u57 sz156 rfl rfl (hM.seeO m0) ⟨by omega, hc269⟩) ?_
 obtain ⟨s276, hM, hc277⟩ := hM.leafO (i := k264) (j := 2) (fun _ => rfl) hi274 rfl
 refine wv rfl (r_ldC (o := k264 * 3) u156 sz156 rfl (us := [(iv ((el r253 k264).kind)), (iv ((el r253 k264).n)), s276.v]) rfl (hM.seeOV m0) hi274 ⟨(Cs.get (i := k264) (j := 0) (hM.seeOV m0) (fun _ => rfl) hi274 rfl), (Cs.get (i := k264) (j := 1) (hM.seeOV m0) (fun _ => rfl) hi274 rfl), (hc277 _ (Rel.refl _)), trivial⟩) ?_
 refine w_ex rfl (x_alloc sz156 hM ?_); intro b279 w278 hR280 hM
 refine w_exu (x_stB #[(iv ((el r253 k264).kind)), (iv ((el r253 k264).n)), s276.v] sz156 rfl rfl rfl rfl rfl rfl hM ?_); intro w282 hM
 refine wl_sq <| wc_seq <| wc_sr <| wmv rfl rfl <| wv rfl (r_neqs rfl rfl) <| wl_sq ?_
 refine wcx hx rfl (fun hx => ?_) (fun hx => ?_)
 refine wc_region <| wmv rfl rfl <| xgs hx fun hg289 hx => wv rfl (r_adds rfl rfl hg289) <| was rfl rfl <| wl_sq <| wc_sr <| wv rfl (r_fld u156 rfl rfl sz3 rfl) <| wv rfl (r_ldB u3 rfl rfl hM m0 rfl) <| wl_sq <| wc_block <| wc_sr <| wv rfl (r_eql rfl rfl) <| was rfl rfl ?_
 refine wl_sq ?_
 refine wcx hx rfl (fun hx => ?_) (fun hx => ?_)
 refine wc_region <| wmv rfl rfl <| xgs hx fun hg298 hx => wv rfl (r_adds rfl rfl hg298) <| wv rfl (r_fld u156 rfl rfl sz3 rfl) <| wv rfl (r_ldB u3 rfl rfl hM m0 rfl) <| bs hx fun r301 h302 hx => w_cv hM rfl rfl (fun X S oL hS hR hO => ct_spec_NumText _ X S ((el r253 k264).n) hS  oL h302) fun _ hM => xgs hx fun hg305 hx => wv rfl (r_adds rfl rfl hg305) <| was rfl rfl <| wl_nil <| bk_n <| bk_n ?_
 refine sq_n <| wc_region <| wv rfl (r_add rfl rfl ⟨by omega, by omega⟩) <| wmv rfl rfl <| wl_nil ?_
 cases hx
 replace hM := hM.p1
 replace hM : St ⟨w, X, S⟩ [oC (cSl 3 fDPart r253) s256.v, oBox b279 #[(iv ((el r253 k264).kind)), (iv ((el r253 k264).n)), s276.v] 156] [] _ := hM.unview
 replace hM := hM.t1
 exact lp_end (m270, k264 + 1, ((s262 ++ (⟨#[32]⟩ : ByteArray)) ++ (⟨#[107]⟩ : ByteArray)) ++ r301) (Nat.lt_succ_self _) ⟨rfl, rfl, rfl, rfl, trivial⟩ ⟨hM, hx272, hk265⟩
 refine wc_sr <| wv rfl (r_eql rfl rfl) <| was rfl rfl <| wl_sq ?_
 refine wcx hx rfl (fun hx => ?_) (fun hx => ?_)
 refine wc_region <| wmv rfl rfl <| xgs hx fun hg314 hx => wv rfl (r_adds rfl rfl hg314) <| wv rfl (r_fld u156 rfl rfl sz26 rfl) <| wv rfl (r_ldB u26 rfl rfl hM m0 rfl) <| bs hx fun r317 h318 hx => w_cv hM rfl rfl (fun X S oL hS hR hO => ct_spec_SignText _ X S ((el r253 k264).signs) s276 hS (seeAW hO m1 m0) oL h318) fun _ hM => xgs hx fun hg321 hx => wv rfl (r_adds rfl rfl hg321) <| was rfl rfl <| wl_nil <| bk_n <| bk_n ?_
 refine sq_n <| wc_region <| wv rfl (r_add rfl rfl ⟨by omega, by omega⟩) <| wmv rfl rfl <| wl_nil ?_
 cases hx
 replace hM := hM.p1
 replace hM : St ⟨w, X, S⟩ [oC (cSl 3 fDPart r253) s256.v, oBox b279 #[(iv ((el r253 k264).kind)), (iv ((el r253 k264).n)), s276.v] 156] [] _ := hM.unview
 replace hM := hM.t1
 exact lp_end (m270, k264 + 1, ((s262 ++ (⟨#[32]⟩ : ByteArray)) ++ (⟨#[112]⟩ : ByteArray)) ++ r317) (Nat.lt_succ_self _) ⟨rfl, rfl, rfl, rfl, trivial⟩ ⟨hM, hx272, hk265⟩
 refine wc_region <| wmv rfl rfl <| xgs hx fun hg327 hx => wv rfl (r_adds rfl rfl hg327) <| wv rfl (r_fld u156 rfl rfl sz3 rfl) <| wv rfl (r_ldB u3 rfl rfl hM m0 rfl) <| bs hx fun r330 h331 hx => w_cv hM rfl rfl (fun X S oL hS hR hO => ct_spec_NumText _ X S ((el r253 k264).n) hS  oL h331) fun _ hM => xgs hx fun hg334 hx => wv rfl (r_adds rfl rfl hg334) <| was rfl rfl <| wl_nil <| bk_n <| bk_n ?_
 refine sq_n <| wc_region <| wv rfl (r_add rfl rfl ⟨by omega, by omega⟩) <| wmv rfl rfl <| wl_nil ?_
 cases hx
 replace hM := hM.p1
 replace hM : St ⟨w, X, S⟩ [oC (cSl 3 fDPart r253) s256.v, oBox b279 #[(iv ((el r253 k264).kind)), (iv ((el r253 k264).n)), s276.v] 156] [] _ := hM.unview
 replace hM := hM.t1
 exact lp_end (m270, k264 + 1, ((s262 ++ (⟨#[32]⟩ : ByteArray)) ++ (⟨#[100]⟩ : ByteArray)) ++ r330) (Nat.lt_succ_self _) ⟨rfl, rfl, rfl, rfl, trivial⟩ ⟨hM, hx272, hk265⟩
 refine wc_skip <| sq_n <| wc_sr <| wv rfl (r_fld u156 rfl rfl sz3 rfl) <| wv rfl (r_ldB u3 rfl rfl hM m0 rfl) <| wl_sq <| wc_block <| wc_sr <| wv rfl (r_eql rfl rfl) <| was rfl rfl <| wl_sq ?_
 refine wcx hx rfl (fun hx => ?_) (fun hx => ?_)
 refine wc_region <| wmv rfl rfl <| xgs hx fun hg345 hx => wv rfl (r_adds rfl rfl hg345) <| wv rfl (r_fld u156 rfl rfl sz3 rfl) <| wv rfl (r_ldB u3 rfl rfl hM m0 rfl) <| bs hx fun r348 h349 hx => w_cv hM rfl rfl (fun X S oL hS hR hO => ct_spec_NumText _ X S ((el r253 k264).n) hS  oL h349) fun _ hM => xgs hx fun hg352 hx => wv rfl (r_adds rfl rfl hg352) <| was rfl rfl <| wl_nil <| bk_n <| bk_n ?_
 refine sq_n <| wc_region <| wv rfl (r_add rfl rfl ⟨by omega, by omega⟩) <| wmv rfl rfl <| wl_nil ?_
 cases hx
 replace hM := hM.p1
 replace hM : St ⟨w, X, S⟩ [oC (cSl 3 fDPart r253) s256.v, oBox b279 #[(iv ((el r253 k264).kind)), (iv ((el r253 k264).n)), s276.v] 156] [] _ := hM.unview
 replace hM := hM.t1
 exact lp_end (m270, k264 + 1, (s262 ++ (⟨#[107]⟩ : ByteArray)) ++ r348) (Nat.lt_succ_self _) ⟨rfl, rfl, rfl, rfl, trivial⟩ ⟨hM, hx272, hk265⟩
 refine wc_sr <| wv rfl (r_eql rfl rfl) <| was rfl rfl <| wl_sq ?_
 refine wcx hx rfl (fun hx => ?_) (fun hx => ?_)
 refine wc_region <| wmv rfl rfl <| xgs hx fun hg361 hx => wv rfl (r_adds rfl rfl hg361) <| wv rfl (r_fld u156 rfl rfl sz26 rfl) <| wv rfl (r_ldB u26 rfl rfl hM m0 rfl) <| bs hx fun r364 h365 hx => w_cv hM rfl rfl (fun X S oL hS hR hO => ct_spec_SignText _ X S ((el r253 k264).signs) s276 hS (seeAW hO m1 m0) oL h365) fun _ hM => xgs hx fun hg368 hx => wv rfl (r_adds rfl rfl hg368) <| was rfl rfl <| wl_nil <| bk_n <| bk_n ?_
 refine sq_n <| wc_region <| wv rfl (r_add rfl rfl ⟨by omega, by omega⟩) <| wmv rfl rfl <| wl_nil ?_
 cases hx
 replace hM := hM.p1
 replace hM : St ⟨w, X, S⟩ [oC (cSl 3 fDPart r253) s256.v, oBox b279 #[(iv ((el r253 k264).kind)), (iv ((el r253 k264).n)), s276.v] 156] [] _ := hM.unview
 replace hM := hM.t1
 exact lp_end (m270, k264 + 1, (s262 ++ (⟨#[112]⟩ : ByteArray)) ++ r364) (Nat.lt_succ_self _) ⟨rfl, rfl, rfl, rfl, trivial⟩ ⟨hM, hx272, hk265⟩
 refine wc_region <| wmv rfl rfl <| xgs hx fun hg374 hx => wv rfl (r_adds rfl rfl hg374) <| wv rfl (r_fld u156 rfl rfl sz3 rfl) <| wv rfl (r_ldB u3 rfl rfl hM m0 rfl) <| bs hx fun r377 h378 hx => w_cv hM rfl rfl (fun X S oL hS hR hO => ct_spec_NumText _ X S ((el r253 k264).n) hS  oL h378) fun _ hM => xgs hx fun hg381 hx => wv rfl (r_adds rfl rfl hg381) <| was rfl rfl <| wl_nil <| bk_n <| bk_n ?_
 refine sq_n <| wc_region <| wv rfl (r_add rfl rfl ⟨by omega, by omega⟩) <| wmv rfl rfl <| wl_nil ?_
 cases hx
 replace hM := hM.p1
 replace hM : St ⟨w, X, S⟩ [oC (cSl 3 fDPart r253) s256.v, oBox b279 #[(iv ((el r253 k264).kind)), (iv ((el r253 k264).n)), s276.v] 156] [] _ := hM.unview
 replace hM := hM.t1
 exact lp_end (m270, k264 + 1, (s262 ++ (⟨#[100]⟩ : ByteArray)) ++ r377) (Nat.lt_succ_self _) ⟨rfl, rfl, rfl, rfl, trivial⟩ ⟨hM, hx272, hk265⟩
 replace hc269 := of_decide_eq_false hc269
 obtain rfl := eachN_end hx hk265 hc269
 refine wc_exit <| sq_exit <| lp1_exit ?_
 replace hx := hx261
 refine bk_here <| sq_n <| wc_seq <| wc_sr <| wmv rfl rfl <| wv rfl (r_eqls rfl rfl) <| wl_sq ?_
 refine wcx hx rfl (fun hx => ?_) (fun hx => ?_)
 refine wc_sr <| was rfl rfl <| wl_sq <| wc_ret <| sq_ret ?_
 obtain rfl := oi hx
 exact fin_u [(.string (⟨#[45]⟩ : ByteArray))] hM ⟨rfl, trivial⟩ rfl
 refine wc_skip <| sq_n <| wc_sr <| wmv rfl rfl <| was rfl rfl <| wl_sq <| wc_ret ?_
 obtain rfl := oi hx
 exact fin_u [(.string s262)] hM ⟨rfl, trivial⟩ rfl

end Go.Proofs.YtjbonmmmcnpjiaaGreatDoor
