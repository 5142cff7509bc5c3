/- Walks of functions of this program (printed by a program of ours, by the rules of the layer). No condition. -/
import Derived.Test.YtjbonmmmcnpjiaaGreatDoorH2
import Derived.Test.YtjbonmmmcnpjiaaGreatDoorNw
import Derived.Test.YtjbonmmmcnpjiaaGreatDoorNx
import Derived.Test.YtjbonmmmcnpjiaaGreatDoorNt
namespace Go.Proofs.YtjbonmmmcnpjiaaGreatDoor
open Go.RowKit

noncomputable def x_impl_NumText (n : Int) : Option ByteArray :=
  Option.bind (x_impl_within n 0 1000000000) fun r3 => bif !r3 then (some (⟨#[]⟩ : ByteArray)) else (Option.bind (x_Itoa n) fun r9 => some r9)
theorem ct_impl_NumText (w : World) (X S : Bs) (n : Int) (hS : SX X S w) (hT : rTab.ok S w) (oL : Sep [] X w) {r : ByteArray} (hx : x_impl_NumText n = some r) :
 Ret Tryz.prog 28 [(iv n)] w (KV X S w (.string r)) := by
 unfold x_impl_NumText at hx
 refine enter Tryz.func28 rfl Tryz.ntmps28 (by kernel_rfl) rfl ?_
 have hM := St.enter oL hS
 have hM := hM.addE (r := rTab) hT
 refine wc_sr <| was rfl rfl <| wl_sq <| wc_seq <| wc_sr <| wmv rfl rfl <| bs hx fun _ h16 hx => w_cv hM rfl rfl (fun X S oL hS hR hO => ct_impl_within _ X S n (0 : Int) (1000000000 : Int) hS  oL h16) fun _ hM => wv rfl (r_not rfl) <| wl_sq ?_
 refine wcx hx rfl (fun hx => ?_) (fun hx => ?_)
 refine wc_sr <| was rfl rfl <| wl_sq <| wc_ret <| sq_ret ?_
 obtain rfl := oi hx
 exact fin_u [(.string (⟨#[]⟩ : ByteArray))] hM ⟨rfl, trivial⟩ rfl
 refine wc_skip <| sq_n <| wc_sr <| wmv rfl rfl <| bs hx fun r22 h23 hx => w_cv hM rfl rfl (fun X S oL hS hR hO => ct_Itoa _ X S n hS (hR _ m0) oL h23) fun _ hM => was rfl rfl <| wl_sq <| wc_ret ?_
 obtain rfl := oi hx
 exact fin_u [(.string r22)] hM ⟨rfl, trivial⟩ rfl

noncomputable def x_spec_NumText_b0 (n9 : Int) (s10 : ByteArray) : Option (Lr (Int × ByteArray) (Int × ByteArray)) :=
  bif decide ((9 : Int) < n9) then (xg (0 ≤ n9 ∧ 0 < (10 : Int)) <| xg (inI (48 + (n9 % 10))) <| xg ((⟨[y8 (48 + (n9 % 10))].toArray⟩ : ByteArray).size + s10.size ≤ 9223372036854775807) <| xg (0 ≤ n9 ∧ n9 ≤ 9223372036854775807 ∧ 0 < (10 : Int)) <| some (Lr.go (n9 / 10, (⟨[y8 (48 + (n9 % 10))].toArray⟩ : ByteArray) ++ s10))) else (some (Lr.out (n9, s10)))
noncomputable def x_spec_NumText_f0 (s53 : Int × ByteArray) : Option (Lr (Int × ByteArray) (Int × ByteArray)) := x_spec_NumText_b0 s53.1 s53.2
noncomputable def x_spec_NumText (n : Int) : Option ByteArray :=
  Option.bind (x_spec_l01In n 0 1000000000) fun r3 => bif !r3 then (some (⟨#[]⟩ : ByteArray)) else (Option.bind (iter (x_spec_NumText_f0) (n, (⟨#[]⟩ : ByteArray))) fun (y54 : Int × ByteArray) => xg (inI (48 + y54.1)) <| xg ((⟨[y8 (48 + y54.1)].toArray⟩ : ByteArray).size + y54.2.size ≤ 9223372036854775807) <| some ((⟨[y8 (48 + y54.1)].toArray⟩ : ByteArray) ++ y54.2))
theorem ct_spec_NumText (w : World) (X S : Bs) (n : Int) (hS : SX X S w)  (oL : Sep [] X w) {r : ByteArray} (hx : x_spec_NumText n = some r) :
 Ret Tryz.prog 21 [(iv n)] w (KV X S w (.string r)) := by
 unfold x_spec_NumText at hx
 refine enter Tryz.func21 rfl Tryz.ntmps21 (by kernel_rfl) rfl ?_
 have hM := St.enter oL hS
 refine wc_sr <| was rfl rfl <| wl_sq <| wc_seq <| wc_sr <| wmv rfl rfl <| bs hx fun _ h71 hx => w_cv hM rfl rfl (fun X S oL hS hR hO => ct_spec_l01In _ X S n (0 : Int) (1000000000 : Int) hS  oL h71) fun _ hM => wv rfl (r_not rfl) <| wl_sq ?_
 refine wcx hx rfl (fun hx => ?_) (fun hx => ?_)
 refine wc_sr <| was rfl rfl <| wl_sq <| wc_ret <| sq_ret ?_
 obtain rfl := oi hx
 exact fin_u [(.string (⟨#[]⟩ : ByteArray))] hM ⟨rfl, trivial⟩ rfl
 refine wc_skip <| sq_n <| wc_sr <| was rfl rfl <| wl_sq <| wc_seq <| wc_block <| bs hx fun y77 hx hx78 => ?_
 obtain ⟨m83, hx⟩ := iter_run hx
 refine wc_loop (un fun (m81 : Nat) => un fun (n79 : Int) => fun (s80 : ByteArray) => [(0, (iv n79)), (3, (.string s80))]) (un fun (m81 : Nat) => un fun (n79 : Int) => fun (s80 : ByteArray) w' => St ⟨w, X, S⟩ [] [] w' ∧ iterN _ m81 (n79, s80) = some y77) (fun p => p.1) (m83, n, (⟨#[]⟩ : ByteArray)) ⟨rfl, rfl, trivial⟩ ⟨hM, hx⟩ ?_
 rintro ⟨m81, n79, s80⟩ w84 ⟨hM, hx⟩
 obtain ⟨m85, z86, rfl, hx, hx87⟩ := iterN_step hx
 unfold x_spec_NumText_f0 x_spec_NumText_b0 at hx
 try dsimp only at hx
 refine wc_seq <| wc_sr <| wmv rfl rfl <| wv rfl (r_gtr rfl rfl) <| wl_sq ?_
 refine wcx hx rfl (fun hx => ?_) (fun hx => ?_)
 refine wc_skip <| sq_n <| wc_block <| wc_sr <| wmv rfl rfl <| xgs hx fun hg93 hx => wv rfl (r_rem rfl rfl hg93) <| xgs hx fun hg95 hx => wv rfl (r_add rfl rfl hg95) <| wv rfl (r_cvt8 u3 u5 rfl) ?_
 refine w_ex rfl (x_lit (f := fY) (own := []) [y8 (48 + (n79 % 10))] [(.int .u8 ((y8 (48 + (n79 % 10))).toNat : Int))] 1 u94 sz5 (fun _ => rfl) rfl rfl rfl rfl rfl (by kernel_rfl) (fun _ => zP (pV _ rfl) zN) hM ?_); intro s98 w97 hR99 hM
 refine wv rfl (r_b2s u94 u9 u5 rfl (hM.seeO m0)) <| wmv rfl rfl <| xgs hx fun hg104 hx => wv rfl (r_adds rfl rfl hg104) <| was rfl rfl <| wl_sq <| wc_region <| wmv rfl rfl <| xgs hx fun hg108 hx => wv rfl (r_quo rfl rfl hg108) <| was rfl rfl <| wl_nil <| bk_n ?_
 cases hx
 replace hM := hM.t0
 exact lp_end (m85, n79 / 10, (⟨[y8 (48 + (n79 % 10))].toArray⟩ : ByteArray) ++ s80) (Nat.lt_succ_self _) ⟨rfl, rfl, trivial⟩ ⟨hM, hx87⟩
 refine wc_exit <| sq_exit <| lp1_exit ?_
 cases hx
 obtain rfl := oi hx87
 replace hx := hx78
 refine bk_here <| sq_n <| wc_sr <| wmv rfl rfl <| xgs hx fun hg112 hx => wv rfl (r_add rfl rfl hg112) <| wv rfl (r_cvt8 u3 u5 rfl) ?_
 refine w_ex rfl (x_lit (f := fY) (own := []) [y8 (48 + n79)] [(.int .u8 ((y8 (48 + n79)).toNat : Int))] 1 u94 sz5 (fun _ => rfl) rfl rfl rfl rfl rfl (by kernel_rfl) (fun _ => zP (pV _ rfl) zN) hM ?_); intro s115 w114 hR116 hM
 refine wv rfl (r_b2s u94 u9 u5 rfl (hM.seeO m0)) <| wmv rfl rfl <| xgs hx fun hg121 hx => wv rfl (r_adds rfl rfl hg121) <| was rfl rfl <| wl_sq <| wc_ret ?_
 obtain rfl := oi hx
 exact fin_u [(.string ((⟨[y8 (48 + n79)].toArray⟩ : ByteArray) ++ s80))] hM ⟨rfl, trivial⟩ rfl

end Go.Proofs.YtjbonmmmcnpjiaaGreatDoor
