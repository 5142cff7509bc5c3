/- Walks of functions of this program (printed by a program of ours, by the rules of the layer). No condition. -/
import Derived.Test.YtjbonmmmcnpjiaaGreatDoorG3
import Derived.Test.YtjbonmmmcnpjiaaGreatDoorNw
namespace Go.Proofs.YtjbonmmmcnpjiaaGreatDoor
open Go.RowKit

noncomputable def x_impl_NameOk_b0 (s : ByteArray) (i3 : Int) : Option (Lr Int (Sum Unit Unit)) :=
  bif decide (i3 < (s.size : Int)) then (xg (0 ≤ i3 ∧ i3 < (s.size : Int)) <| Option.bind (bif decide (((sget s i3.toNat).toNat : Int) < 97) then (some true) else (xg (0 ≤ i3 ∧ i3 < (s.size : Int)) <| some (decide ((122 : Int) < ((sget s i3.toNat).toNat : Int))))) fun c41 => bif c41 then (some (Lr.out (Sum.inr (())))) else (xg (inI (i3 + 1)) <| some (Lr.go (i3 + 1)))) else (some (Lr.out (Sum.inl ())))
noncomputable def x_impl_NameOk_f0 (s : ByteArray) (s58 : Int) : Option (Lr Int (Sum Unit Unit)) := x_impl_NameOk_b0 s s58
noncomputable def x_impl_NameOk (s : ByteArray) : Option Bool :=
  Option.bind (iter (x_impl_NameOk_f0 s) 0) fun (y59 : Sum Unit Unit) => Sum.elim (fun _y60 => Option.bind (x_impl_within (s.size : Int) 1 8) fun r64 => some r64) (fun _y61 => some false) y59
theorem ct_impl_NameOk (w : World) (X S : Bs) (s : ByteArray) (hS : SX X S w)  (oL : Sep [] X w) {r : Bool} (hx : x_impl_NameOk s = some r) :
 Ret Tryz.prog 84 [(.string s)] w (KV X S w (bv r)) := by
 unfold x_impl_NameOk at hx
 refine enter Tryz.func84 rfl Tryz.ntmps84 (by kernel_rfl) rfl ?_
 have hM := St.enter oL hS
 refine wc_sr <| was rfl rfl <| wl_sq <| wc_seq <| wc_sr <| was rfl rfl <| wl_sq <| wc_block <| bs hx fun y70 hx hx71 => ?_
 obtain ⟨m75, hx⟩ := iter_run hx
 refine wc_loop (un fun (m73 : Nat) => fun (i72 : Int) => [(0, (.string s)), (3, (iv i72))]) (un fun (m73 : Nat) => fun (i72 : Int) w' => St ⟨w, X, S⟩ [] [] w' ∧ iterN _ m73 i72 = some y70) (fun p => p.1) (m75, 0) ⟨rfl, rfl, trivial⟩ ⟨hM, hx⟩ ?_
 rintro ⟨m73, i72⟩ w76 ⟨hM, hx⟩
 obtain ⟨m77, z78, rfl, hx, hx79⟩ := iterN_step hx
 unfold x_impl_NameOk_f0 x_impl_NameOk_b0 at hx
 try dsimp only at hx
 refine wc_seq <| wc_sr <| wmv rfl rfl <| wmv rfl rfl <| wv rfl (r_lens u9 rfl) <| wv rfl (r_lss rfl rfl) <| wl_sq ?_
 refine wcx hx rfl (fun hx => ?_) (fun hx => ?_)
 refine wc_skip <| sq_n <| wc_seq <| wc_block <| wc_sr <| wmv rfl rfl <| wmv rfl rfl <| xgs hx fun hg88 hx => wv rfl (r_sidx u9 rfl rfl hg88) <| wv rfl (r_lss rfl rfl) <| wmv rfl rfl <| bs hx fun c91 hx hx98 => ?_
 refine wl_midH 5 [(19, (bv c91)), (0, (.string s)), (3, (iv i72))] hM ?_ fun w99 hM => ?_
 refine cs2 hx (fun hg92 hx => ?_) (fun hg92 hx => ?_)
 refine gn hg92 rfl rfl <| gn hg92 rfl rfl <| gn hg92 rfl rfl <| gn hg92 rfl rfl <| wv rfl (p_t rfl hg92 rfl) ?_
 obtain rfl := oi hx
 exact mid_h ⟨rfl, rfl, rfl, trivial⟩ hM
 refine gv rfl hg92 rfl (r_move rfl) <| gv rfl hg92 rfl (r_move rfl) <| xgs hx fun hg103 hx => gv rfl hg92 rfl (r_sidx u9 rfl rfl hg103) <| gv rfl hg92 rfl (r_gtr rfl rfl) <| wv rfl (p_f rfl hg92 rfl) ?_
 cases hx
 exact mid_h ⟨rfl, rfl, rfl, trivial⟩ hM
 replace hx := hx98
 refine wl_sq ?_
 refine wcx hx rfl (fun hx => ?_) (fun hx => ?_)
 refine wc_sr <| was rfl rfl <| wl_sq <| wc_ret <| bk_ret <| sq_ret <| lp1_ret ?_
 cases hx
 obtain rfl := oi hx79
 replace hx := hx71
 refine bk_ret <| sq_ret ?_
 obtain rfl := oi hx
 exact fin_u [(bv false)] hM ⟨rfl, trivial⟩ rfl
 refine wc_skip <| bk_n <| sq_n <| wc_region <| wmv rfl rfl <| xgs hx fun hg109 hx => wv rfl (r_add rfl rfl hg109) <| was rfl rfl <| wl_nil ?_
 cases hx
 exact lp_end (m77, i72 + 1) (Nat.lt_succ_self _) ⟨rfl, rfl, trivial⟩ ⟨hM, hx79⟩
 refine wc_exit <| sq_exit <| lp1_exit ?_
 cases hx
 obtain rfl := oi hx79
 replace hx := hx71
 refine bk_here <| sq_n <| wc_sr <| wmv rfl rfl <| wv rfl (r_lens u9 rfl) <| bs hx fun r113 h114 hx => w_cv hM rfl rfl (fun X S oL hS hR hO => ct_impl_within _ X S (s.size : Int) (1 : Int) (8 : Int) hS  oL h114) fun _ hM => was rfl rfl <| wl_sq <| wc_ret ?_
 obtain rfl := oi hx
 exact fin_u [(bv r113)] hM ⟨rfl, trivial⟩ rfl

noncomputable def x_spec_NameOk_b0 (s : ByteArray) (i3 : Int) : Option (Lr Int (Sum Unit Unit)) :=
  bif decide (i3 < (s.size : Int)) then (xg (0 ≤ i3 ∧ i3 < (s.size : Int)) <| Option.bind (bif decide (((sget s i3.toNat).toNat : Int) < 97) then (some true) else (xg (0 ≤ i3 ∧ i3 < (s.size : Int)) <| some (decide ((122 : Int) < ((sget s i3.toNat).toNat : Int))))) fun c41 => bif c41 then (some (Lr.out (Sum.inr (())))) else (xg (inI (i3 + 1)) <| some (Lr.go (i3 + 1)))) else (some (Lr.out (Sum.inl ())))
noncomputable def x_spec_NameOk_f0 (s : ByteArray) (s58 : Int) : Option (Lr Int (Sum Unit Unit)) := x_spec_NameOk_b0 s s58
noncomputable def x_spec_NameOk (s : ByteArray) : Option Bool :=
  Option.bind (iter (x_spec_NameOk_f0 s) 0) fun (y59 : Sum Unit Unit) => Sum.elim (fun _y60 => Option.bind (x_spec_l01In (s.size : Int) 1 8) fun r64 => some r64) (fun _y61 => some false) y59
theorem ct_spec_NameOk (w : World) (X S : Bs) (s : ByteArray) (hS : SX X S w)  (oL : Sep [] X w) {r : Bool} (hx : x_spec_NameOk s = some r) :
 Ret Tryz.prog 76 [(.string s)] w (KV X S w (bv r)) := by
 unfold x_spec_NameOk at hx
 refine enter Tryz.func76 rfl Tryz.ntmps76 (by kernel_rfl) rfl ?_
 have hM := St.enter oL hS
 refine wc_sr <| was rfl rfl <| wl_sq <| wc_seq <| wc_sr <| was rfl rfl <| wl_sq <| wc_block <| bs hx fun y70 hx hx71 => ?_
 obtain ⟨m75, hx⟩ := iter_run hx
 refine wc_loop (un fun (m73 : Nat) => fun (i72 : Int) => [(0, (.string s)), (3, (iv i72))]) (un fun (m73 : Nat) => fun (i72 : Int) w' => St ⟨w, X, S⟩ [] [] w' ∧ iterN _ m73 i72 = some y70) (fun p => p.1) (m75, 0) ⟨rfl, rfl, trivial⟩ ⟨hM, hx⟩ ?_
 rintro ⟨m73, i72⟩ w76 ⟨hM, hx⟩
 obtain ⟨m77, z78, rfl, hx, hx79⟩ := iterN_step hx
 unfold x_spec_NameOk_f0 x_spec_NameOk_b0 at hx
 try dsimp only at hx
 refine wc_seq <| wc_sr <| wmv rfl rfl <| wmv rfl rfl <| wv rfl (r_lens u9 rfl) <| wv rfl (r_lss rfl rfl) <| wl_sq ?_
 refine wcx hx rfl (fun hx => ?_) (fun hx => ?_)
 refine wc_skip <| sq_n <| wc_seq <| wc_block <| wc_sr <| wmv rfl rfl <| wmv rfl rfl <| xgs hx fun hg88 hx => wv rfl (r_sidx u9 rfl rfl hg88) <| wv rfl (r_lss rfl rfl) <| wmv rfl rfl <| bs hx fun c91 hx hx98 => ?_
 refine wl_midH 5 [(19, (bv c91)), (0, (.string s)), (3, (iv i72))] hM ?_ fun w99 hM => ?_
 refine cs2 hx (fun hg92 hx => ?_) (fun hg92 hx => ?_)
 refine gn hg92 rfl rfl <| gn hg92 rfl rfl <| gn hg92 rfl rfl <| gn hg92 rfl rfl <| wv rfl (p_t rfl hg92 rfl) ?_
 obtain rfl := oi hx
 exact mid_h ⟨rfl, rfl, rfl, trivial⟩ hM
 refine gv rfl hg92 rfl (r_move rfl) <| gv rfl hg92 rfl (r_move rfl) <| xgs hx fun hg103 hx => gv rfl hg92 rfl (r_sidx u9 rfl rfl hg103) <| gv rfl hg92 rfl (r_gtr rfl rfl) <| wv rfl (p_f rfl hg92 rfl) ?_
 cases hx
 exact mid_h ⟨rfl, rfl, rfl, trivial⟩ hM
 replace hx := hx98
 refine wl_sq ?_
 refine wcx hx rfl (fun hx => ?_) (fun hx => ?_)
 refine wc_sr <| was rfl rfl <| wl_sq <| wc_ret <| bk_ret <| sq_ret <| lp1_ret ?_
 cases hx
 obtain rfl := oi hx79
 replace hx := hx71
 refine bk_ret <| sq_ret ?_
 obtain rfl := oi hx
 exact fin_u [(bv false)] hM ⟨rfl, trivial⟩ rfl
 refine wc_skip <| bk_n <| sq_n <| wc_region <| wmv rfl rfl <| xgs hx fun hg109 hx => wv rfl (r_add rfl rfl hg109) <| was rfl rfl <| wl_nil ?_
 cases hx
 exact lp_end (m77, i72 + 1) (Nat.lt_succ_self _) ⟨rfl, rfl, trivial⟩ ⟨hM, hx79⟩
 refine wc_exit <| sq_exit <| lp1_exit ?_
 cases hx
 obtain rfl := oi hx79
 replace hx := hx71
 refine bk_here <| sq_n <| wc_sr <| wmv rfl rfl <| wv rfl (r_lens u9 rfl) <| bs hx fun r113 h114 hx => w_cv hM rfl rfl (fun X S oL hS hR hO => ct_spec_l01In _ X S (s.size : Int) (1 : Int) (8 : Int) hS  oL h114) fun _ hM => was rfl rfl <| wl_sq <| wc_ret ?_
 obtain rfl := oi hx
 exact fin_u [(bv r113)] hM ⟨rfl, trivial⟩ rfl

end Go.Proofs.YtjbonmmmcnpjiaaGreatDoor
