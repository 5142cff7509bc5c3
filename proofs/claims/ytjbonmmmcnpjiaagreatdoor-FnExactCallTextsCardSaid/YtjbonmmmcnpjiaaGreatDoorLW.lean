/- Walks of functions of this program (printed by a program of ours, by the rules of the layer). No condition. -/
import Derived.Test.YtjbonmmmcnpjiaaGreatDoorLV
import Derived.Test.YtjbonmmmcnpjiaaGreatDoorNw
import Derived.Test.YtjbonmmmcnpjiaaGreatDoorNx
import Derived.Test.YtjbonmmmcnpjiaaGreatDoorNy
import Derived.Test.YtjbonmmmcnpjiaaGreatDoorNt
namespace Go.Proofs.YtjbonmmmcnpjiaaGreatDoor
open Go.RowKit

noncomputable def x_laws_eqStringS_b0 (a : List ByteArray) (b : List ByteArray) (i9 : Int) : Option (Lr Int (Sum Unit Unit)) :=
  bif decide (i9 < (a.length : Int)) then (xg (0 ≤ i9 ∧ i9 < (a.length : Int)) <| xg (0 ≤ i9 ∧ i9 < (b.length : Int)) <| bif !decide (el a i9.toNat = el b i9.toNat) then (some (Lr.out (Sum.inr (())))) else (xg (inI (i9 + 1)) <| some (Lr.go (i9 + 1)))) else (some (Lr.out (Sum.inl ())))
noncomputable def x_laws_eqStringS_f0 (a : List ByteArray) (b : List ByteArray) (s58 : Int) : Option (Lr Int (Sum Unit Unit)) := x_laws_eqStringS_b0 a b s58
noncomputable def x_laws_eqStringS (a : List ByteArray) (b : List ByteArray) : Option Bool :=
  bif !decide ((a.length : Int) = (b.length : Int)) then (some false) else (Option.bind (iter (x_laws_eqStringS_f0 a b) 0) fun (y59 : Sum Unit Unit) => Sum.elim (fun _y60 => some true) (fun _y61 => some false) y59)
theorem ct_laws_eqStringS (w : World) (X S : Bs) (a : List ByteArray) (s_a : Sv) (b : List ByteArray) (s_b : Sv) (hS : SX X S w) (a_a_0 : (cSl 1 fT a).rd S w s_a.v) (a_b_0 : (cSl 1 fT b).rd S w s_b.v) (oL : Sep [] X w) {r : Bool} (hx : x_laws_eqStringS a b = some r) :
 Ret Tryz.prog 12 [s_a.v, s_b.v] w (KV X S w (bv r)) := by
 unfold x_laws_eqStringS at hx
 refine enter Tryz.func12 rfl Tryz.ntmps12 (by kernel_rfl) rfl ?_
 have hM := ((St.enter oL hS).addV a_a_0).addV a_b_0
 refine wc_sr <| was rfl rfl <| wl_sq <| wc_seq <| wc_sr <| wmv rfl rfl <| wv rfl (r_lenC u44 rfl (hM.seeR m1)) <| wmv rfl rfl <| wv rfl (r_lenC u44 rfl (hM.seeR m0)) <| wv rfl (r_neq rfl rfl) <| wl_sq ?_
 refine wcx hx rfl (fun hx => ?_) (fun hx => ?_)
 refine wc_sr <| was rfl rfl <| wl_sq <| wc_ret <| sq_ret ?_
 obtain rfl := oi hx
 exact fin_u [(bv false)] hM ⟨rfl, trivial⟩ rfl
 refine wc_skip <| sq_n <| wc_seq <| wc_sr <| was rfl rfl <| wl_sq <| wc_block <| bs hx fun y72 hx hx73 => ?_
 have hM := hM.fewer (rsC m1 (rsC m0 rsN))
 replace hM : St ⟨w, X, S⟩ [] [rV s_a.v (cSl 1 fT a), rV s_b.v (cSl 1 fT b)] _ := hM
 obtain ⟨m77, hx⟩ := iter_run hx
 refine wc_loop (un fun (m75 : Nat) => fun (i74 : Int) => [(0, s_a.v), (1, s_b.v), (5, (iv i74))]) (un fun (m75 : Nat) => fun (i74 : Int) w' => St ⟨w, X, S⟩ [] [rV s_a.v (cSl 1 fT a), rV s_b.v (cSl 1 fT b)] w' ∧ iterN _ m75 i74 = some y72) (fun p => p.1) (m77, 0) ⟨rfl, rfl, rfl, trivial⟩ ⟨hM, hx⟩ ?_
 rintro ⟨m75, i74⟩ w78 ⟨hM, hx⟩
 obtain ⟨m79, z80, rfl, hx, hx81⟩ := iterN_step hx
 unfold x_laws_eqStringS_f0 x_laws_eqStringS_b0 at hx
 try dsimp only at hx
 refine wc_seq <| wc_sr <| wmv rfl rfl <| wmv rfl rfl <| wv rfl (r_lenC u44 rfl (hM.seeR m0)) <| wv rfl (r_lss rfl rfl) <| wl_sq ?_
 refine wcx hx rfl (fun hx => ?_) (fun hx => ?_)
 refine wc_skip <| sq_n <| wc_seq <| wc_block <| wc_seq <| wc_draw [(0, 0), (1, 0), (2, 0), (3, 0), (4, 0), (5, 0), (6, 0), (7, 0), (8, 0)] Tryz_mixed (by kernel_rfl) rfl (by kernel_rfl) rfl <| omv rfl rfl <| omv rfl rfl <| xgs hx fun hg91 hx => ?_
 have hi90 : i74.toNat < a.length := by omega
 refine ov rfl (fun w' h' => r_ixC u44 sz9 rfl rfl ((hM.call h').seeR m0) hg91) <| ov rfl (fun w' h' => r_ld u9 rfl rfl (Cs.get (i := i74.toNat) (j := 0) ((hM.call h').seeR m0) (fun _ => rfl) hi90 rfl)) <| omv rfl rfl <| omv rfl rfl <| xgs hx fun hg97 hx => ?_
 have hi96 : i74.toNat < b.length := by omega
 refine ov rfl (fun w' h' => r_ixC u44 sz9 rfl rfl ((hM.call h').seeR m1) hg97) <| ov rfl (fun w' h' => r_ld u9 rfl rfl (Cs.get (i := i74.toNat) (j := 0) ((hM.call h').seeR m1) (fun _ => rfl) hi96 rfl)) <| ov rfl (fun w' h' => r_neqs rfl rfl) <| o_nilM hM fun _ hM => sq_n ?_
 refine wcx hx rfl (fun hx => ?_) (fun hx => ?_)
 refine wc_sr <| was rfl rfl <| wl_sq <| wc_ret <| bk_ret <| sq_ret <| lp1_ret ?_
 cases hx
 obtain rfl := oi hx81
 replace hx := hx73
 refine bk_ret <| sq_ret ?_
 obtain rfl := oi hx
 exact fin_u [(bv false)] hM ⟨rfl, trivial⟩ rfl
 refine wc_skip <| bk_n <| sq_n <| wc_region <| wmv rfl rfl <| xgs hx fun hg106 hx => wv rfl (r_add rfl rfl hg106) <| was rfl rfl <| wl_nil ?_
 cases hx
 exact lp_end (m79, i74 + 1) (Nat.lt_succ_self _) ⟨rfl, rfl, rfl, trivial⟩ ⟨hM, hx81⟩
 refine wc_exit <| sq_exit <| lp1_exit ?_
 cases hx
 obtain rfl := oi hx81
 replace hx := hx73
 refine bk_here <| sq_n <| wc_sr <| was rfl rfl <| wl_sq <| wc_ret ?_
 obtain rfl := oi hx
 exact fin_u [(bv true)] hM ⟨rfl, trivial⟩ rfl

noncomputable def x_laws_markText_b0 (k6 : Int) (out7 : ByteArray) : Option (Lr (Int × ByteArray) (Int × ByteArray)) :=
  bif decide ((0 : Int) < k6) then (xg (0 ≤ k6 ∧ 0 < (10 : Int)) <| xg (inI (48 + (k6 % 10))) <| xg ((⟨[y8 (48 + (k6 % 10))].toArray⟩ : ByteArray).size + out7.size ≤ 9223372036854775807) <| xg (0 ≤ k6 ∧ k6 ≤ 9223372036854775807 ∧ 0 < (10 : Int)) <| some (Lr.go (k6 / 10, (⟨[y8 (48 + (k6 % 10))].toArray⟩ : ByteArray) ++ out7))) else (some (Lr.out (k6, out7)))
noncomputable def x_laws_markText_f0 (s50 : Int × ByteArray) : Option (Lr (Int × ByteArray) (Int × ByteArray)) := x_laws_markText_b0 s50.1 s50.2
noncomputable def x_laws_markText (k : Int) : Option (ByteArray × Int) :=
  bif decide (k ≤ 0) then (some ((⟨#[109, 48]⟩ : ByteArray), k)) else (Option.bind (iter (x_laws_markText_f0) (k, (⟨#[]⟩ : ByteArray))) fun (y51 : Int × ByteArray) => xg ((⟨#[109]⟩ : ByteArray).size + y51.2.size ≤ 9223372036854775807) <| some ((⟨#[109]⟩ : ByteArray) ++ y51.2, k))
theorem ct_laws_markText (w : World) (X S : Bs) (k : Int) (hS : SX X S w)  (oL : Sep [] X w) {r : ByteArray × Int} (hx : x_laws_markText k = some r) :
 Ret Tryz.prog 40 [(iv k)] w (KV X S w (.string r.1)) := by
 unfold x_laws_markText at hx
 refine enter Tryz.func40 rfl Tryz.ntmps40 (by kernel_rfl) rfl ?_
 have hM := St.enter oL hS
 refine wc_sr <| was rfl rfl <| wl_sq <| wc_seq <| wc_sr <| wmv rfl rfl <| wv rfl (r_leq rfl rfl) <| wl_sq ?_
 refine wcx hx rfl (fun hx => ?_) (fun hx => ?_)
 refine wc_sr <| was rfl rfl <| wl_sq <| wc_ret <| sq_ret ?_
 obtain rfl := oi hx
 exact fin_u [(.string (⟨#[109, 48]⟩ : ByteArray))] hM ⟨rfl, trivial⟩ rfl
 refine wc_skip <| sq_n <| wc_sr <| was rfl rfl <| wl_sq <| wc_seq <| wc_block <| bs hx fun y62 hx hx63 => ?_
 obtain ⟨m68, hx⟩ := iter_run hx
 refine wc_loop (un fun (m66 : Nat) => un fun (k64 : Int) => fun (out65 : ByteArray) => [(0, (iv k64)), (3, (.string out65))]) (un fun (m66 : Nat) => un fun (k64 : Int) => fun (out65 : ByteArray) w' => St ⟨w, X, S⟩ [] [] w' ∧ iterN _ m66 (k64, out65) = some y62) (fun p => p.1) (m68, k, (⟨#[]⟩ : ByteArray)) ⟨rfl, rfl, trivial⟩ ⟨hM, hx⟩ ?_
 rintro ⟨m66, k64, out65⟩ w69 ⟨hM, hx⟩
 obtain ⟨m70, z71, rfl, hx, hx72⟩ := iterN_step hx
 unfold x_laws_markText_f0 x_laws_markText_b0 at hx
 try dsimp only at hx
 refine wc_seq <| wc_sr <| wmv rfl rfl <| wv rfl (r_gtr rfl rfl) <| wl_sq ?_
 refine wcx hx rfl (fun hx => ?_) (fun hx => ?_)
 refine wc_skip <| sq_n <| wc_block <| wc_sr <| wmv rfl rfl <| xgs hx fun hg78 hx => wv rfl (r_rem rfl rfl hg78) <| xgs hx fun hg80 hx => wv rfl (r_add rfl rfl hg80) <| wv rfl (r_cvt8 u3 u5 rfl) ?_
 refine w_ex rfl (x_lit (f := fY) (own := []) [y8 (48 + (k64 % 10))] [(.int .u8 ((y8 (48 + (k64 % 10))).toNat : Int))] 1 u94 sz5 (fun _ => rfl) rfl rfl rfl rfl rfl (by kernel_rfl) (fun _ => zP (pV _ rfl) zN) hM ?_); intro s83 w82 hR84 hM
 refine wv rfl (r_b2s u94 u9 u5 rfl (hM.seeO m0)) <| wmv rfl rfl <| xgs hx fun hg89 hx => wv rfl (r_adds rfl rfl hg89) <| was rfl rfl <| wl_sq <| wc_region <| wmv rfl rfl <| xgs hx fun hg93 hx => wv rfl (r_quo rfl rfl hg93) <| was rfl rfl <| wl_nil <| bk_n ?_
 cases hx
 replace hM := hM.t0
 exact lp_end (m70, k64 / 10, (⟨[y8 (48 + (k64 % 10))].toArray⟩ : ByteArray) ++ out65) (Nat.lt_succ_self _) ⟨rfl, rfl, trivial⟩ ⟨hM, hx72⟩
 refine wc_exit <| sq_exit <| lp1_exit ?_
 cases hx
 obtain rfl := oi hx72
 replace hx := hx63
 refine bk_here <| sq_n <| wc_sr <| wmv rfl rfl <| xgs hx fun hg97 hx => wv rfl (r_adds rfl rfl hg97) <| was rfl rfl <| wl_sq <| wc_ret ?_
 obtain rfl := oi hx
 exact fin_u [(.string ((⟨#[109]⟩ : ByteArray) ++ out65))] hM ⟨rfl, trivial⟩ rfl

noncomputable def x_laws_markIntS_b0 (k26 : Int) (i27 : Int) (l28 : List Int) : Option (Lr (Int × Int × List Int) (Int × List Int)) :=
  bif decide (i27 < (l28.length : Int)) then (xg (0 ≤ i27 ∧ i27 < (l28.length : Int)) <| xg (inI (k26 + 1)) <| xg (inI (i27 + 1)) <| some (Lr.go (k26 + 1, i27 + 1, l28.set i27.toNat k26))) else (some (Lr.out (k26, l28)))
noncomputable def x_laws_markIntS_f0 (s70 : Int × Int × List Int) : Option (Lr (Int × Int × List Int) (Int × List Int)) := x_laws_markIntS_b0 s70.1 s70.2.1 s70.2.2
noncomputable def x_laws_markIntS (a : List Int) (k : Int) : Option (Int × List Int) :=
  Option.bind (iter (x_laws_markIntS_f0) (k, 0, a)) fun (y71 : Int × List Int) => some (y71.1, y71.2)
theorem ct_laws_markIntS (w : World) (X S : Bs) (a : List Int) (s_a : Sv) (k : Int) (hS : SX X S w)  (oL : Sep [oC (cSl 1 fI a) s_a.v] X w) {r : Int × List Int} (hx : x_laws_markIntS a k = some r) :
 Ret Tryz.prog 37 [s_a.v, (iv k)] w (fun u w' => ∃ _ : Unit, u = (iv r.1) ∧ Gives X S w [oC (cSl 1 fI r.2) s_a.v] [] w') := by
 unfold x_laws_markIntS at hx
 refine enter Tryz.func37 rfl Tryz.ntmps37 (by kernel_rfl) rfl ?_
 have hM := St.enter oL hS
 refine wc_sr <| was rfl rfl <| wl_sq <| wc_seq <| wc_sr <| was rfl rfl <| wl_sq <| wc_block <| bs hx fun y77 hx hx78 => ?_
 obtain ⟨m84, hx⟩ := iter_run hx
 refine wc_loop (un fun (m82 : Nat) => un fun (k79 : Int) => un fun (i80 : Int) => fun (l81 : List Int) => [(0, s_a.v), (1, (iv k79)), (5, (iv i80))]) (un fun (m82 : Nat) => un fun (k79 : Int) => un fun (i80 : Int) => fun (l81 : List Int) w' => St ⟨w, X, S⟩ [oC (cSl 1 fI l81) s_a.v] [] w' ∧ iterN _ m82 (k79, i80, l81) = some y77) (fun p => p.1) (m84, k, 0, a) ⟨rfl, rfl, rfl, trivial⟩ ⟨hM, hx⟩ ?_
 rintro ⟨m82, k79, i80, l81⟩ w85 ⟨hM, hx⟩
 obtain ⟨m86, z87, rfl, hx, hx88⟩ := iterN_step hx
 unfold x_laws_markIntS_f0 x_laws_markIntS_b0 at hx
 try dsimp only at hx
 refine wc_seq <| wc_sr <| wmv rfl rfl <| wmv rfl rfl <| wv rfl (r_lenC u26 rfl (hM.seeO m0)) <| wv rfl (r_lss rfl rfl) <| wl_sq ?_
 refine wcx hx rfl (fun hx => ?_) (fun hx => ?_)
 refine wc_skip <| sq_n <| wc_seq <| wc_block <| wc_sr <| wmv rfl rfl <| wmv rfl rfl <| wmv rfl rfl <| xgs hx fun hg99 hx => ?_
 have hi98 : i80.toNat < l81.length := by omega
 refine wv rfl (r_ixC u26 sz3 rfl rfl (hM.seeO m0) hg99) ?_
 refine w_exu (x_stE (f := fI) (k := 1) (L := l81) (i := i80.toNat) (j := 0) k79 [cI k79] sz3 (fun _ => rfl) rfl rfl hi98 rfl rfl rfl rfl rfl (fun _ => zP (pV _ rfl) zN) hM ?_); intro w100 hM
 refine wl_sq <| wc_region <| wmv rfl rfl <| xgs hx fun hg104 hx => wv rfl (r_add rfl rfl hg104) <| was rfl rfl <| wl_nil <| bk_n <| sq_n <| wc_region <| wmv rfl rfl <| xgs hx fun hg108 hx => wv rfl (r_add rfl rfl hg108) <| was rfl rfl ?_
 refine wl_nil ?_
 cases hx
 exact lp_end (m86, k79 + 1, i80 + 1, l81.set i80.toNat k79) (Nat.lt_succ_self _) ⟨rfl, rfl, rfl, trivial⟩ ⟨hM, hx88⟩
 refine wc_exit <| sq_exit <| lp1_exit ?_
 cases hx
 obtain rfl := oi hx88
 replace hx := hx78
 refine bk_here <| sq_n <| wc_sr <| wmv rfl rfl <| was rfl rfl <| wl_sq <| wc_ret ?_
 obtain rfl := oi hx
 refine fin_ret [(iv k79)] ⟨rfl, trivial⟩ ?_
 replace hM := hM.t1
 exact ⟨(), rfl, (hM.fewer rsN).gives⟩

noncomputable def x_laws_markPartS_b0 (k56 : Int) (i57 : Int) (l58 : List DPart) : Option (Lr (Int × Int × List DPart) (Int × List DPart)) :=
  bif decide (i57 < (l58.length : Int)) then (xg (0 ≤ i57 ∧ i57 < (l58.length : Int)) <| xg (inI (k56 + 1)) <| xg (0 ≤ i57 ∧ i57 < ((l58.set i57.toNat (⟨k56, (el l58 i57.toNat).n, (el l58 i57.toNat).signs⟩ : DPart)).length : Int)) <| xg (inI ((k56 + 1) + 1)) <| xg (0 ≤ i57 ∧ i57 < (((l58.set i57.toNat (⟨k56, (el l58 i57.toNat).n, (el l58 i57.toNat).signs⟩ : DPart)).set i57.toNat (⟨(el (l58.set i57.toNat (⟨k56, (el l58 i57.toNat).n, (el l58 i57.toNat).signs⟩ : DPart)) i57.toNat).kind, k56 + 1, (el (l58.set i57.toNat (⟨k56, (el l58 i57.toNat).n, (el l58 i57.toNat).signs⟩ : DPart)) i57.toNat).signs⟩ : DPart)).length : Int)) <| Option.bind (x_laws_markIntS ((el ((l58.set i57.toNat (⟨k56, (el l58 i57.toNat).n, (el l58 i57.toNat).signs⟩ : DPart)).set i57.toNat (⟨(el (l58.set i57.toNat (⟨k56, (el l58 i57.toNat).n, (el l58 i57.toNat).signs⟩ : DPart)) i57.toNat).kind, k56 + 1, (el (l58.set i57.toNat (⟨k56, (el l58 i57.toNat).n, (el l58 i57.toNat).signs⟩ : DPart)) i57.toNat).signs⟩ : DPart)) i57.toNat).signs) ((k56 + 1) + 1)) fun r152 => xg (inI (i57 + 1)) <| some (Lr.go (r152.1, i57 + 1, ((l58.set i57.toNat (⟨k56, (el l58 i57.toNat).n, (el l58 i57.toNat).signs⟩ : DPart)).set i57.toNat (⟨(el (l58.set i57.toNat (⟨k56, (el l58 i57.toNat).n, (el l58 i57.toNat).signs⟩ : DPart)) i57.toNat).kind, k56 + 1, (el (l58.set i57.toNat (⟨k56, (el l58 i57.toNat).n, (el l58 i57.toNat).signs⟩ : DPart)) i57.toNat).signs⟩ : DPart)).set i57.toNat (⟨(el ((l58.set i57.toNat (⟨k56, (el l58 i57.toNat).n, (el l58 i57.toNat).signs⟩ : DPart)).set i57.toNat (⟨(el (l58.set i57.toNat (⟨k56, (el l58 i57.toNat).n, (el l58 i57.toNat).signs⟩ : DPart)) i57.toNat).kind, k56 + 1, (el (l58.set i57.toNat (⟨k56, (el l58 i57.toNat).n, (el l58 i57.toNat).signs⟩ : DPart)) i57.toNat).signs⟩ : DPart)) i57.toNat).kind, (el ((l58.set i57.toNat (⟨k56, (el l58 i57.toNat).n, (el l58 i57.toNat).signs⟩ : DPart)).set i57.toNat (⟨(el (l58.set i57.toNat (⟨k56, (el l58 i57.toNat).n, (el l58 i57.toNat).signs⟩ : DPart)) i57.toNat).kind, k56 + 1, (el (l58.set i57.toNat (⟨k56, (el l58 i57.toNat).n, (el l58 i57.toNat).signs⟩ : DPart)) i57.toNat).signs⟩ : DPart)) i57.toNat).n, r152.2⟩ : DPart)))) else (some (Lr.out (k56, l58)))
noncomputable def x_laws_markPartS_f0 (s160 : Int × Int × List DPart) : Option (Lr (Int × Int × List DPart) (Int × List DPart)) := x_laws_markPartS_b0 s160.1 s160.2.1 s160.2.2
noncomputable def x_laws_markPartS (a : List DPart) (k : Int) : Option (Int × List DPart) :=
  Option.bind (iter (x_laws_markPartS_f0) (k, 0, a)) fun (y161 : Int × List DPart) => some (y161.1, y161.2)
theorem ct_laws_markPartS (w : World) (X S : Bs) (a : List DPart) (s_a : Sv) (k : Int) (hS : SX X S w)  (oL : Sep [oC (cSl 3 fDPart a) s_a.v] X w) {r : Int × List DPart} (hx : x_laws_markPartS a k = some r) :
 Ret Tryz.prog 89 [s_a.v, (iv k)] w (fun u w' => ∃ _ : Unit, u = (iv r.1) ∧ Gives X S w [oC (cSl 3 fDPart r.2) s_a.v] [] w') := by
 unfold x_laws_markPartS at hx
 refine enter Tryz.func89 rfl Tryz.ntmps89 (by kernel_rfl) rfl ?_
 have hM := St.enter oL hS
 refine wc_sr <| was rfl rfl <| wl_sq <| wc_seq <| wc_sr <| was rfl rfl <| wl_sq <| wc_block <| bs hx fun y167 hx hx168 => ?_
 obtain ⟨m174, hx⟩ := iter_run hx
 refine wc_loop (un fun (m172 : Nat) => un fun (k169 : Int) => un fun (i170 : Int) => fun (l171 : List DPart) => [(0, s_a.v), (1, (iv k169)), (5, (iv i170))]) (un fun (m172 : Nat) => un fun (k169 : Int) => un fun (i170 : Int) => fun (l171 : List DPart) w' => St ⟨w, X, S⟩ [oC (cSl 3 fDPart l171) s_a.v] [] w' ∧ iterN _ m172 (k169, i170, l171) = some y167) (fun p => p.1) (m174, k, 0, a) ⟨rfl, rfl, rfl, trivial⟩ ⟨hM, hx⟩ ?_
 rintro ⟨m172, k169, i170, l171⟩ w175 ⟨hM, hx⟩
 obtain ⟨m176, z177, rfl, hx, hx178⟩ := iterN_step hx
 unfold x_laws_markPartS_f0 x_laws_markPartS_b0 at hx
 try dsimp only at hx
 refine wc_seq <| wc_sr <| wmv rfl rfl <| wmv rfl rfl <| wv rfl (r_lenC u57 rfl (hM.seeO m0)) <| wv rfl (r_lss rfl rfl) <| wl_sq ?_
 refine wcx hx rfl (fun hx => ?_) (fun hx => ?_)
 refine wc_skip <| sq_n <| wc_seq <| wc_block <| wc_sr <| wmv rfl rfl <| wmv rfl rfl <| wmv rfl rfl <| xgs hx fun hg189 hx => ?_
 have hi188 : i170.toNat < l171.length := by omega
 refine wv rfl (r_ixC u57 sz156 rfl rfl (hM.seeO m0) hg189) <| wv rfl (r_fldC (i := i170.toNat) u156 rfl rfl sz3 rfl (hM.seeO m0) hi188) ?_
 refine w_exu (x_stE (f := fDPart) (k := 3) (L := l171) (i := i170.toNat) (j := 0) (⟨k169, (el l171 i170.toNat).n, (el l171 i170.toNat).signs⟩ : DPart) [cI k169] sz3 (fun _ => rfl) rfl rfl hi188 rfl rfl rfl rfl rfl (fun _ => zP (pV _ rfl) zN) hM ?_); intro w191 hM
 refine wl_sq <| wc_sr <| wmv rfl rfl <| xgs hx fun hg195 hx => wv rfl (r_add rfl rfl hg195) <| was rfl rfl <| wl_sq <| wc_sr <| wmv rfl rfl <| wmv rfl rfl <| wmv rfl rfl <| xgs hx fun hg202 hx => ?_
 have hi201 : i170.toNat < (l171.set i170.toNat (⟨k169, (el l171 i170.toNat).n, (el l171 i170.toNat).signs⟩ : DPart)).length := by omega
 refine wv rfl (r_ixC u57 sz156 rfl rfl (hM.seeO m0) hg202) <| wv rfl (r_fldC (i := i170.toNat) u156 rfl rfl sz3 rfl (hM.seeO m0) hi201) ?_
 refine w_exu (x_stE (f := fDPart) (k := 3) (L := (l171.set i170.toNat (⟨k169, (el l171 i170.toNat).n, (el l171 i170.toNat).signs⟩ : DPart))) (i := i170.toNat) (j := 1) (⟨(el (l171.set i170.toNat (⟨k169, (el l171 i170.toNat).n, (el l171 i170.toNat).signs⟩ : DPart)) i170.toNat).kind, k169 + 1, (el (l171.set i170.toNat (⟨k169, (el l171 i170.toNat).n, (el l171 i170.toNat).signs⟩ : DPart)) i170.toNat).signs⟩ : DPart) [cI (k169 + 1)] sz3 (fun _ => rfl) rfl rfl hi201 rfl rfl rfl rfl rfl (fun _ => zP (pV _ rfl) zN) hM ?_); intro w204 hM
 refine wl_sq <| wc_sr <| wmv rfl rfl <| xgs hx fun hg208 hx => wv rfl (r_add rfl rfl hg208) <| was rfl rfl <| wl_sq <| wc_region <| wmv rfl rfl <| wmv rfl rfl <| xgs hx fun hg214 hx => ?_
 have hi213 : i170.toNat < ((l171.set i170.toNat (⟨k169, (el l171 i170.toNat).n, (el l171 i170.toNat).signs⟩ : DPart)).set i170.toNat (⟨(el (l171.set i170.toNat (⟨k169, (el l171 i170.toNat).n, (el l171 i170.toNat).signs⟩ : DPart)) i170.toNat).kind, k169 + 1, (el (l171.set i170.toNat (⟨k169, (el l171 i170.toNat).n, (el l171 i170.toNat).signs⟩ : DPart)) i170.toNat).signs⟩ : DPart)).length := by omega
 refine wv rfl (r_ixC u57 sz156 rfl rfl (hM.seeO m0) hg214) <| wv rfl (r_fldC (i := i170.toNat) u156 rfl rfl sz26 rfl (hM.seeO m0) hi213) ?_
 obtain ⟨s217, hM, hc218⟩ := hM.leafO (i := i170.toNat) (j := 2) (fun _ => rfl) hi213 rfl
 refine wv rfl (r_ld u26 rfl rfl (hc218 _ (Rel.refl _))) <| wmv rfl rfl ?_
 have hM := hM.open (i := i170.toNat) (j := 2) m1 (fun _ => rfl) hi213 rfl
 refine bs hx fun r222 h223 hx => w_call rfl rfl (hM.callO (l := [oC (cSl 1 fI ((el ((l171.set i170.toNat (⟨k169, (el l171 i170.toNat).n, (el l171 i170.toNat).signs⟩ : DPart)).set i170.toNat (⟨(el (l171.set i170.toNat (⟨k169, (el l171 i170.toNat).n, (el l171 i170.toNat).signs⟩ : DPart)) i170.toNat).kind, k169 + 1, (el (l171.set i170.toNat (⟨k169, (el l171 i170.toNat).n, (el l171 i170.toNat).signs⟩ : DPart)) i170.toNat).signs⟩ : DPart)) i170.toNat).signs)) s217.v]) fun X S oL hS hR hO => ct_laws_markIntS _ X S ((el ((l171.set i170.toNat (⟨k169, (el l171 i170.toNat).n, (el l171 i170.toNat).signs⟩ : DPart)).set i170.toNat (⟨(el (l171.set i170.toNat (⟨k169, (el l171 i170.toNat).n, (el l171 i170.toNat).signs⟩ : DPart)) i170.toNat).kind, k169 + 1, (el (l171.set i170.toNat (⟨k169, (el l171 i170.toNat).n, (el l171 i170.toNat).signs⟩ : DPart)) i170.toNat).signs⟩ : DPart)) i170.toNat).signs) s217 ((k169 + 1) + 1) hS  oL h223) ?_
 rintro _ w224 ⟨_, rfl, hM⟩
 dsimp only [List.cons_append, List.nil_append] at hM
 have hM := hM.close (i := i170.toNat) (j := 2) (⟨(el ((l171.set i170.toNat (⟨k169, (el l171 i170.toNat).n, (el l171 i170.toNat).signs⟩ : DPart)).set i170.toNat (⟨(el (l171.set i170.toNat (⟨k169, (el l171 i170.toNat).n, (el l171 i170.toNat).signs⟩ : DPart)) i170.toNat).kind, k169 + 1, (el (l171.set i170.toNat (⟨k169, (el l171 i170.toNat).n, (el l171 i170.toNat).signs⟩ : DPart)) i170.toNat).signs⟩ : DPart)) i170.toNat).kind, (el ((l171.set i170.toNat (⟨k169, (el l171 i170.toNat).n, (el l171 i170.toNat).signs⟩ : DPart)).set i170.toNat (⟨(el (l171.set i170.toNat (⟨k169, (el l171 i170.toNat).n, (el l171 i170.toNat).signs⟩ : DPart)) i170.toNat).kind, k169 + 1, (el (l171.set i170.toNat (⟨k169, (el l171 i170.toNat).n, (el l171 i170.toNat).signs⟩ : DPart)) i170.toNat).signs⟩ : DPart)) i170.toNat).n, r222.2⟩ : DPart) (fun _ => rfl) hi213 rfl rfl
 refine was rfl rfl <| wl_nil <| bk_n <| sq_n <| wc_region <| wmv rfl rfl <| xgs hx fun hg228 hx => wv rfl (r_add rfl rfl hg228) <| was rfl rfl <| wl_nil ?_
 cases hx
 exact lp_end (m176, r222.1, i170 + 1, ((l171.set i170.toNat (⟨k169, (el l171 i170.toNat).n, (el l171 i170.toNat).signs⟩ : DPart)).set i170.toNat (⟨(el (l171.set i170.toNat (⟨k169, (el l171 i170.toNat).n, (el l171 i170.toNat).signs⟩ : DPart)) i170.toNat).kind, k169 + 1, (el (l171.set i170.toNat (⟨k169, (el l171 i170.toNat).n, (el l171 i170.toNat).signs⟩ : DPart)) i170.toNat).signs⟩ : DPart)).set i170.toNat (⟨(el ((l171.set i170.toNat (⟨k169, (el l171 i170.toNat).n, (el l171 i170.toNat).signs⟩ : DPart)).set i170.toNat (⟨(el (l171.set i170.toNat (⟨k169, (el l171 i170.toNat).n, (el l171 i170.toNat).signs⟩ : DPart)) i170.toNat).kind, k169 + 1, (el (l171.set i170.toNat (⟨k169, (el l171 i170.toNat).n, (el l171 i170.toNat).signs⟩ : DPart)) i170.toNat).signs⟩ : DPart)) i170.toNat).kind, (el ((l171.set i170.toNat (⟨k169, (el l171 i170.toNat).n, (el l171 i170.toNat).signs⟩ : DPart)).set i170.toNat (⟨(el (l171.set i170.toNat (⟨k169, (el l171 i170.toNat).n, (el l171 i170.toNat).signs⟩ : DPart)) i170.toNat).kind, k169 + 1, (el (l171.set i170.toNat (⟨k169, (el l171 i170.toNat).n, (el l171 i170.toNat).signs⟩ : DPart)) i170.toNat).signs⟩ : DPart)) i170.toNat).n, r222.2⟩ : DPart)) (Nat.lt_succ_self _) ⟨rfl, rfl, rfl, trivial⟩ ⟨hM, hx178⟩
 refine wc_exit <| sq_exit <| lp1_exit ?_
 cases hx
 obtain rfl := oi hx178
 replace hx := hx168
 refine bk_here <| sq_n <| wc_sr <| wmv rfl rfl <| was rfl rfl <| wl_sq <| wc_ret ?_
 obtain rfl := oi hx
 refine fin_ret [(iv k169)] ⟨rfl, trivial⟩ ?_
 replace hM := hM.t1
 exact ⟨(), rfl, (hM.fewer rsN).gives⟩

noncomputable def x_laws_markEntryS_b0 (k56 : Int) (i57 : Int) (l58 : List DEntry) : Option (Lr (Int × Int × List DEntry) (Int × List DEntry)) :=
  bif decide (i57 < (l58.length : Int)) then (xg (0 ≤ i57 ∧ i57 < (l58.length : Int)) <| xg (inI (k56 + 1)) <| xg (0 ≤ i57 ∧ i57 < ((l58.set i57.toNat (⟨k56, (el l58 i57.toNat).seq, (el l58 i57.toNat).o⟩ : DEntry)).length : Int)) <| xg (inI ((k56 + 1) + 1)) <| xg (0 ≤ i57 ∧ i57 < (((l58.set i57.toNat (⟨k56, (el l58 i57.toNat).seq, (el l58 i57.toNat).o⟩ : DEntry)).set i57.toNat (⟨(el (l58.set i57.toNat (⟨k56, (el l58 i57.toNat).seq, (el l58 i57.toNat).o⟩ : DEntry)) i57.toNat).client, k56 + 1, (el (l58.set i57.toNat (⟨k56, (el l58 i57.toNat).seq, (el l58 i57.toNat).o⟩ : DEntry)) i57.toNat).o⟩ : DEntry)).length : Int)) <| Option.bind (x_laws_markPartS ((el ((l58.set i57.toNat (⟨k56, (el l58 i57.toNat).seq, (el l58 i57.toNat).o⟩ : DEntry)).set i57.toNat (⟨(el (l58.set i57.toNat (⟨k56, (el l58 i57.toNat).seq, (el l58 i57.toNat).o⟩ : DEntry)) i57.toNat).client, k56 + 1, (el (l58.set i57.toNat (⟨k56, (el l58 i57.toNat).seq, (el l58 i57.toNat).o⟩ : DEntry)) i57.toNat).o⟩ : DEntry)) i57.toNat).o) ((k56 + 1) + 1)) fun r152 => xg (inI (i57 + 1)) <| some (Lr.go (r152.1, i57 + 1, ((l58.set i57.toNat (⟨k56, (el l58 i57.toNat).seq, (el l58 i57.toNat).o⟩ : DEntry)).set i57.toNat (⟨(el (l58.set i57.toNat (⟨k56, (el l58 i57.toNat).seq, (el l58 i57.toNat).o⟩ : DEntry)) i57.toNat).client, k56 + 1, (el (l58.set i57.toNat (⟨k56, (el l58 i57.toNat).seq, (el l58 i57.toNat).o⟩ : DEntry)) i57.toNat).o⟩ : DEntry)).set i57.toNat (⟨(el ((l58.set i57.toNat (⟨k56, (el l58 i57.toNat).seq, (el l58 i57.toNat).o⟩ : DEntry)).set i57.toNat (⟨(el (l58.set i57.toNat (⟨k56, (el l58 i57.toNat).seq, (el l58 i57.toNat).o⟩ : DEntry)) i57.toNat).client, k56 + 1, (el (l58.set i57.toNat (⟨k56, (el l58 i57.toNat).seq, (el l58 i57.toNat).o⟩ : DEntry)) i57.toNat).o⟩ : DEntry)) i57.toNat).client, (el ((l58.set i57.toNat (⟨k56, (el l58 i57.toNat).seq, (el l58 i57.toNat).o⟩ : DEntry)).set i57.toNat (⟨(el (l58.set i57.toNat (⟨k56, (el l58 i57.toNat).seq, (el l58 i57.toNat).o⟩ : DEntry)) i57.toNat).client, k56 + 1, (el (l58.set i57.toNat (⟨k56, (el l58 i57.toNat).seq, (el l58 i57.toNat).o⟩ : DEntry)) i57.toNat).o⟩ : DEntry)) i57.toNat).seq, r152.2⟩ : DEntry)))) else (some (Lr.out (k56, l58)))
noncomputable def x_laws_markEntryS_f0 (s160 : Int × Int × List DEntry) : Option (Lr (Int × Int × List DEntry) (Int × List DEntry)) := x_laws_markEntryS_b0 s160.1 s160.2.1 s160.2.2
noncomputable def x_laws_markEntryS (a : List DEntry) (k : Int) : Option (Int × List DEntry) :=
  Option.bind (iter (x_laws_markEntryS_f0) (k, 0, a)) fun (y161 : Int × List DEntry) => some (y161.1, y161.2)
theorem ct_laws_markEntryS (w : World) (X S : Bs) (a : List DEntry) (s_a : Sv) (k : Int) (hS : SX X S w)  (oL : Sep [oC (cSl 3 fDEntry a) s_a.v] X w) {r : Int × List DEntry} (hx : x_laws_markEntryS a k = some r) :
 Ret Tryz.prog 90 [s_a.v, (iv k)] w (fun u w' => ∃ _ : Unit, u = (iv r.1) ∧ Gives X S w [oC (cSl 3 fDEntry r.2) s_a.v] [] w') := by
 unfold x_laws_markEntryS at hx
 refine enter Tryz.func90 rfl Tryz.ntmps90 (by kernel_rfl) rfl ?_
 have hM := St.enter oL hS
 refine wc_sr <| was rfl rfl <| wl_sq <| wc_seq <| wc_sr <| was rfl rfl <| wl_sq <| wc_block <| bs hx fun y167 hx hx168 => ?_
 obtain ⟨m174, hx⟩ := iter_run hx
 refine wc_loop (un fun (m172 : Nat) => un fun (k169 : Int) => un fun (i170 : Int) => fun (l171 : List DEntry) => [(0, s_a.v), (1, (iv k169)), (5, (iv i170))]) (un fun (m172 : Nat) => un fun (k169 : Int) => un fun (i170 : Int) => fun (l171 : List DEntry) w' => St ⟨w, X, S⟩ [oC (cSl 3 fDEntry l171) s_a.v] [] w' ∧ iterN _ m172 (k169, i170, l171) = some y167) (fun p => p.1) (m174, k, 0, a) ⟨rfl, rfl, rfl, trivial⟩ ⟨hM, hx⟩ ?_
 rintro ⟨m172, k169, i170, l171⟩ w175 ⟨hM, hx⟩
 obtain ⟨m176, z177, rfl, hx, hx178⟩ := iterN_step hx
 unfold x_laws_markEntryS_f0 x_laws_markEntryS_b0 at hx
 try dsimp only at hx
 refine wc_seq <| wc_sr <| wmv rfl rfl <| wmv rfl rfl <| wv rfl (r_lenC u60 rfl (hM.seeO m0)) <| wv rfl (r_lss rfl rfl) <| wl_sq ?_
 refine wcx hx rfl (fun hx => ?_) (fun hx => ?_)
 refine wc_skip <| sq_n <| wc_seq <| wc_block <| wc_sr <| wmv rfl rfl <| wmv rfl rfl <| wmv rfl rfl <| xgs hx fun hg189 hx => ?_
 have hi188 : i170.toNat < l171.length := by omega
 refine wv rfl (r_ixC u60 sz158 rfl rfl (hM.seeO m0) hg189) <| wv rfl (r_fldC (i := i170.toNat) u158 rfl rfl sz3 rfl (hM.seeO m0) hi188) ?_
 refine w_exu (x_stE (f := fDEntry) (k := 3) (L := l171) (i := i170.toNat) (j := 0) (⟨k169, (el l171 i170.toNat).seq, (el l171 i170.toNat).o⟩ : DEntry) [cI k169] sz3 (fun _ => rfl) rfl rfl hi188 rfl rfl rfl rfl rfl (fun _ => zP (pV _ rfl) zN) hM ?_); intro w191 hM
 refine wl_sq <| wc_sr <| wmv rfl rfl <| xgs hx fun hg195 hx => wv rfl (r_add rfl rfl hg195) <| was rfl rfl <| wl_sq <| wc_sr <| wmv rfl rfl <| wmv rfl rfl <| wmv rfl rfl <| xgs hx fun hg202 hx => ?_
 have hi201 : i170.toNat < (l171.set i170.toNat (⟨k169, (el l171 i170.toNat).seq, (el l171 i170.toNat).o⟩ : DEntry)).length := by omega
 refine wv rfl (r_ixC u60 sz158 rfl rfl (hM.seeO m0) hg202) <| wv rfl (r_fldC (i := i170.toNat) u158 rfl rfl sz3 rfl (hM.seeO m0) hi201) ?_
 refine w_exu (x_stE (f := fDEntry) (k := 3) (L := (l171.set i170.toNat (⟨k169, (el l171 i170.toNat).seq, (el l171 i170.toNat).o⟩ : DEntry))) (i := i170.toNat) (j := 1) (⟨(el (l171.set i170.toNat (⟨k169, (el l171 i170.toNat).seq, (el l171 i170.toNat).o⟩ : DEntry)) i170.toNat).client, k169 + 1, (el (l171.set i170.toNat (⟨k169, (el l171 i170.toNat).seq, (el l171 i170.toNat).o⟩ : DEntry)) i170.toNat).o⟩ : DEntry) [cI (k169 + 1)] sz3 (fun _ => rfl) rfl rfl hi201 rfl rfl rfl rfl rfl (fun _ => zP (pV _ rfl) zN) hM ?_); intro w204 hM
 refine wl_sq <| wc_sr <| wmv rfl rfl <| xgs hx fun hg208 hx => wv rfl (r_add rfl rfl hg208) <| was rfl rfl <| wl_sq <| wc_region <| wmv rfl rfl <| wmv rfl rfl <| xgs hx fun hg214 hx => ?_
 have hi213 : i170.toNat < ((l171.set i170.toNat (⟨k169, (el l171 i170.toNat).seq, (el l171 i170.toNat).o⟩ : DEntry)).set i170.toNat (⟨(el (l171.set i170.toNat (⟨k169, (el l171 i170.toNat).seq, (el l171 i170.toNat).o⟩ : DEntry)) i170.toNat).client, k169 + 1, (el (l171.set i170.toNat (⟨k169, (el l171 i170.toNat).seq, (el l171 i170.toNat).o⟩ : DEntry)) i170.toNat).o⟩ : DEntry)).length := by omega
 refine wv rfl (r_ixC u60 sz158 rfl rfl (hM.seeO m0) hg214) <| wv rfl (r_fldC (i := i170.toNat) u158 rfl rfl sz57 rfl (hM.seeO m0) hi213) ?_
 obtain ⟨s217, hM, hc218⟩ := hM.leafO (i := i170.toNat) (j := 2) (fun _ => rfl) hi213 rfl
 refine wv rfl (r_ld u57 rfl rfl (hc218 _ (Rel.refl _))) <| wmv rfl rfl ?_
 have hM := hM.open (i := i170.toNat) (j := 2) m1 (fun _ => rfl) hi213 rfl
 refine bs hx fun r222 h223 hx => w_call rfl rfl (hM.callO (l := [oC (cSl 3 fDPart ((el ((l171.set i170.toNat (⟨k169, (el l171 i170.toNat).seq, (el l171 i170.toNat).o⟩ : DEntry)).set i170.toNat (⟨(el (l171.set i170.toNat (⟨k169, (el l171 i170.toNat).seq, (el l171 i170.toNat).o⟩ : DEntry)) i170.toNat).client, k169 + 1, (el (l171.set i170.toNat (⟨k169, (el l171 i170.toNat).seq, (el l171 i170.toNat).o⟩ : DEntry)) i170.toNat).o⟩ : DEntry)) i170.toNat).o)) s217.v]) fun X S oL hS hR hO => ct_laws_markPartS _ X S ((el ((l171.set i170.toNat (⟨k169, (el l171 i170.toNat).seq, (el l171 i170.toNat).o⟩ : DEntry)).set i170.toNat (⟨(el (l171.set i170.toNat (⟨k169, (el l171 i170.toNat).seq, (el l171 i170.toNat).o⟩ : DEntry)) i170.toNat).client, k169 + 1, (el (l171.set i170.toNat (⟨k169, (el l171 i170.toNat).seq, (el l171 i170.toNat).o⟩ : DEntry)) i170.toNat).o⟩ : DEntry)) i170.toNat).o) s217 ((k169 + 1) + 1) hS  oL h223) ?_
 rintro _ w224 ⟨_, rfl, hM⟩
 dsimp only [List.cons_append, List.nil_append] at hM
 have hM := hM.close (i := i170.toNat) (j := 2) (⟨(el ((l171.set i170.toNat (⟨k169, (el l171 i170.toNat).seq, (el l171 i170.toNat).o⟩ : DEntry)).set i170.toNat (⟨(el (l171.set i170.toNat (⟨k169, (el l171 i170.toNat).seq, (el l171 i170.toNat).o⟩ : DEntry)) i170.toNat).client, k169 + 1, (el (l171.set i170.toNat (⟨k169, (el l171 i170.toNat).seq, (el l171 i170.toNat).o⟩ : DEntry)) i170.toNat).o⟩ : DEntry)) i170.toNat).client, (el ((l171.set i170.toNat (⟨k169, (el l171 i170.toNat).seq, (el l171 i170.toNat).o⟩ : DEntry)).set i170.toNat (⟨(el (l171.set i170.toNat (⟨k169, (el l171 i170.toNat).seq, (el l171 i170.toNat).o⟩ : DEntry)) i170.toNat).client, k169 + 1, (el (l171.set i170.toNat (⟨k169, (el l171 i170.toNat).seq, (el l171 i170.toNat).o⟩ : DEntry)) i170.toNat).o⟩ : DEntry)) i170.toNat).seq, r222.2⟩ : DEntry) (fun _ => rfl) hi213 rfl rfl
 refine was rfl rfl <| wl_nil <| bk_n <| sq_n <| wc_region <| wmv rfl rfl <| xgs hx fun hg228 hx => wv rfl (r_add rfl rfl hg228) <| was rfl rfl <| wl_nil ?_
 cases hx
 exact lp_end (m176, r222.1, i170 + 1, ((l171.set i170.toNat (⟨k169, (el l171 i170.toNat).seq, (el l171 i170.toNat).o⟩ : DEntry)).set i170.toNat (⟨(el (l171.set i170.toNat (⟨k169, (el l171 i170.toNat).seq, (el l171 i170.toNat).o⟩ : DEntry)) i170.toNat).client, k169 + 1, (el (l171.set i170.toNat (⟨k169, (el l171 i170.toNat).seq, (el l171 i170.toNat).o⟩ : DEntry)) i170.toNat).o⟩ : DEntry)).set i170.toNat (⟨(el ((l171.set i170.toNat (⟨k169, (el l171 i170.toNat).seq, (el l171 i170.toNat).o⟩ : DEntry)).set i170.toNat (⟨(el (l171.set i170.toNat (⟨k169, (el l171 i170.toNat).seq, (el l171 i170.toNat).o⟩ : DEntry)) i170.toNat).client, k169 + 1, (el (l171.set i170.toNat (⟨k169, (el l171 i170.toNat).seq, (el l171 i170.toNat).o⟩ : DEntry)) i170.toNat).o⟩ : DEntry)) i170.toNat).client, (el ((l171.set i170.toNat (⟨k169, (el l171 i170.toNat).seq, (el l171 i170.toNat).o⟩ : DEntry)).set i170.toNat (⟨(el (l171.set i170.toNat (⟨k169, (el l171 i170.toNat).seq, (el l171 i170.toNat).o⟩ : DEntry)) i170.toNat).client, k169 + 1, (el (l171.set i170.toNat (⟨k169, (el l171 i170.toNat).seq, (el l171 i170.toNat).o⟩ : DEntry)) i170.toNat).o⟩ : DEntry)) i170.toNat).seq, r222.2⟩ : DEntry)) (Nat.lt_succ_self _) ⟨rfl, rfl, rfl, trivial⟩ ⟨hM, hx178⟩
 refine wc_exit <| sq_exit <| lp1_exit ?_
 cases hx
 obtain rfl := oi hx178
 replace hx := hx168
 refine bk_here <| sq_n <| wc_sr <| wmv rfl rfl <| was rfl rfl <| wl_sq <| wc_ret ?_
 obtain rfl := oi hx
 refine fin_ret [(iv k169)] ⟨rfl, trivial⟩ ?_
 replace hM := hM.t1
 exact ⟨(), rfl, (hM.fewer rsN).gives⟩

noncomputable def x_laws_markSeenS_b0 (k53 : Int) (i54 : Int) (l55 : List DSeen) : Option (Lr (Int × Int × List DSeen) (Int × List DSeen)) :=
  bif decide (i54 < (l55.length : Int)) then (xg (0 ≤ i54 ∧ i54 < (l55.length : Int)) <| xg (inI (k53 + 1)) <| xg (0 ≤ i54 ∧ i54 < ((l55.set i54.toNat (⟨k53, (el l55 i54.toNat).seq, (el l55 i54.toNat).rev⟩ : DSeen)).length : Int)) <| xg (inI ((k53 + 1) + 1)) <| xg (0 ≤ i54 ∧ i54 < (((l55.set i54.toNat (⟨k53, (el l55 i54.toNat).seq, (el l55 i54.toNat).rev⟩ : DSeen)).set i54.toNat (⟨(el (l55.set i54.toNat (⟨k53, (el l55 i54.toNat).seq, (el l55 i54.toNat).rev⟩ : DSeen)) i54.toNat).client, k53 + 1, (el (l55.set i54.toNat (⟨k53, (el l55 i54.toNat).seq, (el l55 i54.toNat).rev⟩ : DSeen)) i54.toNat).rev⟩ : DSeen)).length : Int)) <| xg (inI (((k53 + 1) + 1) + 1)) <| xg (inI (i54 + 1)) <| some (Lr.go (((k53 + 1) + 1) + 1, i54 + 1, ((l55.set i54.toNat (⟨k53, (el l55 i54.toNat).seq, (el l55 i54.toNat).rev⟩ : DSeen)).set i54.toNat (⟨(el (l55.set i54.toNat (⟨k53, (el l55 i54.toNat).seq, (el l55 i54.toNat).rev⟩ : DSeen)) i54.toNat).client, k53 + 1, (el (l55.set i54.toNat (⟨k53, (el l55 i54.toNat).seq, (el l55 i54.toNat).rev⟩ : DSeen)) i54.toNat).rev⟩ : DSeen)).set i54.toNat (⟨(el ((l55.set i54.toNat (⟨k53, (el l55 i54.toNat).seq, (el l55 i54.toNat).rev⟩ : DSeen)).set i54.toNat (⟨(el (l55.set i54.toNat (⟨k53, (el l55 i54.toNat).seq, (el l55 i54.toNat).rev⟩ : DSeen)) i54.toNat).client, k53 + 1, (el (l55.set i54.toNat (⟨k53, (el l55 i54.toNat).seq, (el l55 i54.toNat).rev⟩ : DSeen)) i54.toNat).rev⟩ : DSeen)) i54.toNat).client, (el ((l55.set i54.toNat (⟨k53, (el l55 i54.toNat).seq, (el l55 i54.toNat).rev⟩ : DSeen)).set i54.toNat (⟨(el (l55.set i54.toNat (⟨k53, (el l55 i54.toNat).seq, (el l55 i54.toNat).rev⟩ : DSeen)) i54.toNat).client, k53 + 1, (el (l55.set i54.toNat (⟨k53, (el l55 i54.toNat).seq, (el l55 i54.toNat).rev⟩ : DSeen)) i54.toNat).rev⟩ : DSeen)) i54.toNat).seq, (k53 + 1) + 1⟩ : DSeen)))) else (some (Lr.out (k53, l55)))
noncomputable def x_laws_markSeenS_f0 (s151 : Int × Int × List DSeen) : Option (Lr (Int × Int × List DSeen) (Int × List DSeen)) := x_laws_markSeenS_b0 s151.1 s151.2.1 s151.2.2
noncomputable def x_laws_markSeenS (a : List DSeen) (k : Int) : Option (Int × List DSeen) :=
  Option.bind (iter (x_laws_markSeenS_f0) (k, 0, a)) fun (y152 : Int × List DSeen) => some (y152.1, y152.2)
theorem ct_laws_markSeenS (w : World) (X S : Bs) (a : List DSeen) (s_a : Sv) (k : Int) (hS : SX X S w)  (oL : Sep [oC (cSl 3 fDSeen a) s_a.v] X w) {r : Int × List DSeen} (hx : x_laws_markSeenS a k = some r) :
 Ret Tryz.prog 135 [s_a.v, (iv k)] w (fun u w' => ∃ _ : Unit, u = (iv r.1) ∧ Gives X S w [oC (cSl 3 fDSeen r.2) s_a.v] [] w') := by
 unfold x_laws_markSeenS at hx
 refine enter Tryz.func135 rfl Tryz.ntmps135 (by kernel_rfl) rfl ?_
 have hM := St.enter oL hS
 refine wc_sr <| was rfl rfl <| wl_sq <| wc_seq <| wc_sr <| was rfl rfl <| wl_sq <| wc_block <| bs hx fun y158 hx hx159 => ?_
 obtain ⟨m165, hx⟩ := iter_run hx
 refine wc_loop (un fun (m163 : Nat) => un fun (k160 : Int) => un fun (i161 : Int) => fun (l162 : List DSeen) => [(0, s_a.v), (1, (iv k160)), (5, (iv i161))]) (un fun (m163 : Nat) => un fun (k160 : Int) => un fun (i161 : Int) => fun (l162 : List DSeen) w' => St ⟨w, X, S⟩ [oC (cSl 3 fDSeen l162) s_a.v] [] w' ∧ iterN _ m163 (k160, i161, l162) = some y158) (fun p => p.1) (m165, k, 0, a) ⟨rfl, rfl, rfl, trivial⟩ ⟨hM, hx⟩ ?_
 rintro ⟨m163, k160, i161, l162⟩ w166 ⟨hM, hx⟩
 obtain ⟨m167, z168, rfl, hx, hx169⟩ := iterN_step hx
 unfold x_laws_markSeenS_f0 x_laws_markSeenS_b0 at hx
 try dsimp only at hx
 refine wc_seq <| wc_sr <| wmv rfl rfl <| wmv rfl rfl <| wv rfl (r_lenC u130 rfl (hM.seeO m0)) <| wv rfl (r_lss rfl rfl) <| wl_sq ?_
 refine wcx hx rfl (fun hx => ?_) (fun hx => ?_)
 refine wc_skip <| sq_n <| wc_seq <| wc_block <| wc_sr <| wmv rfl rfl <| wmv rfl rfl <| wmv rfl rfl <| xgs hx fun hg180 hx => ?_
 have hi179 : i161.toNat < l162.length := by omega
 refine wv rfl (r_ixC u130 sz168 rfl rfl (hM.seeO m0) hg180) <| wv rfl (r_fldC (i := i161.toNat) u168 rfl rfl sz3 rfl (hM.seeO m0) hi179) ?_
 refine w_exu (x_stE (f := fDSeen) (k := 3) (L := l162) (i := i161.toNat) (j := 0) (⟨k160, (el l162 i161.toNat).seq, (el l162 i161.toNat).rev⟩ : DSeen) [cI k160] sz3 (fun _ => rfl) rfl rfl hi179 rfl rfl rfl rfl rfl (fun _ => zP (pV _ rfl) zN) hM ?_); intro w182 hM
 refine wl_sq <| wc_sr <| wmv rfl rfl <| xgs hx fun hg186 hx => wv rfl (r_add rfl rfl hg186) <| was rfl rfl <| wl_sq <| wc_sr <| wmv rfl rfl <| wmv rfl rfl <| wmv rfl rfl <| xgs hx fun hg193 hx => ?_
 have hi192 : i161.toNat < (l162.set i161.toNat (⟨k160, (el l162 i161.toNat).seq, (el l162 i161.toNat).rev⟩ : DSeen)).length := by omega
 refine wv rfl (r_ixC u130 sz168 rfl rfl (hM.seeO m0) hg193) <| wv rfl (r_fldC (i := i161.toNat) u168 rfl rfl sz3 rfl (hM.seeO m0) hi192) ?_
 refine w_exu (x_stE (f := fDSeen) (k := 3) (L := (l162.set i161.toNat (⟨k160, (el l162 i161.toNat).seq, (el l162 i161.toNat).rev⟩ : DSeen))) (i := i161.toNat) (j := 1) (⟨(el (l162.set i161.toNat (⟨k160, (el l162 i161.toNat).seq, (el l162 i161.toNat).rev⟩ : DSeen)) i161.toNat).client, k160 + 1, (el (l162.set i161.toNat (⟨k160, (el l162 i161.toNat).seq, (el l162 i161.toNat).rev⟩ : DSeen)) i161.toNat).rev⟩ : DSeen) [cI (k160 + 1)] sz3 (fun _ => rfl) rfl rfl hi192 rfl rfl rfl rfl rfl (fun _ => zP (pV _ rfl) zN) hM ?_); intro w195 hM
 refine wl_sq <| wc_sr <| wmv rfl rfl <| xgs hx fun hg199 hx => wv rfl (r_add rfl rfl hg199) <| was rfl rfl <| wl_sq <| wc_sr <| wmv rfl rfl <| wmv rfl rfl <| wmv rfl rfl <| xgs hx fun hg206 hx => ?_
 have hi205 : i161.toNat < ((l162.set i161.toNat (⟨k160, (el l162 i161.toNat).seq, (el l162 i161.toNat).rev⟩ : DSeen)).set i161.toNat (⟨(el (l162.set i161.toNat (⟨k160, (el l162 i161.toNat).seq, (el l162 i161.toNat).rev⟩ : DSeen)) i161.toNat).client, k160 + 1, (el (l162.set i161.toNat (⟨k160, (el l162 i161.toNat).seq, (el l162 i161.toNat).rev⟩ : DSeen)) i161.toNat).rev⟩ : DSeen)).length := by omega
 refine wv rfl (r_ixC u130 sz168 rfl rfl (hM.seeO m0) hg206) <| wv rfl (r_fldC (i := i161.toNat) u168 rfl rfl sz3 rfl (hM.seeO m0) hi205) ?_
 refine w_exu (x_stE (f := fDSeen) (k := 3) (L := ((l162.set i161.toNat (⟨k160, (el l162 i161.toNat).seq, (el l162 i161.toNat).rev⟩ : DSeen)).set i161.toNat (⟨(el (l162.set i161.toNat (⟨k160, (el l162 i161.toNat).seq, (el l162 i161.toNat).rev⟩ : DSeen)) i161.toNat).client, k160 + 1, (el (l162.set i161.toNat (⟨k160, (el l162 i161.toNat).seq, (el l162 i161.toNat).rev⟩ : DSeen)) i161.toNat).rev⟩ : DSeen))) (i := i161.toNat) (j := 2) (⟨(el ((l162.set i161.toNat (⟨k160, (el l162 i161.toNat).seq, (el l162 i161.toNat).rev⟩ : DSeen)).set i161.toNat (⟨(el (l162.set i161.toNat (⟨k160, (el l162 i161.toNat).seq, (el l162 i161.toNat).rev⟩ : DSeen)) i161.toNat).client, k160 + 1, (el (l162.set i161.toNat (⟨k160, (el l162 i161.toNat).seq, (el l162 i161.toNat).rev⟩ : DSeen)) i161.toNat).rev⟩ : DSeen)) i161.toNat).client, (el ((l162.set i161.toNat (⟨k160, (el l162 i161.toNat).seq, (el l162 i161.toNat).rev⟩ : DSeen)).set i161.toNat (⟨(el (l162.set i161.toNat (⟨k160, (el l162 i161.toNat).seq, (el l162 i161.toNat).rev⟩ : DSeen)) i161.toNat).client, k160 + 1, (el (l162.set i161.toNat (⟨k160, (el l162 i161.toNat).seq, (el l162 i161.toNat).rev⟩ : DSeen)) i161.toNat).rev⟩ : DSeen)) i161.toNat).seq, (k160 + 1) + 1⟩ : DSeen) [cI ((k160 + 1) + 1)] sz3 (fun _ => rfl) rfl rfl hi205 rfl rfl rfl rfl rfl (fun _ => zP (pV _ rfl) zN) hM ?_); intro w208 hM
 refine wl_sq <| wc_region <| wmv rfl rfl <| xgs hx fun hg212 hx => wv rfl (r_add rfl rfl hg212) <| was rfl rfl <| wl_nil <| bk_n <| sq_n <| wc_region <| wmv rfl rfl <| xgs hx fun hg216 hx => wv rfl (r_add rfl rfl hg216) <| was rfl rfl ?_
 refine wl_nil ?_
 cases hx
 exact lp_end (m167, ((k160 + 1) + 1) + 1, i161 + 1, ((l162.set i161.toNat (⟨k160, (el l162 i161.toNat).seq, (el l162 i161.toNat).rev⟩ : DSeen)).set i161.toNat (⟨(el (l162.set i161.toNat (⟨k160, (el l162 i161.toNat).seq, (el l162 i161.toNat).rev⟩ : DSeen)) i161.toNat).client, k160 + 1, (el (l162.set i161.toNat (⟨k160, (el l162 i161.toNat).seq, (el l162 i161.toNat).rev⟩ : DSeen)) i161.toNat).rev⟩ : DSeen)).set i161.toNat (⟨(el ((l162.set i161.toNat (⟨k160, (el l162 i161.toNat).seq, (el l162 i161.toNat).rev⟩ : DSeen)).set i161.toNat (⟨(el (l162.set i161.toNat (⟨k160, (el l162 i161.toNat).seq, (el l162 i161.toNat).rev⟩ : DSeen)) i161.toNat).client, k160 + 1, (el (l162.set i161.toNat (⟨k160, (el l162 i161.toNat).seq, (el l162 i161.toNat).rev⟩ : DSeen)) i161.toNat).rev⟩ : DSeen)) i161.toNat).client, (el ((l162.set i161.toNat (⟨k160, (el l162 i161.toNat).seq, (el l162 i161.toNat).rev⟩ : DSeen)).set i161.toNat (⟨(el (l162.set i161.toNat (⟨k160, (el l162 i161.toNat).seq, (el l162 i161.toNat).rev⟩ : DSeen)) i161.toNat).client, k160 + 1, (el (l162.set i161.toNat (⟨k160, (el l162 i161.toNat).seq, (el l162 i161.toNat).rev⟩ : DSeen)) i161.toNat).rev⟩ : DSeen)) i161.toNat).seq, (k160 + 1) + 1⟩ : DSeen)) (Nat.lt_succ_self _) ⟨rfl, rfl, rfl, trivial⟩ ⟨hM, hx169⟩
 refine wc_exit <| sq_exit <| lp1_exit ?_
 cases hx
 obtain rfl := oi hx169
 replace hx := hx159
 refine bk_here <| sq_n <| wc_sr <| wmv rfl rfl <| was rfl rfl <| wl_sq <| wc_ret ?_
 obtain rfl := oi hx
 refine fin_ret [(iv k160)] ⟨rfl, trivial⟩ ?_
 replace hM := hM.t1
 exact ⟨(), rfl, (hM.fewer rsN).gives⟩

noncomputable def x_laws_markDocS_b0 (k101 : Int) (i102 : Int) (l103 : List DDoc) : Option (Lr (Int × Int × List DDoc) (Int × List DDoc)) :=
  bif decide (i102 < (l103.length : Int)) then (Option.bind (x_laws_markText k101) fun r207 => xg (0 ≤ i102 ∧ i102 < (l103.length : Int)) <| Option.bind (nm (l103.set i102.toNat (⟨r207.1, (el l103 i102.toNat).from_, (el l103 i102.toNat).text, (el l103 i102.toNat).list, (el l103 i102.toNat).seen⟩ : DDoc))) fun (l216 : List DDoc) => xg (inI (k101 + 1)) <| xg (0 ≤ i102 ∧ i102 < (l216.length : Int)) <| Option.bind (nm (l216.set i102.toNat (⟨(el l216 i102.toNat).name, k101 + 1, (el l216 i102.toNat).text, (el l216 i102.toNat).list, (el l216 i102.toNat).seen⟩ : DDoc))) fun (l231 : List DDoc) => xg (inI ((k101 + 1) + 1)) <| xg (0 ≤ i102 ∧ i102 < (l231.length : Int)) <| Option.bind (x_laws_markIntS ((el l231 i102.toNat).text) ((k101 + 1) + 1)) fun r249 => Option.bind (nm (l231.set i102.toNat (⟨(el l231 i102.toNat).name, (el l231 i102.toNat).from_, r249.2, (el l231 i102.toNat).list, (el l231 i102.toNat).seen⟩ : DDoc))) fun (l252 : List DDoc) => xg (0 ≤ i102 ∧ i102 < (l252.length : Int)) <| Option.bind (x_laws_markEntryS ((el l252 i102.toNat).list) r249.1) fun r267 => Option.bind (nm (l252.set i102.toNat (⟨(el l252 i102.toNat).name, (el l252 i102.toNat).from_, (el l252 i102.toNat).text, r267.2, (el l252 i102.toNat).seen⟩ : DDoc))) fun (l270 : List DDoc) => xg (0 ≤ i102 ∧ i102 < (l270.length : Int)) <| Option.bind (x_laws_markSeenS ((el l270 i102.toNat).seen) r267.1) fun r285 => Option.bind (nm (l270.set i102.toNat (⟨(el l270 i102.toNat).name, (el l270 i102.toNat).from_, (el l270 i102.toNat).text, (el l270 i102.toNat).list, r285.2⟩ : DDoc))) fun (l288 : List DDoc) => xg (inI (i102 + 1)) <| some (Lr.go (r285.1, i102 + 1, l288))) else (some (Lr.out (k101, l103)))
noncomputable def x_laws_markDocS_f0 (s295 : Int × Int × List DDoc) : Option (Lr (Int × Int × List DDoc) (Int × List DDoc)) := x_laws_markDocS_b0 s295.1 s295.2.1 s295.2.2
noncomputable def x_laws_markDocS (a : List DDoc) (k : Int) : Option (Int × List DDoc) :=
  Option.bind (iter (x_laws_markDocS_f0) (k, 0, a)) fun (y296 : Int × List DDoc) => some (y296.1, y296.2)
theorem ct_laws_markDocS (w : World) (X S : Bs) (a : List DDoc) (s_a : Sv) (k : Int) (hS : SX X S w)  (oL : Sep [oC (cSl 5 fDDoc a) s_a.v] X w) {r : Int × List DDoc} (hx : x_laws_markDocS a k = some r) :
 Ret Tryz.prog 87 [s_a.v, (iv k)] w (fun u w' => ∃ _ : Unit, u = (iv r.1) ∧ Gives X S w [oC (cSl 5 fDDoc r.2) s_a.v] [] w') := by
 unfold x_laws_markDocS at hx
 refine enter Tryz.func87 rfl Tryz.ntmps87 (by kernel_rfl) rfl ?_
 have hM := St.enter oL hS
 refine wc_sr <| was rfl rfl <| wl_sq <| wc_seq <| wc_sr <| was rfl rfl <| wl_sq <| wc_block <| bs hx fun y302 hx hx303 => ?_
 obtain ⟨m309, hx⟩ := iter_run hx
 refine wc_loop (un fun (m307 : Nat) => un fun (k304 : Int) => un fun (i305 : Int) => fun (l306 : List DDoc) => [(0, s_a.v), (1, (iv k304)), (5, (iv i305))]) (un fun (m307 : Nat) => un fun (k304 : Int) => un fun (i305 : Int) => fun (l306 : List DDoc) w' => St ⟨w, X, S⟩ [oC (cSl 5 fDDoc l306) s_a.v] [] w' ∧ iterN _ m307 (k304, i305, l306) = some y302) (fun p => p.1) (m309, k, 0, a) ⟨rfl, rfl, rfl, trivial⟩ ⟨hM, hx⟩ ?_
 rintro ⟨m307, k304, i305, l306⟩ w310 ⟨hM, hx⟩
 obtain ⟨m311, z312, rfl, hx, hx313⟩ := iterN_step hx
 unfold x_laws_markDocS_f0 x_laws_markDocS_b0 at hx
 try dsimp only at hx
 refine wc_seq <| wc_sr <| wmv rfl rfl <| wmv rfl rfl <| wv rfl (r_lenC u33 rfl (hM.seeO m0)) <| wv rfl (r_lss rfl rfl) <| wl_sq ?_
 refine wcx hx rfl (fun hx => ?_) (fun hx => ?_)
 refine wc_skip <| sq_n <| wc_seq <| wc_block <| wc_sr <| wmv rfl rfl <| wmv rfl rfl <| wmv rfl rfl <| bs hx fun r322 h323 hx => w_cv hM rfl rfl (fun X S oL hS hR hO => ct_laws_markText _ X S k304 hS  oL h323) fun _ hM => xgs hx fun hg327 hx => ?_
 have hi326 : i305.toNat < l306.length := by omega
 refine wv rfl (r_ixC u33 sz132 rfl rfl (hM.seeO m0) hg327) <| wv rfl (r_fldC (i := i305.toNat) u132 rfl rfl sz9 rfl (hM.seeO m0) hi326) ?_
 refine w_exu (x_stE (f := fDDoc) (k := 5) (L := l306) (i := i305.toNat) (j := 0) (⟨r322.1, (el l306 i305.toNat).from_, (el l306 i305.toNat).text, (el l306 i305.toNat).list, (el l306 i305.toNat).seen⟩ : DDoc) [cT r322.1] sz9 (fun _ => rfl) rfl rfl hi326 rfl rfl rfl rfl rfl (fun _ => zP (pV _ rfl) zN) hM ?_); intro w329 hM
 refine bs hx fun l331 hl332 hx => ?_
 have hM := hM.ren (oi hl332)
 refine wl_sq <| wc_sr <| wmv rfl rfl <| xgs hx fun hg335 hx => wv rfl (r_add rfl rfl hg335) <| was rfl rfl <| wl_sq <| wc_sr <| wmv rfl rfl <| wmv rfl rfl <| wmv rfl rfl <| xgs hx fun hg342 hx => ?_
 have hi341 : i305.toNat < l331.length := by omega
 refine wv rfl (r_ixC u33 sz132 rfl rfl (hM.seeO m0) hg342) <| wv rfl (r_fldC (i := i305.toNat) u132 rfl rfl sz3 rfl (hM.seeO m0) hi341) ?_
 refine w_exu (x_stE (f := fDDoc) (k := 5) (L := l331) (i := i305.toNat) (j := 1) (⟨(el l331 i305.toNat).name, k304 + 1, (el l331 i305.toNat).text, (el l331 i305.toNat).list, (el l331 i305.toNat).seen⟩ : DDoc) [cI (k304 + 1)] sz3 (fun _ => rfl) rfl rfl hi341 rfl rfl rfl rfl rfl (fun _ => zP (pV _ rfl) zN) hM ?_); intro w344 hM
 refine bs hx fun l346 hl347 hx => ?_
 have hM := hM.ren (oi hl347)
 refine wl_sq <| wc_sr <| wmv rfl rfl <| xgs hx fun hg350 hx => wv rfl (r_add rfl rfl hg350) <| was rfl rfl <| wl_sq <| wc_sr <| wmv rfl rfl <| wmv rfl rfl <| xgs hx fun hg356 hx => ?_
 have hi355 : i305.toNat < l346.length := by omega
 refine wv rfl (r_ixC u33 sz132 rfl rfl (hM.seeO m0) hg356) <| wv rfl (r_fldC (i := i305.toNat) u132 rfl rfl sz26 rfl (hM.seeO m0) hi355) ?_
 obtain ⟨s359, hM, hc360⟩ := hM.leafO (i := i305.toNat) (j := 2) (fun _ => rfl) hi355 rfl
 refine wv rfl (r_ld u26 rfl rfl (hc360 _ (Rel.refl _))) <| wmv rfl rfl ?_
 have hM := hM.open (i := i305.toNat) (j := 2) m1 (fun _ => rfl) hi355 rfl
 refine bs hx fun r364 h365 hx => w_call rfl rfl (hM.callO (l := [oC (cSl 1 fI ((el l346 i305.toNat).text)) s359.v]) fun X S oL hS hR hO => ct_laws_markIntS _ X S ((el l346 i305.toNat).text) s359 ((k304 + 1) + 1) hS  oL h365) ?_
 rintro _ w366 ⟨_, rfl, hM⟩
 dsimp only [List.cons_append, List.nil_append] at hM
 have hM := hM.close (i := i305.toNat) (j := 2) (⟨(el l346 i305.toNat).name, (el l346 i305.toNat).from_, r364.2, (el l346 i305.toNat).list, (el l346 i305.toNat).seen⟩ : DDoc) (fun _ => rfl) hi355 rfl rfl
 refine bs hx fun l367 hl368 hx => ?_
 have hM := hM.ren (oi hl368)
 refine was rfl rfl <| wl_sq <| wc_sr <| wmv rfl rfl <| wmv rfl rfl <| xgs hx fun hg374 hx => ?_
 have hi373 : i305.toNat < l367.length := by omega
 refine wv rfl (r_ixC u33 sz132 rfl rfl (hM.seeO m0) hg374) <| wv rfl (r_fldC (i := i305.toNat) u132 rfl rfl sz60 rfl (hM.seeO m0) hi373) ?_
 obtain ⟨s377, hM, hc378⟩ := hM.leafO (i := i305.toNat) (j := 3) (fun _ => rfl) hi373 rfl
 refine wv rfl (r_ld u60 rfl rfl (hc378 _ (Rel.refl _))) <| wmv rfl rfl ?_
 have hM := hM.open (i := i305.toNat) (j := 3) m1 (fun _ => rfl) hi373 rfl
 refine bs hx fun r382 h383 hx => w_call rfl rfl (hM.callO (l := [oC (cSl 3 fDEntry ((el l367 i305.toNat).list)) s377.v]) fun X S oL hS hR hO => ct_laws_markEntryS _ X S ((el l367 i305.toNat).list) s377 r364.1 hS  oL h383) ?_
 rintro _ w384 ⟨_, rfl, hM⟩
 dsimp only [List.cons_append, List.nil_append] at hM
 have hM := hM.close (i := i305.toNat) (j := 3) (⟨(el l367 i305.toNat).name, (el l367 i305.toNat).from_, (el l367 i305.toNat).text, r382.2, (el l367 i305.toNat).seen⟩ : DDoc) (fun _ => rfl) hi373 rfl rfl
 refine bs hx fun l385 hl386 hx => ?_
 have hM := hM.ren (oi hl386)
 refine was rfl rfl <| wl_sq <| wc_region <| wmv rfl rfl <| wmv rfl rfl <| xgs hx fun hg392 hx => ?_
 have hi391 : i305.toNat < l385.length := by omega
 refine wv rfl (r_ixC u33 sz132 rfl rfl (hM.seeO m0) hg392) <| wv rfl (r_fldC (i := i305.toNat) u132 rfl rfl sz130 rfl (hM.seeO m0) hi391) ?_
 obtain ⟨s395, hM, hc396⟩ := hM.leafO (i := i305.toNat) (j := 4) (fun _ => rfl) hi391 rfl
 refine wv rfl (r_ld u130 rfl rfl (hc396 _ (Rel.refl _))) <| wmv rfl rfl ?_
 have hM := hM.open (i := i305.toNat) (j := 4) m1 (fun _ => rfl) hi391 rfl
 refine bs hx fun r400 h401 hx => w_call rfl rfl (hM.callO (l := [oC (cSl 3 fDSeen ((el l385 i305.toNat).seen)) s395.v]) fun X S oL hS hR hO => ct_laws_markSeenS _ X S ((el l385 i305.toNat).seen) s395 r382.1 hS  oL h401) ?_
 rintro _ w402 ⟨_, rfl, hM⟩
 dsimp only [List.cons_append, List.nil_append] at hM
 have hM := hM.close (i := i305.toNat) (j := 4) (⟨(el l385 i305.toNat).name, (el l385 i305.toNat).from_, (el l385 i305.toNat).text, (el l385 i305.toNat).list, r400.2⟩ : DDoc) (fun _ => rfl) hi391 rfl rfl
 refine bs hx fun l403 hl404 hx => ?_
 have hM := hM.ren (oi hl404)
 refine was rfl rfl <| wl_nil <| bk_n <| sq_n <| wc_region <| wmv rfl rfl <| xgs hx fun hg408 hx => wv rfl (r_add rfl rfl hg408) <| was rfl rfl <| wl_nil ?_
 cases hx
 exact lp_end (m311, r400.1, i305 + 1, l403) (Nat.lt_succ_self _) ⟨rfl, rfl, rfl, trivial⟩ ⟨hM, hx313⟩
 refine wc_exit <| sq_exit <| lp1_exit ?_
 cases hx
 obtain rfl := oi hx313
 replace hx := hx303
 refine bk_here <| sq_n <| wc_sr <| wmv rfl rfl <| was rfl rfl <| wl_sq <| wc_ret ?_
 obtain rfl := oi hx
 refine fin_ret [(iv k304)] ⟨rfl, trivial⟩ ?_
 replace hM := hM.t1
 exact ⟨(), rfl, (hM.fewer rsN).gives⟩

noncomputable def x_laws_markSubS_b0 (k117 : Int) (i118 : Int) (l119 : List DSub) : Option (Lr (Int × Int × List DSub) (Int × List DSub)) :=
  bif decide (i118 < (l119.length : Int)) then (xg (0 ≤ i118 ∧ i118 < (l119.length : Int)) <| Option.bind (nm (l119.set i118.toNat (⟨k117, (el l119 i118.toNat).doc, (el l119 i118.toNat).r⟩ : DSub))) fun (l245 : List DSub) => xg (inI (k117 + 1)) <| Option.bind (x_laws_markText (k117 + 1)) fun r254 => xg (0 ≤ i118 ∧ i118 < (l245.length : Int)) <| Option.bind (nm (l245.set i118.toNat (⟨(el l245 i118.toNat).id, r254.1, (el l245 i118.toNat).r⟩ : DSub))) fun (l263 : List DSub) => xg (inI ((k117 + 1) + 1)) <| xg (0 ≤ i118 ∧ i118 < (l263.length : Int)) <| Option.bind (nm (l263.set i118.toNat (⟨(el l263 i118.toNat).id, (el l263 i118.toNat).doc, (⟨(k117 + 1) + 1, (el l263 i118.toNat).r.next, (el l263 i118.toNat).r.out, (el l263 i118.toNat).r.list⟩ : DRing)⟩ : DSub))) fun (l279 : List DSub) => xg (inI (((k117 + 1) + 1) + 1)) <| xg (0 ≤ i118 ∧ i118 < (l279.length : Int)) <| Option.bind (nm (l279.set i118.toNat (⟨(el l279 i118.toNat).id, (el l279 i118.toNat).doc, (⟨(el l279 i118.toNat).r.cap, ((k117 + 1) + 1) + 1, (el l279 i118.toNat).r.out, (el l279 i118.toNat).r.list⟩ : DRing)⟩ : DSub))) fun (l295 : List DSub) => xg (inI ((((k117 + 1) + 1) + 1) + 1)) <| xg (0 ≤ ((((k117 + 1) + 1) + 1) + 1) ∧ 0 < (3 : Int)) <| xg (0 ≤ i118 ∧ i118 < (l295.length : Int)) <| Option.bind (nm (l295.set i118.toNat (⟨(el l295 i118.toNat).id, (el l295 i118.toNat).doc, (⟨(el l295 i118.toNat).r.cap, (el l295 i118.toNat).r.next, decide ((((((k117 + 1) + 1) + 1) + 1) % 3) = 0), (el l295 i118.toNat).r.list⟩ : DRing)⟩ : DSub))) fun (l314 : List DSub) => xg (inI (((((k117 + 1) + 1) + 1) + 1) + 1)) <| xg (0 ≤ i118 ∧ i118 < (l314.length : Int)) <| Option.bind (x_laws_markEntryS ((el l314 i118.toNat).r.list) (((((k117 + 1) + 1) + 1) + 1) + 1)) fun r333 => Option.bind (nm (l314.set i118.toNat (⟨(el l314 i118.toNat).id, (el l314 i118.toNat).doc, (⟨(el l314 i118.toNat).r.cap, (el l314 i118.toNat).r.next, (el l314 i118.toNat).r.out, r333.2⟩ : DRing)⟩ : DSub))) fun (l336 : List DSub) => xg (inI (i118 + 1)) <| some (Lr.go (r333.1, i118 + 1, l336))) else (some (Lr.out (k117, l119)))
noncomputable def x_laws_markSubS_f0 (s343 : Int × Int × List DSub) : Option (Lr (Int × Int × List DSub) (Int × List DSub)) := x_laws_markSubS_b0 s343.1 s343.2.1 s343.2.2
noncomputable def x_laws_markSubS (a : List DSub) (k : Int) : Option (Int × List DSub) :=
  Option.bind (iter (x_laws_markSubS_f0) (k, 0, a)) fun (y344 : Int × List DSub) => some (y344.1, y344.2)
theorem ct_laws_markSubS (w : World) (X S : Bs) (a : List DSub) (s_a : Sv) (k : Int) (hS : SX X S w)  (oL : Sep [oC (cSl 6 fDSub a) s_a.v] X w) {r : Int × List DSub} (hx : x_laws_markSubS a k = some r) :
 Ret Tryz.prog 88 [s_a.v, (iv k)] w (fun u w' => ∃ _ : Unit, u = (iv r.1) ∧ Gives X S w [oC (cSl 6 fDSub r.2) s_a.v] [] w') := by
 unfold x_laws_markSubS at hx
 refine enter Tryz.func88 rfl Tryz.ntmps88 (by kernel_rfl) rfl ?_
 have hM := St.enter oL hS
 refine wc_sr <| was rfl rfl <| wl_sq <| wc_seq <| wc_sr <| was rfl rfl <| wl_sq <| wc_block <| bs hx fun y350 hx hx351 => ?_
 obtain ⟨m357, hx⟩ := iter_run hx
 refine wc_loop (un fun (m355 : Nat) => un fun (k352 : Int) => un fun (i353 : Int) => fun (l354 : List DSub) => [(0, s_a.v), (1, (iv k352)), (5, (iv i353))]) (un fun (m355 : Nat) => un fun (k352 : Int) => un fun (i353 : Int) => fun (l354 : List DSub) w' => St ⟨w, X, S⟩ [oC (cSl 6 fDSub l354) s_a.v] [] w' ∧ iterN _ m355 (k352, i353, l354) = some y350) (fun p => p.1) (m357, k, 0, a) ⟨rfl, rfl, rfl, trivial⟩ ⟨hM, hx⟩ ?_
 rintro ⟨m355, k352, i353, l354⟩ w358 ⟨hM, hx⟩
 obtain ⟨m359, z360, rfl, hx, hx361⟩ := iterN_step hx
 unfold x_laws_markSubS_f0 x_laws_markSubS_b0 at hx
 try dsimp only at hx
 refine wc_seq <| wc_sr <| wmv rfl rfl <| wmv rfl rfl <| wv rfl (r_lenC u34 rfl (hM.seeO m0)) <| wv rfl (r_lss rfl rfl) <| wl_sq ?_
 refine wcx hx rfl (fun hx => ?_) (fun hx => ?_)
 refine wc_skip <| sq_n <| wc_seq <| wc_block <| wc_sr <| wmv rfl rfl <| wmv rfl rfl <| wmv rfl rfl <| xgs hx fun hg372 hx => ?_
 have hi371 : i353.toNat < l354.length := by omega
 refine wv rfl (r_ixC u34 sz137 rfl rfl (hM.seeO m0) hg372) <| wv rfl (r_fldC (i := i353.toNat) u137 rfl rfl sz3 rfl (hM.seeO m0) hi371) ?_
 refine w_exu (x_stE (f := fDSub) (k := 6) (L := l354) (i := i353.toNat) (j := 0) (⟨k352, (el l354 i353.toNat).doc, (el l354 i353.toNat).r⟩ : DSub) [cI k352] sz3 (fun _ => rfl) rfl rfl hi371 rfl rfl rfl rfl rfl (fun _ => zP (pV _ rfl) zN) hM ?_); intro w374 hM
 refine bs hx fun l376 hl377 hx => ?_
 have hM := hM.ren (oi hl377)
 refine wl_sq <| wc_sr <| wmv rfl rfl <| xgs hx fun hg380 hx => wv rfl (r_add rfl rfl hg380) <| was rfl rfl <| wl_sq <| wc_sr <| wmv rfl rfl <| wmv rfl rfl <| wmv rfl rfl <| bs hx fun r385 h386 hx => w_cv hM rfl rfl (fun X S oL hS hR hO => ct_laws_markText _ X S (k352 + 1) hS  oL h386) fun _ hM => xgs hx fun hg390 hx => ?_
 have hi389 : i353.toNat < l376.length := by omega
 refine wv rfl (r_ixC u34 sz137 rfl rfl (hM.seeO m0) hg390) <| wv rfl (r_fldC (i := i353.toNat) u137 rfl rfl sz9 rfl (hM.seeO m0) hi389) ?_
 refine w_exu (x_stE (f := fDSub) (k := 6) (L := l376) (i := i353.toNat) (j := 1) (⟨(el l376 i353.toNat).id, r385.1, (el l376 i353.toNat).r⟩ : DSub) [cT r385.1] sz9 (fun _ => rfl) rfl rfl hi389 rfl rfl rfl rfl rfl (fun _ => zP (pV _ rfl) zN) hM ?_); intro w392 hM
 refine bs hx fun l394 hl395 hx => ?_
 have hM := hM.ren (oi hl395)
 refine wl_sq <| wc_sr <| wmv rfl rfl <| xgs hx fun hg398 hx => wv rfl (r_add rfl rfl hg398) <| was rfl rfl <| wl_sq <| wc_sr <| wmv rfl rfl <| wmv rfl rfl <| wmv rfl rfl <| xgs hx fun hg405 hx => ?_
 have hi404 : i353.toNat < l394.length := by omega
 refine wv rfl (r_ixC u34 sz137 rfl rfl (hM.seeO m0) hg405) <| wv rfl (r_fldC (i := i353.toNat) u137 rfl rfl sz135 rfl (hM.seeO m0) hi404) <| wv rfl (r_fldC (i := i353.toNat) u135 rfl rfl sz3 rfl (hM.seeO m0) hi404) ?_
 refine w_exu (x_stE (f := fDSub) (k := 6) (L := l394) (i := i353.toNat) (j := 2) (⟨(el l394 i353.toNat).id, (el l394 i353.toNat).doc, (⟨(k352 + 1) + 1, (el l394 i353.toNat).r.next, (el l394 i353.toNat).r.out, (el l394 i353.toNat).r.list⟩ : DRing)⟩ : DSub) [cI ((k352 + 1) + 1)] sz3 (fun _ => rfl) rfl rfl hi404 rfl rfl rfl rfl rfl (fun _ => zP (pV _ rfl) zN) hM ?_); intro w408 hM
 refine bs hx fun l410 hl411 hx => ?_
 have hM := hM.ren (oi hl411)
 refine wl_sq <| wc_sr <| wmv rfl rfl <| xgs hx fun hg414 hx => wv rfl (r_add rfl rfl hg414) <| was rfl rfl <| wl_sq <| wc_sr <| wmv rfl rfl <| wmv rfl rfl <| wmv rfl rfl <| xgs hx fun hg421 hx => ?_
 have hi420 : i353.toNat < l410.length := by omega
 refine wv rfl (r_ixC u34 sz137 rfl rfl (hM.seeO m0) hg421) <| wv rfl (r_fldC (i := i353.toNat) u137 rfl rfl sz135 rfl (hM.seeO m0) hi420) <| wv rfl (r_fldC (i := i353.toNat) u135 rfl rfl sz3 rfl (hM.seeO m0) hi420) ?_
 refine w_exu (x_stE (f := fDSub) (k := 6) (L := l410) (i := i353.toNat) (j := 3) (⟨(el l410 i353.toNat).id, (el l410 i353.toNat).doc, (⟨(el l410 i353.toNat).r.cap, ((k352 + 1) + 1) + 1, (el l410 i353.toNat).r.out, (el l410 i353.toNat).r.list⟩ : DRing)⟩ : DSub) [cI (((k352 + 1) + 1) + 1)] sz3 (fun _ => rfl) rfl rfl hi420 rfl rfl rfl rfl rfl (fun _ => zP (pV _ rfl) zN) hM ?_); intro w424 hM
 refine bs hx fun l426 hl427 hx => ?_
 have hM := hM.ren (oi hl427)
 refine wl_sq <| wc_sr <| wmv rfl rfl <| xgs hx fun hg430 hx => wv rfl (r_add rfl rfl hg430) <| was rfl rfl <| wl_sq <| wc_sr <| wmv rfl rfl <| wmv rfl rfl <| wmv rfl rfl <| xgs hx fun hg436 hx => wv rfl (r_rem rfl rfl hg436) <| wv rfl (r_eql rfl rfl) ?_
 refine xgs hx fun hg440 hx => ?_
 have hi439 : i353.toNat < l426.length := by omega
 refine wv rfl (r_ixC u34 sz137 rfl rfl (hM.seeO m0) hg440) <| wv rfl (r_fldC (i := i353.toNat) u137 rfl rfl sz135 rfl (hM.seeO m0) hi439) <| wv rfl (r_fldC (i := i353.toNat) u135 rfl rfl sz4 rfl (hM.seeO m0) hi439) ?_
 refine w_exu (x_stE (f := fDSub) (k := 6) (L := l426) (i := i353.toNat) (j := 4) (⟨(el l426 i353.toNat).id, (el l426 i353.toNat).doc, (⟨(el l426 i353.toNat).r.cap, (el l426 i353.toNat).r.next, decide ((((((k352 + 1) + 1) + 1) + 1) % 3) = 0), (el l426 i353.toNat).r.list⟩ : DRing)⟩ : DSub) [cB (decide ((((((k352 + 1) + 1) + 1) + 1) % 3) = 0))] sz4 (fun _ => rfl) rfl rfl hi439 rfl rfl rfl rfl rfl (fun _ => zP (pV _ rfl) zN) hM ?_); intro w443 hM
 refine bs hx fun l445 hl446 hx => ?_
 have hM := hM.ren (oi hl446)
 refine wl_sq <| wc_sr <| wmv rfl rfl <| xgs hx fun hg449 hx => wv rfl (r_add rfl rfl hg449) <| was rfl rfl <| wl_sq <| wc_region <| wmv rfl rfl <| wmv rfl rfl <| xgs hx fun hg455 hx => ?_
 have hi454 : i353.toNat < l445.length := by omega
 refine wv rfl (r_ixC u34 sz137 rfl rfl (hM.seeO m0) hg455) <| wv rfl (r_fldC (i := i353.toNat) u137 rfl rfl sz135 rfl (hM.seeO m0) hi454) <| wv rfl (r_fldC (i := i353.toNat) u135 rfl rfl sz60 rfl (hM.seeO m0) hi454) ?_
 obtain ⟨s459, hM, hc460⟩ := hM.leafO (i := i353.toNat) (j := 5) (fun _ => rfl) hi454 rfl
 refine wv rfl (r_ld u60 rfl rfl (hc460 _ (Rel.refl _))) <| wmv rfl rfl ?_
 have hM := hM.open (i := i353.toNat) (j := 5) m1 (fun _ => rfl) hi454 rfl
 refine bs hx fun r464 h465 hx => w_call rfl rfl (hM.callO (l := [oC (cSl 3 fDEntry ((el l445 i353.toNat).r.list)) s459.v]) fun X S oL hS hR hO => ct_laws_markEntryS _ X S ((el l445 i353.toNat).r.list) s459 (((((k352 + 1) + 1) + 1) + 1) + 1) hS  oL h465) ?_
 rintro _ w466 ⟨_, rfl, hM⟩
 dsimp only [List.cons_append, List.nil_append] at hM
 have hM := hM.close (i := i353.toNat) (j := 5) (⟨(el l445 i353.toNat).id, (el l445 i353.toNat).doc, (⟨(el l445 i353.toNat).r.cap, (el l445 i353.toNat).r.next, (el l445 i353.toNat).r.out, r464.2⟩ : DRing)⟩ : DSub) (fun _ => rfl) hi454 rfl rfl
 refine bs hx fun l467 hl468 hx => ?_
 have hM := hM.ren (oi hl468)
 refine was rfl rfl <| wl_nil <| bk_n <| sq_n <| wc_region <| wmv rfl rfl <| xgs hx fun hg472 hx => wv rfl (r_add rfl rfl hg472) <| was rfl rfl <| wl_nil ?_
 cases hx
 exact lp_end (m359, r464.1, i353 + 1, l467) (Nat.lt_succ_self _) ⟨rfl, rfl, rfl, trivial⟩ ⟨hM, hx361⟩
 refine wc_exit <| sq_exit <| lp1_exit ?_
 cases hx
 obtain rfl := oi hx361
 replace hx := hx351
 refine bk_here <| sq_n <| wc_sr <| wmv rfl rfl <| was rfl rfl <| wl_sq <| wc_ret ?_
 obtain rfl := oi hx
 refine fin_ret [(iv k352)] ⟨rfl, trivial⟩ ?_
 replace hM := hM.t1
 exact ⟨(), rfl, (hM.fewer rsN).gives⟩

noncomputable def x_laws_markHub (a : DHub) (k : Int) : Option (Int × DHub) :=
  Option.bind (x_laws_markDocS a.docs k) fun r11 => Option.bind (x_laws_markSubS a.subs r11.1) fun r18 => some (r18.1, (⟨a.shut, r11.2, r18.2, a.last⟩ : DHub))
theorem ct_laws_markHub (w : World) (X S : Bs) (a : DHub) (s_a_1 : Sv) (s_a_2 : Sv) (k : Int) (hS : SX X S w)  (oL : Sep [oC (cSl 5 fDDoc a.docs) s_a_1.v, oC (cSl 6 fDSub a.subs) s_a_2.v] X w) {r : Int × DHub} (hx : x_laws_markHub a k = some r) :
 Ret Tryz.prog 36 [(.agg #[(bv a.shut), s_a_1.v, s_a_2.v, (iv a.last)]), (iv k)] w (fun u w' => ∃ _ : Unit, u = (iv r.1) ∧ Gives X S w [oC (cSl 5 fDDoc r.2.docs) s_a_1.v, oC (cSl 6 fDSub r.2.subs) s_a_2.v] [] w') := by
 unfold x_laws_markHub at hx
 refine enter Tryz.func36 rfl Tryz.ntmps36 (by kernel_rfl) rfl ?_
 have hM := St.enter oL hS
 refine wc_sr ?_
 refine w_ex rfl (x_box rfl hM ?_); intro b25 w24 hR26 hM
 refine was rfl rfl <| wl_sq <| wc_sr <| wv rfl (r_fld u36 rfl rfl sz33 rfl) <| wv rfl (r_ldB u33 rfl rfl hM m0 rfl) <| wmv rfl rfl ?_
 replace hM := hM.p1
 refine bs hx fun r32 h33 hx => w_call rfl rfl (hM.callO (l := [oC (cSl 5 fDDoc a.docs) s_a_1.v]) fun X S oL hS hR hO => ct_laws_markDocS _ X S a.docs s_a_1 k hS  oL h33) ?_
 rintro _ w34 ⟨_, rfl, hM⟩
 dsimp only [List.cons_append, List.nil_append] at hM
 refine was rfl rfl <| wl_sq <| wc_sr <| wv rfl (r_fld u36 rfl rfl sz34 rfl) <| wv rfl (r_ldB u34 rfl rfl hM m1 rfl) <| wmv rfl rfl ?_
 replace hM := hM.p2
 refine bs hx fun r39 h40 hx => w_call rfl rfl (hM.callO (l := [oC (cSl 6 fDSub a.subs) s_a_2.v]) fun X S oL hS hR hO => ct_laws_markSubS _ X S a.subs s_a_2 r32.1 hS  oL h40) ?_
 rintro _ w41 ⟨_, rfl, hM⟩
 dsimp only [List.cons_append, List.nil_append] at hM
 refine was rfl rfl <| wl_sq <| wc_sr <| wmv rfl rfl <| was rfl rfl <| wl_sq <| wc_ret ?_
 obtain rfl := oi hx
 refine fin_ret [(iv r39.1)] ⟨rfl, trivial⟩ ?_
 replace hM := hM.p1
 replace hM := hM.t2
 exact ⟨(), rfl, (hM.fewer rsN).gives⟩

noncomputable def x_laws_markQueueS_b0 (k46 : Int) (i47 : Int) (l48 : List DQueue) : Option (Lr (Int × Int × List DQueue) (Int × List DQueue)) :=
  bif decide (i47 < (l48.length : Int)) then (Option.bind (x_laws_markText k46) fun r97 => xg (0 ≤ i47 ∧ i47 < (l48.length : Int)) <| xg (inI (k46 + 1)) <| xg (0 ≤ i47 ∧ i47 < ((l48.set i47.toNat (⟨r97.1, (el l48 i47.toNat).list⟩ : DQueue)).length : Int)) <| Option.bind (x_laws_markIntS ((el (l48.set i47.toNat (⟨r97.1, (el l48 i47.toNat).list⟩ : DQueue)) i47.toNat).list) (k46 + 1)) fun r122 => xg (inI (i47 + 1)) <| some (Lr.go (r122.1, i47 + 1, (l48.set i47.toNat (⟨r97.1, (el l48 i47.toNat).list⟩ : DQueue)).set i47.toNat (⟨(el (l48.set i47.toNat (⟨r97.1, (el l48 i47.toNat).list⟩ : DQueue)) i47.toNat).doc, r122.2⟩ : DQueue)))) else (some (Lr.out (k46, l48)))
noncomputable def x_laws_markQueueS_f0 (s130 : Int × Int × List DQueue) : Option (Lr (Int × Int × List DQueue) (Int × List DQueue)) := x_laws_markQueueS_b0 s130.1 s130.2.1 s130.2.2
noncomputable def x_laws_markQueueS (a : List DQueue) (k : Int) : Option (Int × List DQueue) :=
  Option.bind (iter (x_laws_markQueueS_f0) (k, 0, a)) fun (y131 : Int × List DQueue) => some (y131.1, y131.2)
theorem ct_laws_markQueueS (w : World) (X S : Bs) (a : List DQueue) (s_a : Sv) (k : Int) (hS : SX X S w)  (oL : Sep [oC (cSl 2 fDQueue a) s_a.v] X w) {r : Int × List DQueue} (hx : x_laws_markQueueS a k = some r) :
 Ret Tryz.prog 38 [s_a.v, (iv k)] w (fun u w' => ∃ _ : Unit, u = (iv r.1) ∧ Gives X S w [oC (cSl 2 fDQueue r.2) s_a.v] [] w') := by
 unfold x_laws_markQueueS at hx
 refine enter Tryz.func38 rfl Tryz.ntmps38 (by kernel_rfl) rfl ?_
 have hM := St.enter oL hS
 refine wc_sr <| was rfl rfl <| wl_sq <| wc_seq <| wc_sr <| was rfl rfl <| wl_sq <| wc_block <| bs hx fun y137 hx hx138 => ?_
 obtain ⟨m144, hx⟩ := iter_run hx
 refine wc_loop (un fun (m142 : Nat) => un fun (k139 : Int) => un fun (i140 : Int) => fun (l141 : List DQueue) => [(0, s_a.v), (1, (iv k139)), (5, (iv i140))]) (un fun (m142 : Nat) => un fun (k139 : Int) => un fun (i140 : Int) => fun (l141 : List DQueue) w' => St ⟨w, X, S⟩ [oC (cSl 2 fDQueue l141) s_a.v] [] w' ∧ iterN _ m142 (k139, i140, l141) = some y137) (fun p => p.1) (m144, k, 0, a) ⟨rfl, rfl, rfl, trivial⟩ ⟨hM, hx⟩ ?_
 rintro ⟨m142, k139, i140, l141⟩ w145 ⟨hM, hx⟩
 obtain ⟨m146, z147, rfl, hx, hx148⟩ := iterN_step hx
 unfold x_laws_markQueueS_f0 x_laws_markQueueS_b0 at hx
 try dsimp only at hx
 refine wc_seq <| wc_sr <| wmv rfl rfl <| wmv rfl rfl <| wv rfl (r_lenC u37 rfl (hM.seeO m0)) <| wv rfl (r_lss rfl rfl) <| wl_sq ?_
 refine wcx hx rfl (fun hx => ?_) (fun hx => ?_)
 refine wc_skip <| sq_n <| wc_seq <| wc_block <| wc_sr <| wmv rfl rfl <| wmv rfl rfl <| wmv rfl rfl <| bs hx fun r157 h158 hx => w_cv hM rfl rfl (fun X S oL hS hR hO => ct_laws_markText _ X S k139 hS  oL h158) fun _ hM => xgs hx fun hg162 hx => ?_
 have hi161 : i140.toNat < l141.length := by omega
 refine wv rfl (r_ixC u37 sz56 rfl rfl (hM.seeO m0) hg162) <| wv rfl (r_fldC (i := i140.toNat) u56 rfl rfl sz9 rfl (hM.seeO m0) hi161) ?_
 refine w_exu (x_stE (f := fDQueue) (k := 2) (L := l141) (i := i140.toNat) (j := 0) (⟨r157.1, (el l141 i140.toNat).list⟩ : DQueue) [cT r157.1] sz9 (fun _ => rfl) rfl rfl hi161 rfl rfl rfl rfl rfl (fun _ => zP (pV _ rfl) zN) hM ?_); intro w164 hM
 refine wl_sq <| wc_sr <| wmv rfl rfl <| xgs hx fun hg168 hx => wv rfl (r_add rfl rfl hg168) <| was rfl rfl <| wl_sq <| wc_region <| wmv rfl rfl <| wmv rfl rfl <| xgs hx fun hg174 hx => ?_
 have hi173 : i140.toNat < (l141.set i140.toNat (⟨r157.1, (el l141 i140.toNat).list⟩ : DQueue)).length := by omega
 refine wv rfl (r_ixC u37 sz56 rfl rfl (hM.seeO m0) hg174) <| wv rfl (r_fldC (i := i140.toNat) u56 rfl rfl sz26 rfl (hM.seeO m0) hi173) ?_
 obtain ⟨s177, hM, hc178⟩ := hM.leafO (i := i140.toNat) (j := 1) (fun _ => rfl) hi173 rfl
 refine wv rfl (r_ld u26 rfl rfl (hc178 _ (Rel.refl _))) <| wmv rfl rfl ?_
 have hM := hM.open (i := i140.toNat) (j := 1) m1 (fun _ => rfl) hi173 rfl
 refine bs hx fun r182 h183 hx => w_call rfl rfl (hM.callO (l := [oC (cSl 1 fI ((el (l141.set i140.toNat (⟨r157.1, (el l141 i140.toNat).list⟩ : DQueue)) i140.toNat).list)) s177.v]) fun X S oL hS hR hO => ct_laws_markIntS _ X S ((el (l141.set i140.toNat (⟨r157.1, (el l141 i140.toNat).list⟩ : DQueue)) i140.toNat).list) s177 (k139 + 1) hS  oL h183) ?_
 rintro _ w184 ⟨_, rfl, hM⟩
 dsimp only [List.cons_append, List.nil_append] at hM
 have hM := hM.close (i := i140.toNat) (j := 1) (⟨(el (l141.set i140.toNat (⟨r157.1, (el l141 i140.toNat).list⟩ : DQueue)) i140.toNat).doc, r182.2⟩ : DQueue) (fun _ => rfl) hi173 rfl rfl
 refine was rfl rfl <| wl_nil <| bk_n <| sq_n <| wc_region <| wmv rfl rfl <| xgs hx fun hg188 hx => wv rfl (r_add rfl rfl hg188) <| was rfl rfl <| wl_nil ?_
 cases hx
 exact lp_end (m146, r182.1, i140 + 1, (l141.set i140.toNat (⟨r157.1, (el l141 i140.toNat).list⟩ : DQueue)).set i140.toNat (⟨(el (l141.set i140.toNat (⟨r157.1, (el l141 i140.toNat).list⟩ : DQueue)) i140.toNat).doc, r182.2⟩ : DQueue)) (Nat.lt_succ_self _) ⟨rfl, rfl, rfl, trivial⟩ ⟨hM, hx148⟩
 refine wc_exit <| sq_exit <| lp1_exit ?_
 cases hx
 obtain rfl := oi hx148
 replace hx := hx138
 refine bk_here <| sq_n <| wc_sr <| wmv rfl rfl <| was rfl rfl <| wl_sq <| wc_ret ?_
 obtain rfl := oi hx
 refine fin_ret [(iv k139)] ⟨rfl, trivial⟩ ?_
 replace hM := hM.t1
 exact ⟨(), rfl, (hM.fewer rsN).gives⟩

noncomputable def x_laws_markTaskS_b0 (_a : List DTask) (k265 : Int) (i266 : Int) (l267 : List DTask) : Option (Lr (Int × Int × List DTask) (Int × List DTask)) :=
  bif decide (i266 < (l267.length : Int)) then (xg (0 ≤ i266 ∧ i266 < (l267.length : Int)) <| Option.bind (nm (l267.set i266.toNat (⟨(⟨k265, (el l267 i266.toNat).c.doc, (el l267 i266.toNat).c.client, (el l267 i266.toNat).c.seq, (el l267 i266.toNat).c.n, (el l267 i266.toNat).c.o, (el l267 i266.toNat).c.text⟩ : DCall), (el l267 i266.toNat).pc, (el l267 i266.toNat).inv, (el l267 i266.toNat).lin, (el l267 i266.toNat).res, (el l267 i266.toNat).a⟩ : DTask))) fun (l542 : List DTask) => xg (inI (k265 + 1)) <| Option.bind (x_laws_markText (k265 + 1)) fun r551 => xg (0 ≤ i266 ∧ i266 < (l542.length : Int)) <| Option.bind (nm (l542.set i266.toNat (⟨(⟨(el l542 i266.toNat).c.kind, r551.1, (el l542 i266.toNat).c.client, (el l542 i266.toNat).c.seq, (el l542 i266.toNat).c.n, (el l542 i266.toNat).c.o, (el l542 i266.toNat).c.text⟩ : DCall), (el l542 i266.toNat).pc, (el l542 i266.toNat).inv, (el l542 i266.toNat).lin, (el l542 i266.toNat).res, (el l542 i266.toNat).a⟩ : DTask))) fun (l561 : List DTask) => xg (inI ((k265 + 1) + 1)) <| xg (0 ≤ i266 ∧ i266 < (l561.length : Int)) <| Option.bind (nm (l561.set i266.toNat (⟨(⟨(el l561 i266.toNat).c.kind, (el l561 i266.toNat).c.doc, (k265 + 1) + 1, (el l561 i266.toNat).c.seq, (el l561 i266.toNat).c.n, (el l561 i266.toNat).c.o, (el l561 i266.toNat).c.text⟩ : DCall), (el l561 i266.toNat).pc, (el l561 i266.toNat).inv, (el l561 i266.toNat).lin, (el l561 i266.toNat).res, (el l561 i266.toNat).a⟩ : DTask))) fun (l577 : List DTask) => xg (inI (((k265 + 1) + 1) + 1)) <| xg (0 ≤ i266 ∧ i266 < (l577.length : Int)) <| Option.bind (nm (l577.set i266.toNat (⟨(⟨(el l577 i266.toNat).c.kind, (el l577 i266.toNat).c.doc, (el l577 i266.toNat).c.client, ((k265 + 1) + 1) + 1, (el l577 i266.toNat).c.n, (el l577 i266.toNat).c.o, (el l577 i266.toNat).c.text⟩ : DCall), (el l577 i266.toNat).pc, (el l577 i266.toNat).inv, (el l577 i266.toNat).lin, (el l577 i266.toNat).res, (el l577 i266.toNat).a⟩ : DTask))) fun (l593 : List DTask) => xg (inI ((((k265 + 1) + 1) + 1) + 1)) <| xg (0 ≤ i266 ∧ i266 < (l593.length : Int)) <| Option.bind (nm (l593.set i266.toNat (⟨(⟨(el l593 i266.toNat).c.kind, (el l593 i266.toNat).c.doc, (el l593 i266.toNat).c.client, (el l593 i266.toNat).c.seq, (((k265 + 1) + 1) + 1) + 1, (el l593 i266.toNat).c.o, (el l593 i266.toNat).c.text⟩ : DCall), (el l593 i266.toNat).pc, (el l593 i266.toNat).inv, (el l593 i266.toNat).lin, (el l593 i266.toNat).res, (el l593 i266.toNat).a⟩ : DTask))) fun (l609 : List DTask) => xg (inI (((((k265 + 1) + 1) + 1) + 1) + 1)) <| xg (0 ≤ i266 ∧ i266 < (l609.length : Int)) <| Option.bind (x_laws_markPartS ((el l609 i266.toNat).c.o) (((((k265 + 1) + 1) + 1) + 1) + 1)) fun r628 => Option.bind (nm (l609.set i266.toNat (⟨(⟨(el l609 i266.toNat).c.kind, (el l609 i266.toNat).c.doc, (el l609 i266.toNat).c.client, (el l609 i266.toNat).c.seq, (el l609 i266.toNat).c.n, r628.2, (el l609 i266.toNat).c.text⟩ : DCall), (el l609 i266.toNat).pc, (el l609 i266.toNat).inv, (el l609 i266.toNat).lin, (el l609 i266.toNat).res, (el l609 i266.toNat).a⟩ : DTask))) fun (l631 : List DTask) => xg (0 ≤ i266 ∧ i266 < (l631.length : Int)) <| Option.bind (x_laws_markIntS ((el l631 i266.toNat).c.text) r628.1) fun r647 => Option.bind (nm (l631.set i266.toNat (⟨(⟨(el l631 i266.toNat).c.kind, (el l631 i266.toNat).c.doc, (el l631 i266.toNat).c.client, (el l631 i266.toNat).c.seq, (el l631 i266.toNat).c.n, (el l631 i266.toNat).c.o, r647.2⟩ : DCall), (el l631 i266.toNat).pc, (el l631 i266.toNat).inv, (el l631 i266.toNat).lin, (el l631 i266.toNat).res, (el l631 i266.toNat).a⟩ : DTask))) fun (l650 : List DTask) => xg (0 ≤ i266 ∧ i266 < (l650.length : Int)) <| Option.bind (nm (l650.set i266.toNat (⟨(el l650 i266.toNat).c, r647.1, (el l650 i266.toNat).inv, (el l650 i266.toNat).lin, (el l650 i266.toNat).res, (el l650 i266.toNat).a⟩ : DTask))) fun (l662 : List DTask) => xg (inI (r647.1 + 1)) <| xg (0 ≤ i266 ∧ i266 < (l662.length : Int)) <| Option.bind (nm (l662.set i266.toNat (⟨(el l662 i266.toNat).c, (el l662 i266.toNat).pc, r647.1 + 1, (el l662 i266.toNat).lin, (el l662 i266.toNat).res, (el l662 i266.toNat).a⟩ : DTask))) fun (l677 : List DTask) => xg (inI ((r647.1 + 1) + 1)) <| xg (0 ≤ i266 ∧ i266 < (l677.length : Int)) <| Option.bind (nm (l677.set i266.toNat (⟨(el l677 i266.toNat).c, (el l677 i266.toNat).pc, (el l677 i266.toNat).inv, (r647.1 + 1) + 1, (el l677 i266.toNat).res, (el l677 i266.toNat).a⟩ : DTask))) fun (l692 : List DTask) => xg (inI (((r647.1 + 1) + 1) + 1)) <| xg (0 ≤ i266 ∧ i266 < (l692.length : Int)) <| Option.bind (nm (l692.set i266.toNat (⟨(el l692 i266.toNat).c, (el l692 i266.toNat).pc, (el l692 i266.toNat).inv, (el l692 i266.toNat).lin, ((r647.1 + 1) + 1) + 1, (el l692 i266.toNat).a⟩ : DTask))) fun (l707 : List DTask) => xg (inI ((((r647.1 + 1) + 1) + 1) + 1)) <| xg (0 ≤ i266 ∧ i266 < (l707.length : Int)) <| Option.bind (nm (l707.set i266.toNat (⟨(el l707 i266.toNat).c, (el l707 i266.toNat).pc, (el l707 i266.toNat).inv, (el l707 i266.toNat).lin, (el l707 i266.toNat).res, (⟨(((r647.1 + 1) + 1) + 1) + 1, (el l707 i266.toNat).a.rev, (el l707 i266.toNat).a.text, (el l707 i266.toNat).a.list⟩ : DAnswer)⟩ : DTask))) fun (l723 : List DTask) => xg (inI (((((r647.1 + 1) + 1) + 1) + 1) + 1)) <| xg (0 ≤ i266 ∧ i266 < (l723.length : Int)) <| Option.bind (nm (l723.set i266.toNat (⟨(el l723 i266.toNat).c, (el l723 i266.toNat).pc, (el l723 i266.toNat).inv, (el l723 i266.toNat).lin, (el l723 i266.toNat).res, (⟨(el l723 i266.toNat).a.code, ((((r647.1 + 1) + 1) + 1) + 1) + 1, (el l723 i266.toNat).a.text, (el l723 i266.toNat).a.list⟩ : DAnswer)⟩ : DTask))) fun (l739 : List DTask) => xg (inI ((((((r647.1 + 1) + 1) + 1) + 1) + 1) + 1)) <| xg (0 ≤ i266 ∧ i266 < (l739.length : Int)) <| Option.bind (x_laws_markIntS ((el l739 i266.toNat).a.text) ((((((r647.1 + 1) + 1) + 1) + 1) + 1) + 1)) fun r758 => Option.bind (nm (l739.set i266.toNat (⟨(el l739 i266.toNat).c, (el l739 i266.toNat).pc, (el l739 i266.toNat).inv, (el l739 i266.toNat).lin, (el l739 i266.toNat).res, (⟨(el l739 i266.toNat).a.code, (el l739 i266.toNat).a.rev, r758.2, (el l739 i266.toNat).a.list⟩ : DAnswer)⟩ : DTask))) fun (l761 : List DTask) => xg (0 ≤ i266 ∧ i266 < (l761.length : Int)) <| Option.bind (x_laws_markEntryS ((el l761 i266.toNat).a.list) r758.1) fun r777 => Option.bind (nm (l761.set i266.toNat (⟨(el l761 i266.toNat).c, (el l761 i266.toNat).pc, (el l761 i266.toNat).inv, (el l761 i266.toNat).lin, (el l761 i266.toNat).res, (⟨(el l761 i266.toNat).a.code, (el l761 i266.toNat).a.rev, (el l761 i266.toNat).a.text, r777.2⟩ : DAnswer)⟩ : DTask))) fun (l780 : List DTask) => xg (inI (i266 + 1)) <| some (Lr.go (r777.1, i266 + 1, l780))) else (some (Lr.out (k265, l267)))
noncomputable def x_laws_markTaskS_f0 (a : List DTask) (s787 : Int × Int × List DTask) : Option (Lr (Int × Int × List DTask) (Int × List DTask)) := x_laws_markTaskS_b0 a s787.1 s787.2.1 s787.2.2
noncomputable def x_laws_markTaskS (a : List DTask) (k : Int) : Option (Int × List DTask) :=
  Option.bind (iter (x_laws_markTaskS_f0 a) (k, 0, a)) fun (y788 : Int × List DTask) => some (y788.1, y788.2)
theorem ct_laws_markTaskS (w : World) (X S : Bs) (a : List DTask) (s_a : Sv) (k : Int) (hS : SX X S w)  (oL : Sep [oC (cSl 15 fDTask a) s_a.v] X w) {r : Int × List DTask} (hx : x_laws_markTaskS a k = some r) :
 Ret Tryz.prog 39 [s_a.v, (iv k)] w (fun u w' => ∃ _ : Unit, u = (iv r.1) ∧ Gives X S w [oC (cSl 15 fDTask r.2) s_a.v] [] w') := by
 unfold x_laws_markTaskS at hx
 refine enter Tryz.func39 rfl Tryz.ntmps39 (by kernel_rfl) rfl ?_
 have hM := St.enter oL hS
 refine wc_sr <| was rfl rfl <| wl_sq <| wc_seq <| wc_sr <| was rfl rfl <| wl_sq <| wc_block <| bs hx fun y794 hx hx795 => ?_
 obtain ⟨m801, hx⟩ := iter_run hx
 refine wc_loop (un fun (m799 : Nat) => un fun (k796 : Int) => un fun (i797 : Int) => fun (l798 : List DTask) => [(0, s_a.v), (1, (iv k796)), (5, (iv i797))]) (un fun (m799 : Nat) => un fun (k796 : Int) => un fun (i797 : Int) => fun (l798 : List DTask) w' => St ⟨w, X, S⟩ [oC (cSl 15 fDTask l798) s_a.v] [] w' ∧ iterN _ m799 (k796, i797, l798) = some y794) (fun p => p.1) (m801, k, 0, a) ⟨rfl, rfl, rfl, trivial⟩ ⟨hM, hx⟩ ?_
 rintro ⟨m799, k796, i797, l798⟩ w802 ⟨hM, hx⟩
 obtain ⟨m803, z804, rfl, hx, hx805⟩ := iterN_step hx
 unfold x_laws_markTaskS_f0 x_laws_markTaskS_b0 at hx
 try dsimp only at hx
 refine wc_seq <| wc_sr <| wmv rfl rfl <| wmv rfl rfl <| wv rfl (r_lenC u38 rfl (hM.seeO m0)) <| wv rfl (r_lss rfl rfl) <| wl_sq ?_
 refine wcx hx rfl (fun hx => ?_) (fun hx => ?_)
 refine wc_skip <| sq_n <| wc_seq <| wc_block <| wc_sr <| wmv rfl rfl <| wmv rfl rfl <| wmv rfl rfl <| xgs hx fun hg816 hx => ?_
 have hi815 : i797.toNat < l798.length := by omega
 refine wv rfl (r_ixC u38 sz64 rfl rfl (hM.seeO m0) hg816) <| wv rfl (r_fldC (i := i797.toNat) u64 rfl rfl sz59 rfl (hM.seeO m0) hi815) <| wv rfl (r_fldC (i := i797.toNat) u59 rfl rfl sz3 rfl (hM.seeO m0) hi815) ?_
 refine w_exu (x_stE (f := fDTask) (k := 15) (L := l798) (i := i797.toNat) (j := 0) (⟨(⟨k796, (el l798 i797.toNat).c.doc, (el l798 i797.toNat).c.client, (el l798 i797.toNat).c.seq, (el l798 i797.toNat).c.n, (el l798 i797.toNat).c.o, (el l798 i797.toNat).c.text⟩ : DCall), (el l798 i797.toNat).pc, (el l798 i797.toNat).inv, (el l798 i797.toNat).lin, (el l798 i797.toNat).res, (el l798 i797.toNat).a⟩ : DTask) [cI k796] sz3 (fun _ => rfl) rfl rfl hi815 rfl rfl rfl rfl rfl (fun _ => zP (pV _ rfl) zN) hM ?_); intro w819 hM
 refine bs hx fun l821 hl822 hx => ?_
 have hM := hM.ren (oi hl822)
 refine wl_sq <| wc_sr <| wmv rfl rfl <| xgs hx fun hg825 hx => wv rfl (r_add rfl rfl hg825) <| was rfl rfl <| wl_sq <| wc_sr <| wmv rfl rfl <| wmv rfl rfl <| wmv rfl rfl <| bs hx fun r830 h831 hx => w_cv hM rfl rfl (fun X S oL hS hR hO => ct_laws_markText _ X S (k796 + 1) hS  oL h831) fun _ hM => xgs hx fun hg835 hx => ?_
 have hi834 : i797.toNat < l821.length := by omega
 refine wv rfl (r_ixC u38 sz64 rfl rfl (hM.seeO m0) hg835) <| wv rfl (r_fldC (i := i797.toNat) u64 rfl rfl sz59 rfl (hM.seeO m0) hi834) <| wv rfl (r_fldC (i := i797.toNat) u59 rfl rfl sz9 rfl (hM.seeO m0) hi834) ?_
 refine w_exu (x_stE (f := fDTask) (k := 15) (L := l821) (i := i797.toNat) (j := 1) (⟨(⟨(el l821 i797.toNat).c.kind, r830.1, (el l821 i797.toNat).c.client, (el l821 i797.toNat).c.seq, (el l821 i797.toNat).c.n, (el l821 i797.toNat).c.o, (el l821 i797.toNat).c.text⟩ : DCall), (el l821 i797.toNat).pc, (el l821 i797.toNat).inv, (el l821 i797.toNat).lin, (el l821 i797.toNat).res, (el l821 i797.toNat).a⟩ : DTask) [cT r830.1] sz9 (fun _ => rfl) rfl rfl hi834 rfl rfl rfl rfl rfl (fun _ => zP (pV _ rfl) zN) hM ?_); intro w838 hM
 refine bs hx fun l840 hl841 hx => ?_
 have hM := hM.ren (oi hl841)
 refine wl_sq <| wc_sr <| wmv rfl rfl <| xgs hx fun hg844 hx => wv rfl (r_add rfl rfl hg844) <| was rfl rfl <| wl_sq <| wc_sr <| wmv rfl rfl <| wmv rfl rfl <| wmv rfl rfl <| xgs hx fun hg851 hx => ?_
 have hi850 : i797.toNat < l840.length := by omega
 refine wv rfl (r_ixC u38 sz64 rfl rfl (hM.seeO m0) hg851) <| wv rfl (r_fldC (i := i797.toNat) u64 rfl rfl sz59 rfl (hM.seeO m0) hi850) <| wv rfl (r_fldC (i := i797.toNat) u59 rfl rfl sz3 rfl (hM.seeO m0) hi850) ?_
 refine w_exu (x_stE (f := fDTask) (k := 15) (L := l840) (i := i797.toNat) (j := 2) (⟨(⟨(el l840 i797.toNat).c.kind, (el l840 i797.toNat).c.doc, (k796 + 1) + 1, (el l840 i797.toNat).c.seq, (el l840 i797.toNat).c.n, (el l840 i797.toNat).c.o, (el l840 i797.toNat).c.text⟩ : DCall), (el l840 i797.toNat).pc, (el l840 i797.toNat).inv, (el l840 i797.toNat).lin, (el l840 i797.toNat).res, (el l840 i797.toNat).a⟩ : DTask) [cI ((k796 + 1) + 1)] sz3 (fun _ => rfl) rfl rfl hi850 rfl rfl rfl rfl rfl (fun _ => zP (pV _ rfl) zN) hM ?_); intro w854 hM
 refine bs hx fun l856 hl857 hx => ?_
 have hM := hM.ren (oi hl857)
 refine wl_sq <| wc_sr <| wmv rfl rfl <| xgs hx fun hg860 hx => wv rfl (r_add rfl rfl hg860) <| was rfl rfl <| wl_sq <| wc_sr <| wmv rfl rfl <| wmv rfl rfl <| wmv rfl rfl <| xgs hx fun hg867 hx => ?_
 have hi866 : i797.toNat < l856.length := by omega
 refine wv rfl (r_ixC u38 sz64 rfl rfl (hM.seeO m0) hg867) <| wv rfl (r_fldC (i := i797.toNat) u64 rfl rfl sz59 rfl (hM.seeO m0) hi866) <| wv rfl (r_fldC (i := i797.toNat) u59 rfl rfl sz3 rfl (hM.seeO m0) hi866) ?_
 refine w_exu (x_stE (f := fDTask) (k := 15) (L := l856) (i := i797.toNat) (j := 3) (⟨(⟨(el l856 i797.toNat).c.kind, (el l856 i797.toNat).c.doc, (el l856 i797.toNat).c.client, ((k796 + 1) + 1) + 1, (el l856 i797.toNat).c.n, (el l856 i797.toNat).c.o, (el l856 i797.toNat).c.text⟩ : DCall), (el l856 i797.toNat).pc, (el l856 i797.toNat).inv, (el l856 i797.toNat).lin, (el l856 i797.toNat).res, (el l856 i797.toNat).a⟩ : DTask) [cI (((k796 + 1) + 1) + 1)] sz3 (fun _ => rfl) rfl rfl hi866 rfl rfl rfl rfl rfl (fun _ => zP (pV _ rfl) zN) hM ?_); intro w870 hM
 refine bs hx fun l872 hl873 hx => ?_
 have hM := hM.ren (oi hl873)
 refine wl_sq <| wc_sr <| wmv rfl rfl <| xgs hx fun hg876 hx => wv rfl (r_add rfl rfl hg876) <| was rfl rfl <| wl_sq <| wc_sr <| wmv rfl rfl <| wmv rfl rfl <| wmv rfl rfl <| xgs hx fun hg883 hx => ?_
 have hi882 : i797.toNat < l872.length := by omega
 refine wv rfl (r_ixC u38 sz64 rfl rfl (hM.seeO m0) hg883) <| wv rfl (r_fldC (i := i797.toNat) u64 rfl rfl sz59 rfl (hM.seeO m0) hi882) <| wv rfl (r_fldC (i := i797.toNat) u59 rfl rfl sz3 rfl (hM.seeO m0) hi882) ?_
 refine w_exu (x_stE (f := fDTask) (k := 15) (L := l872) (i := i797.toNat) (j := 4) (⟨(⟨(el l872 i797.toNat).c.kind, (el l872 i797.toNat).c.doc, (el l872 i797.toNat).c.client, (el l872 i797.toNat).c.seq, (((k796 + 1) + 1) + 1) + 1, (el l872 i797.toNat).c.o, (el l872 i797.toNat).c.text⟩ : DCall), (el l872 i797.toNat).pc, (el l872 i797.toNat).inv, (el l872 i797.toNat).lin, (el l872 i797.toNat).res, (el l872 i797.toNat).a⟩ : DTask) [cI ((((k796 + 1) + 1) + 1) + 1)] sz3 (fun _ => rfl) rfl rfl hi882 rfl rfl rfl rfl rfl (fun _ => zP (pV _ rfl) zN) hM ?_); intro w886 hM
 refine bs hx fun l888 hl889 hx => ?_
 have hM := hM.ren (oi hl889)
 refine wl_sq <| wc_sr <| wmv rfl rfl <| xgs hx fun hg892 hx => wv rfl (r_add rfl rfl hg892) <| was rfl rfl <| wl_sq <| wc_sr <| wmv rfl rfl <| wmv rfl rfl <| xgs hx fun hg898 hx => ?_
 have hi897 : i797.toNat < l888.length := by omega
 refine wv rfl (r_ixC u38 sz64 rfl rfl (hM.seeO m0) hg898) <| wv rfl (r_fldC (i := i797.toNat) u64 rfl rfl sz59 rfl (hM.seeO m0) hi897) <| wv rfl (r_fldC (i := i797.toNat) u59 rfl rfl sz57 rfl (hM.seeO m0) hi897) ?_
 obtain ⟨s902, hM, hc903⟩ := hM.leafO (i := i797.toNat) (j := 5) (fun _ => rfl) hi897 rfl
 refine wv rfl (r_ld u57 rfl rfl (hc903 _ (Rel.refl _))) <| wmv rfl rfl ?_
 have hM := hM.open (i := i797.toNat) (j := 5) m1 (fun _ => rfl) hi897 rfl
 refine bs hx fun r907 h908 hx => w_call rfl rfl (hM.callO (l := [oC (cSl 3 fDPart ((el l888 i797.toNat).c.o)) s902.v]) fun X S oL hS hR hO => ct_laws_markPartS _ X S ((el l888 i797.toNat).c.o) s902 (((((k796 + 1) + 1) + 1) + 1) + 1) hS  oL h908) ?_
 rintro _ w909 ⟨_, rfl, hM⟩
 dsimp only [List.cons_append, List.nil_append] at hM
 have hM := hM.close (i := i797.toNat) (j := 5) (⟨(⟨(el l888 i797.toNat).c.kind, (el l888 i797.toNat).c.doc, (el l888 i797.toNat).c.client, (el l888 i797.toNat).c.seq, (el l888 i797.toNat).c.n, r907.2, (el l888 i797.toNat).c.text⟩ : DCall), (el l888 i797.toNat).pc, (el l888 i797.toNat).inv, (el l888 i797.toNat).lin, (el l888 i797.toNat).res, (el l888 i797.toNat).a⟩ : DTask) (fun _ => rfl) hi897 rfl rfl
 refine bs hx fun l910 hl911 hx => ?_
 have hM := hM.ren (oi hl911)
 refine was rfl rfl <| wl_sq <| wc_sr <| wmv rfl rfl <| wmv rfl rfl <| xgs hx fun hg917 hx => ?_
 have hi916 : i797.toNat < l910.length := by omega
 refine wv rfl (r_ixC u38 sz64 rfl rfl (hM.seeO m0) hg917) <| wv rfl (r_fldC (i := i797.toNat) u64 rfl rfl sz59 rfl (hM.seeO m0) hi916) <| wv rfl (r_fldC (i := i797.toNat) u59 rfl rfl sz26 rfl (hM.seeO m0) hi916) ?_
 obtain ⟨s921, hM, hc922⟩ := hM.leafO (i := i797.toNat) (j := 6) (fun _ => rfl) hi916 rfl
 refine wv rfl (r_ld u26 rfl rfl (hc922 _ (Rel.refl _))) <| wmv rfl rfl ?_
 have hM := hM.open (i := i797.toNat) (j := 6) m1 (fun _ => rfl) hi916 rfl
 refine bs hx fun r926 h927 hx => w_call rfl rfl (hM.callO (l := [oC (cSl 1 fI ((el l910 i797.toNat).c.text)) s921.v]) fun X S oL hS hR hO => ct_laws_markIntS _ X S ((el l910 i797.toNat).c.text) s921 r907.1 hS  oL h927) ?_
 rintro _ w928 ⟨_, rfl, hM⟩
 dsimp only [List.cons_append, List.nil_append] at hM
 have hM := hM.close (i := i797.toNat) (j := 6) (⟨(⟨(el l910 i797.toNat).c.kind, (el l910 i797.toNat).c.doc, (el l910 i797.toNat).c.client, (el l910 i797.toNat).c.seq, (el l910 i797.toNat).c.n, (el l910 i797.toNat).c.o, r926.2⟩ : DCall), (el l910 i797.toNat).pc, (el l910 i797.toNat).inv, (el l910 i797.toNat).lin, (el l910 i797.toNat).res, (el l910 i797.toNat).a⟩ : DTask) (fun _ => rfl) hi916 rfl rfl
 refine bs hx fun l929 hl930 hx => ?_
 have hM := hM.ren (oi hl930)
 refine was rfl rfl <| wl_sq <| wc_sr <| wmv rfl rfl <| wmv rfl rfl <| wmv rfl rfl <| xgs hx fun hg937 hx => ?_
 have hi936 : i797.toNat < l929.length := by omega
 refine wv rfl (r_ixC u38 sz64 rfl rfl (hM.seeO m0) hg937) <| wv rfl (r_fldC (i := i797.toNat) u64 rfl rfl sz3 rfl (hM.seeO m0) hi936) ?_
 refine w_exu (x_stE (f := fDTask) (k := 15) (L := l929) (i := i797.toNat) (j := 7) (⟨(el l929 i797.toNat).c, r926.1, (el l929 i797.toNat).inv, (el l929 i797.toNat).lin, (el l929 i797.toNat).res, (el l929 i797.toNat).a⟩ : DTask) [cI r926.1] sz3 (fun _ => rfl) rfl rfl hi936 rfl rfl rfl rfl rfl (fun _ => zP (pV _ rfl) zN) hM ?_); intro w939 hM
 refine bs hx fun l941 hl942 hx => ?_
 have hM := hM.ren (oi hl942)
 refine wl_sq <| wc_sr <| wmv rfl rfl <| xgs hx fun hg945 hx => wv rfl (r_add rfl rfl hg945) <| was rfl rfl <| wl_sq <| wc_sr <| wmv rfl rfl <| wmv rfl rfl <| wmv rfl rfl <| xgs hx fun hg952 hx => ?_
 have hi951 : i797.toNat < l941.length := by omega
 refine wv rfl (r_ixC u38 sz64 rfl rfl (hM.seeO m0) hg952) <| wv rfl (r_fldC (i := i797.toNat) u64 rfl rfl sz3 rfl (hM.seeO m0) hi951) ?_
 refine w_exu (x_stE (f := fDTask) (k := 15) (L := l941) (i := i797.toNat) (j := 8) (⟨(el l941 i797.toNat).c, (el l941 i797.toNat).pc, r926.1 + 1, (el l941 i797.toNat).lin, (el l941 i797.toNat).res, (el l941 i797.toNat).a⟩ : DTask) [cI (r926.1 + 1)] sz3 (fun _ => rfl) rfl rfl hi951 rfl rfl rfl rfl rfl (fun _ => zP (pV _ rfl) zN) hM ?_); intro w954 hM
 refine bs hx fun l956 hl957 hx => ?_
 have hM := hM.ren (oi hl957)
 refine wl_sq <| wc_sr <| wmv rfl rfl <| xgs hx fun hg960 hx => wv rfl (r_add rfl rfl hg960) <| was rfl rfl <| wl_sq <| wc_sr <| wmv rfl rfl <| wmv rfl rfl <| wmv rfl rfl <| xgs hx fun hg967 hx => ?_
 have hi966 : i797.toNat < l956.length := by omega
 refine wv rfl (r_ixC u38 sz64 rfl rfl (hM.seeO m0) hg967) <| wv rfl (r_fldC (i := i797.toNat) u64 rfl rfl sz3 rfl (hM.seeO m0) hi966) ?_
 refine w_exu (x_stE (f := fDTask) (k := 15) (L := l956) (i := i797.toNat) (j := 9) (⟨(el l956 i797.toNat).c, (el l956 i797.toNat).pc, (el l956 i797.toNat).inv, (r926.1 + 1) + 1, (el l956 i797.toNat).res, (el l956 i797.toNat).a⟩ : DTask) [cI ((r926.1 + 1) + 1)] sz3 (fun _ => rfl) rfl rfl hi966 rfl rfl rfl rfl rfl (fun _ => zP (pV _ rfl) zN) hM ?_); intro w969 hM
 refine bs hx fun l971 hl972 hx => ?_
 have hM := hM.ren (oi hl972)
 refine wl_sq <| wc_sr <| wmv rfl rfl <| xgs hx fun hg975 hx => wv rfl (r_add rfl rfl hg975) <| was rfl rfl <| wl_sq <| wc_sr <| wmv rfl rfl <| wmv rfl rfl <| wmv rfl rfl <| xgs hx fun hg982 hx => ?_
 have hi981 : i797.toNat < l971.length := by omega
 refine wv rfl (r_ixC u38 sz64 rfl rfl (hM.seeO m0) hg982) <| wv rfl (r_fldC (i := i797.toNat) u64 rfl rfl sz3 rfl (hM.seeO m0) hi981) ?_
 refine w_exu (x_stE (f := fDTask) (k := 15) (L := l971) (i := i797.toNat) (j := 10) (⟨(el l971 i797.toNat).c, (el l971 i797.toNat).pc, (el l971 i797.toNat).inv, (el l971 i797.toNat).lin, ((r926.1 + 1) + 1) + 1, (el l971 i797.toNat).a⟩ : DTask) [cI (((r926.1 + 1) + 1) + 1)] sz3 (fun _ => rfl) rfl rfl hi981 rfl rfl rfl rfl rfl (fun _ => zP (pV _ rfl) zN) hM ?_); intro w984 hM
 refine bs hx fun l986 hl987 hx => ?_
 have hM := hM.ren (oi hl987)
 refine wl_sq <| wc_sr <| wmv rfl rfl <| xgs hx fun hg990 hx => wv rfl (r_add rfl rfl hg990) <| was rfl rfl <| wl_sq <| wc_sr <| wmv rfl rfl <| wmv rfl rfl <| wmv rfl rfl <| xgs hx fun hg997 hx => ?_
 have hi996 : i797.toNat < l986.length := by omega
 refine wv rfl (r_ixC u38 sz64 rfl rfl (hM.seeO m0) hg997) <| wv rfl (r_fldC (i := i797.toNat) u64 rfl rfl sz62 rfl (hM.seeO m0) hi996) <| wv rfl (r_fldC (i := i797.toNat) u62 rfl rfl sz3 rfl (hM.seeO m0) hi996) ?_
 refine w_exu (x_stE (f := fDTask) (k := 15) (L := l986) (i := i797.toNat) (j := 11) (⟨(el l986 i797.toNat).c, (el l986 i797.toNat).pc, (el l986 i797.toNat).inv, (el l986 i797.toNat).lin, (el l986 i797.toNat).res, (⟨(((r926.1 + 1) + 1) + 1) + 1, (el l986 i797.toNat).a.rev, (el l986 i797.toNat).a.text, (el l986 i797.toNat).a.list⟩ : DAnswer)⟩ : DTask) [cI ((((r926.1 + 1) + 1) + 1) + 1)] sz3 (fun _ => rfl) rfl rfl hi996 rfl rfl rfl rfl rfl (fun _ => zP (pV _ rfl) zN) hM ?_); intro w1000 hM
 refine bs hx fun l1002 hl1003 hx => ?_
 have hM := hM.ren (oi hl1003)
 refine wl_sq <| wc_sr <| wmv rfl rfl <| xgs hx fun hg1006 hx => wv rfl (r_add rfl rfl hg1006) <| was rfl rfl <| wl_sq <| wc_sr <| wmv rfl rfl <| wmv rfl rfl <| wmv rfl rfl <| xgs hx fun hg1013 hx => ?_
 have hi1012 : i797.toNat < l1002.length := by omega
 refine wv rfl (r_ixC u38 sz64 rfl rfl (hM.seeO m0) hg1013) <| wv rfl (r_fldC (i := i797.toNat) u64 rfl rfl sz62 rfl (hM.seeO m0) hi1012) <| wv rfl (r_fldC (i := i797.toNat) u62 rfl rfl sz3 rfl (hM.seeO m0) hi1012) ?_
 refine w_exu (x_stE (f := fDTask) (k := 15) (L := l1002) (i := i797.toNat) (j := 12) (⟨(el l1002 i797.toNat).c, (el l1002 i797.toNat).pc, (el l1002 i797.toNat).inv, (el l1002 i797.toNat).lin, (el l1002 i797.toNat).res, (⟨(el l1002 i797.toNat).a.code, ((((r926.1 + 1) + 1) + 1) + 1) + 1, (el l1002 i797.toNat).a.text, (el l1002 i797.toNat).a.list⟩ : DAnswer)⟩ : DTask) [cI (((((r926.1 + 1) + 1) + 1) + 1) + 1)] sz3 (fun _ => rfl) rfl rfl hi1012 rfl rfl rfl rfl rfl (fun _ => zP (pV _ rfl) zN) hM ?_); intro w1016 hM
 refine bs hx fun l1018 hl1019 hx => ?_
 have hM := hM.ren (oi hl1019)
 refine wl_sq <| wc_sr <| wmv rfl rfl <| xgs hx fun hg1022 hx => wv rfl (r_add rfl rfl hg1022) <| was rfl rfl <| wl_sq <| wc_sr <| wmv rfl rfl <| wmv rfl rfl <| xgs hx fun hg1028 hx => ?_
 have hi1027 : i797.toNat < l1018.length := by omega
 refine wv rfl (r_ixC u38 sz64 rfl rfl (hM.seeO m0) hg1028) <| wv rfl (r_fldC (i := i797.toNat) u64 rfl rfl sz62 rfl (hM.seeO m0) hi1027) <| wv rfl (r_fldC (i := i797.toNat) u62 rfl rfl sz26 rfl (hM.seeO m0) hi1027) ?_
 obtain ⟨s1032, hM, hc1033⟩ := hM.leafO (i := i797.toNat) (j := 13) (fun _ => rfl) hi1027 rfl
 refine wv rfl (r_ld u26 rfl rfl (hc1033 _ (Rel.refl _))) <| wmv rfl rfl ?_
 have hM := hM.open (i := i797.toNat) (j := 13) m1 (fun _ => rfl) hi1027 rfl
 refine bs hx fun r1037 h1038 hx => w_call rfl rfl (hM.callO (l := [oC (cSl 1 fI ((el l1018 i797.toNat).a.text)) s1032.v]) fun X S oL hS hR hO => ct_laws_markIntS _ X S ((el l1018 i797.toNat).a.text) s1032 ((((((r926.1 + 1) + 1) + 1) + 1) + 1) + 1) hS  oL h1038) ?_
 rintro _ w1039 ⟨_, rfl, hM⟩
 dsimp only [List.cons_append, List.nil_append] at hM
 have hM := hM.close (i := i797.toNat) (j := 13) (⟨(el l1018 i797.toNat).c, (el l1018 i797.toNat).pc, (el l1018 i797.toNat).inv, (el l1018 i797.toNat).lin, (el l1018 i797.toNat).res, (⟨(el l1018 i797.toNat).a.code, (el l1018 i797.toNat).a.rev, r1037.2, (el l1018 i797.toNat).a.list⟩ : DAnswer)⟩ : DTask) (fun _ => rfl) hi1027 rfl rfl
 refine bs hx fun l1040 hl1041 hx => ?_
 have hM := hM.ren (oi hl1041)
 refine was rfl rfl <| wl_sq <| wc_region <| wmv rfl rfl <| wmv rfl rfl <| xgs hx fun hg1047 hx => ?_
 have hi1046 : i797.toNat < l1040.length := by omega
 refine wv rfl (r_ixC u38 sz64 rfl rfl (hM.seeO m0) hg1047) <| wv rfl (r_fldC (i := i797.toNat) u64 rfl rfl sz62 rfl (hM.seeO m0) hi1046) <| wv rfl (r_fldC (i := i797.toNat) u62 rfl rfl sz60 rfl (hM.seeO m0) hi1046) ?_
 obtain ⟨s1051, hM, hc1052⟩ := hM.leafO (i := i797.toNat) (j := 14) (fun _ => rfl) hi1046 rfl
 refine wv rfl (r_ld u60 rfl rfl (hc1052 _ (Rel.refl _))) <| wmv rfl rfl ?_
 have hM := hM.open (i := i797.toNat) (j := 14) m1 (fun _ => rfl) hi1046 rfl
 refine bs hx fun r1056 h1057 hx => w_call rfl rfl (hM.callO (l := [oC (cSl 3 fDEntry ((el l1040 i797.toNat).a.list)) s1051.v]) fun X S oL hS hR hO => ct_laws_markEntryS _ X S ((el l1040 i797.toNat).a.list) s1051 r1037.1 hS  oL h1057) ?_
 rintro _ w1058 ⟨_, rfl, hM⟩
 dsimp only [List.cons_append, List.nil_append] at hM
 have hM := hM.close (i := i797.toNat) (j := 14) (⟨(el l1040 i797.toNat).c, (el l1040 i797.toNat).pc, (el l1040 i797.toNat).inv, (el l1040 i797.toNat).lin, (el l1040 i797.toNat).res, (⟨(el l1040 i797.toNat).a.code, (el l1040 i797.toNat).a.rev, (el l1040 i797.toNat).a.text, r1056.2⟩ : DAnswer)⟩ : DTask) (fun _ => rfl) hi1046 rfl rfl
 refine bs hx fun l1059 hl1060 hx => ?_
 have hM := hM.ren (oi hl1060)
 refine was rfl rfl <| wl_nil <| bk_n <| sq_n <| wc_region <| wmv rfl rfl <| xgs hx fun hg1064 hx => wv rfl (r_add rfl rfl hg1064) <| was rfl rfl <| wl_nil ?_
 cases hx
 exact lp_end (m803, r1056.1, i797 + 1, l1059) (Nat.lt_succ_self _) ⟨rfl, rfl, rfl, trivial⟩ ⟨hM, hx805⟩
 refine wc_exit <| sq_exit <| lp1_exit ?_
 cases hx
 obtain rfl := oi hx805
 replace hx := hx795
 refine bk_here <| sq_n <| wc_sr <| wmv rfl rfl <| was rfl rfl <| wl_sq <| wc_ret ?_
 obtain rfl := oi hx
 refine fin_ret [(iv k796)] ⟨rfl, trivial⟩ ?_
 replace hM := hM.t1
 exact ⟨(), rfl, (hM.fewer rsN).gives⟩

noncomputable def x_laws_markWorld (a : DWorld) (k : Int) : Option (Int × DWorld) :=
  Option.bind (x_laws_markHub a.h k) fun r14 => Option.bind (x_laws_markIntS a.locks r14.1) fun r21 => Option.bind (x_laws_markQueueS a.queues r21.1) fun r28 => Option.bind (x_laws_markTaskS a.tasks r28.1) fun r35 => some (r35.1, (⟨(⟨a.h.shut, r14.2.docs, r14.2.subs, a.h.last⟩ : DHub), r21.2, r28.2, r35.2, a.step⟩ : DWorld))
theorem ct_laws_markWorld (w : World) (X S : Bs) (a : DWorld) (s_a_1 : Sv) (s_a_2 : Sv) (s_a_4 : Sv) (s_a_5 : Sv) (s_a_6 : Sv) (k : Int) (hS : SX X S w)  (oL : Sep [oC (cSl 5 fDDoc a.h.docs) s_a_1.v, oC (cSl 6 fDSub a.h.subs) s_a_2.v, oC (cSl 1 fI a.locks) s_a_4.v, oC (cSl 2 fDQueue a.queues) s_a_5.v, oC (cSl 15 fDTask a.tasks) s_a_6.v] X w) {r : Int × DWorld} (hx : x_laws_markWorld a k = some r) :
 Ret Tryz.prog 13 [(.agg #[(bv a.h.shut), s_a_1.v, s_a_2.v, (iv a.h.last), s_a_4.v, s_a_5.v, s_a_6.v, (iv a.step)]), (iv k)] w (fun u w' => ∃ _ : Unit, u = (iv r.1) ∧ Gives X S w [oC (cSl 5 fDDoc r.2.h.docs) s_a_1.v, oC (cSl 6 fDSub r.2.h.subs) s_a_2.v, oC (cSl 1 fI r.2.locks) s_a_4.v, oC (cSl 2 fDQueue r.2.queues) s_a_5.v, oC (cSl 15 fDTask r.2.tasks) s_a_6.v] [] w') := by
 unfold x_laws_markWorld at hx
 refine enter Tryz.func13 rfl Tryz.ntmps13 (by kernel_rfl) rfl ?_
 have hM := St.enter oL hS
 refine wc_sr ?_
 refine w_ex rfl (x_box rfl hM ?_); intro b42 w41 hR43 hM
 refine was rfl rfl <| wl_sq <| wc_sr <| wv rfl (r_fld u40 rfl rfl sz36 rfl) <| wv rfl (r_ldBS u36 sz36 rfl (us := [(bv a.h.shut), s_a_1.v, s_a_2.v, (iv a.h.last)]) rfl hM m0 rfl) <| wmv rfl rfl ?_
 replace hM := hM.p2.p2
 refine bs hx fun r49 h50 hx => w_call rfl rfl (hM.callO (l := [oC (cSl 5 fDDoc a.h.docs) s_a_1.v, oC (cSl 6 fDSub a.h.subs) s_a_2.v]) fun X S oL hS hR hO => ct_laws_markHub _ X S a.h s_a_1 s_a_2 k hS  oL h50) ?_
 rintro _ w51 ⟨_, rfl, hM⟩
 dsimp only [List.cons_append, List.nil_append] at hM
 refine was rfl rfl <| wl_sq <| wc_sr <| wv rfl (r_fld u40 rfl rfl sz26 rfl) <| wv rfl (r_ldB u26 rfl rfl hM m2 rfl) <| wmv rfl rfl ?_
 replace hM := hM.p3
 refine bs hx fun r56 h57 hx => w_call rfl rfl (hM.callO (l := [oC (cSl 1 fI a.locks) s_a_4.v]) fun X S oL hS hR hO => ct_laws_markIntS _ X S a.locks s_a_4 r49.1 hS  oL h57) ?_
 rintro _ w58 ⟨_, rfl, hM⟩
 dsimp only [List.cons_append, List.nil_append] at hM
 refine was rfl rfl <| wl_sq <| wc_sr <| wv rfl (r_fld u40 rfl rfl sz37 rfl) <| wv rfl (r_ldB u37 rfl rfl hM m3 rfl) <| wmv rfl rfl ?_
 replace hM := hM.p4
 refine bs hx fun r63 h64 hx => w_call rfl rfl (hM.callO (l := [oC (cSl 2 fDQueue a.queues) s_a_5.v]) fun X S oL hS hR hO => ct_laws_markQueueS _ X S a.queues s_a_5 r56.1 hS  oL h64) ?_
 rintro _ w65 ⟨_, rfl, hM⟩
 dsimp only [List.cons_append, List.nil_append] at hM
 refine was rfl rfl <| wl_sq <| wc_sr <| wv rfl (r_fld u40 rfl rfl sz38 rfl) <| wv rfl (r_ldB u38 rfl rfl hM m4 rfl) <| wmv rfl rfl ?_
 replace hM := hM.p5
 refine bs hx fun r70 h71 hx => w_call rfl rfl (hM.callO (l := [oC (cSl 15 fDTask a.tasks) s_a_6.v]) fun X S oL hS hR hO => ct_laws_markTaskS _ X S a.tasks s_a_6 r63.1 hS  oL h71) ?_
 rintro _ w72 ⟨_, rfl, hM⟩
 dsimp only [List.cons_append, List.nil_append] at hM
 refine was rfl rfl <| wl_sq <| wc_sr <| wmv rfl rfl <| was rfl rfl <| wl_sq <| wc_ret ?_
 obtain rfl := oi hx
 refine fin_ret [(iv r70.1)] ⟨rfl, trivial⟩ ?_
 replace hM := hM.p1.p2.p4.p4
 replace hM := hM.t5
 exact ⟨(), rfl, (hM.fewer rsN).gives⟩

noncomputable def x_laws_markStringS_b0 (k29 : Int) (i30 : Int) (l31 : List ByteArray) : Option (Lr (Int × Int × List ByteArray) (Int × List ByteArray)) :=
  bif decide (i30 < (l31.length : Int)) then (Option.bind (x_laws_markText k29) fun r63 => xg (0 ≤ i30 ∧ i30 < (l31.length : Int)) <| xg (inI (k29 + 1)) <| xg (inI (i30 + 1)) <| some (Lr.go (k29 + 1, i30 + 1, l31.set i30.toNat r63.1))) else (some (Lr.out (k29, l31)))
noncomputable def x_laws_markStringS_f0 (s79 : Int × Int × List ByteArray) : Option (Lr (Int × Int × List ByteArray) (Int × List ByteArray)) := x_laws_markStringS_b0 s79.1 s79.2.1 s79.2.2
noncomputable def x_laws_markStringS (a : List ByteArray) (k : Int) : Option (Int × List ByteArray) :=
  Option.bind (iter (x_laws_markStringS_f0) (k, 0, a)) fun (y80 : Int × List ByteArray) => some (y80.1, y80.2)
theorem ct_laws_markStringS (w : World) (X S : Bs) (a : List ByteArray) (s_a : Sv) (k : Int) (hS : SX X S w)  (oL : Sep [oC (cSl 1 fT a) s_a.v] X w) {r : Int × List ByteArray} (hx : x_laws_markStringS a k = some r) :
 Ret Tryz.prog 14 [s_a.v, (iv k)] w (fun u w' => ∃ _ : Unit, u = (iv r.1) ∧ Gives X S w [oC (cSl 1 fT r.2) s_a.v] [] w') := by
 unfold x_laws_markStringS at hx
 refine enter Tryz.func14 rfl Tryz.ntmps14 (by kernel_rfl) rfl ?_
 have hM := St.enter oL hS
 refine wc_sr <| was rfl rfl <| wl_sq <| wc_seq <| wc_sr <| was rfl rfl <| wl_sq <| wc_block <| bs hx fun y86 hx hx87 => ?_
 obtain ⟨m93, hx⟩ := iter_run hx
 refine wc_loop (un fun (m91 : Nat) => un fun (k88 : Int) => un fun (i89 : Int) => fun (l90 : List ByteArray) => [(0, s_a.v), (1, (iv k88)), (5, (iv i89))]) (un fun (m91 : Nat) => un fun (k88 : Int) => un fun (i89 : Int) => fun (l90 : List ByteArray) w' => St ⟨w, X, S⟩ [oC (cSl 1 fT l90) s_a.v] [] w' ∧ iterN _ m91 (k88, i89, l90) = some y86) (fun p => p.1) (m93, k, 0, a) ⟨rfl, rfl, rfl, trivial⟩ ⟨hM, hx⟩ ?_
 rintro ⟨m91, k88, i89, l90⟩ w94 ⟨hM, hx⟩
 obtain ⟨m95, z96, rfl, hx, hx97⟩ := iterN_step hx
 unfold x_laws_markStringS_f0 x_laws_markStringS_b0 at hx
 try dsimp only at hx
 refine wc_seq <| wc_sr <| wmv rfl rfl <| wmv rfl rfl <| wv rfl (r_lenC u44 rfl (hM.seeO m0)) <| wv rfl (r_lss rfl rfl) <| wl_sq ?_
 refine wcx hx rfl (fun hx => ?_) (fun hx => ?_)
 refine wc_skip <| sq_n <| wc_seq <| wc_block <| wc_sr <| wmv rfl rfl <| wmv rfl rfl <| wmv rfl rfl <| bs hx fun r106 h107 hx => w_cv hM rfl rfl (fun X S oL hS hR hO => ct_laws_markText _ X S k88 hS  oL h107) fun _ hM => xgs hx fun hg111 hx => ?_
 have hi110 : i89.toNat < l90.length := by omega
 refine wv rfl (r_ixC u44 sz9 rfl rfl (hM.seeO m0) hg111) ?_
 refine w_exu (x_stE (f := fT) (k := 1) (L := l90) (i := i89.toNat) (j := 0) r106.1 [cT r106.1] sz9 (fun _ => rfl) rfl rfl hi110 rfl rfl rfl rfl rfl (fun _ => zP (pV _ rfl) zN) hM ?_); intro w112 hM
 refine wl_sq <| wc_region <| wmv rfl rfl <| xgs hx fun hg116 hx => wv rfl (r_add rfl rfl hg116) <| was rfl rfl <| wl_nil <| bk_n <| sq_n <| wc_region <| wmv rfl rfl <| xgs hx fun hg120 hx => wv rfl (r_add rfl rfl hg120) <| was rfl rfl ?_
 refine wl_nil ?_
 cases hx
 exact lp_end (m95, k88 + 1, i89 + 1, l90.set i89.toNat r106.1) (Nat.lt_succ_self _) ⟨rfl, rfl, rfl, trivial⟩ ⟨hM, hx97⟩
 refine wc_exit <| sq_exit <| lp1_exit ?_
 cases hx
 obtain rfl := oi hx97
 replace hx := hx87
 refine bk_here <| sq_n <| wc_sr <| wmv rfl rfl <| was rfl rfl <| wl_sq <| wc_ret ?_
 obtain rfl := oi hx
 refine fin_ret [(iv k88)] ⟨rfl, trivial⟩ ?_
 replace hM := hM.t1
 exact ⟨(), rfl, (hM.fewer rsN).gives⟩

noncomputable def x_laws_heldStringS_b0 (a : List ByteArray) (k3 : Int) (i4 : Int) : Option (Lr (Int × Int) (Sum Int Int)) :=
  bif decide (i4 < (a.length : Int)) then (xg (0 ≤ i4 ∧ i4 < (a.length : Int)) <| Option.bind (x_laws_markText k3) fun r42 => bif !decide (el a i4.toNat = r42.1) then (some (Lr.out (Sum.inr (-1)))) else (xg (inI (k3 + 1)) <| xg (inI (i4 + 1)) <| some (Lr.go (k3 + 1, i4 + 1)))) else (some (Lr.out (Sum.inl k3)))
noncomputable def x_laws_heldStringS_f0 (a : List ByteArray) (s57 : Int × Int) : Option (Lr (Int × Int) (Sum Int Int)) := x_laws_heldStringS_b0 a s57.1 s57.2
noncomputable def x_laws_heldStringS (a : List ByteArray) (k : Int) : Option Int :=
  Option.bind (iter (x_laws_heldStringS_f0 a) (k, 0)) fun (y58 : Sum Int Int) => Sum.elim (fun y59 => some y59) (fun y60 => some y60) y58
theorem ct_laws_heldStringS (w : World) (X S : Bs) (a : List ByteArray) (s_a : Sv) (k : Int) (hS : SX X S w) (a_a_0 : (cSl 1 fT a).rd S w s_a.v) (oL : Sep [] X w) {r : Int} (hx : x_laws_heldStringS a k = some r) :
 Ret Tryz.prog 15 [s_a.v, (iv k)] w (KV X S w (iv r)) := by
 unfold x_laws_heldStringS at hx
 refine enter Tryz.func15 rfl Tryz.ntmps15 (by kernel_rfl) rfl ?_
 have hM := (St.enter oL hS).addV a_a_0
 refine wc_sr <| was rfl rfl <| wl_sq <| wc_seq <| wc_sr <| was rfl rfl <| wl_sq <| wc_block <| bs hx fun y65 hx hx66 => ?_
 obtain ⟨m71, hx⟩ := iter_run hx
 refine wc_loop (un fun (m69 : Nat) => un fun (k67 : Int) => fun (i68 : Int) => [(0, s_a.v), (1, (iv k67)), (5, (iv i68))]) (un fun (m69 : Nat) => un fun (k67 : Int) => fun (i68 : Int) w' => St ⟨w, X, S⟩ [] [rV s_a.v (cSl 1 fT a)] w' ∧ iterN _ m69 (k67, i68) = some y65) (fun p => p.1) (m71, k, 0) ⟨rfl, rfl, rfl, trivial⟩ ⟨hM, hx⟩ ?_
 rintro ⟨m69, k67, i68⟩ w72 ⟨hM, hx⟩
 obtain ⟨m73, z74, rfl, hx, hx75⟩ := iterN_step hx
 unfold x_laws_heldStringS_f0 x_laws_heldStringS_b0 at hx
 try dsimp only at hx
 refine wc_seq <| wc_sr <| wmv rfl rfl <| wmv rfl rfl <| wv rfl (r_lenC u44 rfl (hM.seeR m0)) <| wv rfl (r_lss rfl rfl) <| wl_sq ?_
 refine wcx hx rfl (fun hx => ?_) (fun hx => ?_)
 refine wc_skip <| sq_n <| wc_seq <| wc_block <| wc_seq <| wc_seq <| wc_draw [(0, 0), (1, 0), (2, 0), (3, 0), (4, 0), (5, 0), (6, 0)] Tryz_mixed (by kernel_rfl) rfl (by kernel_rfl) rfl <| omv rfl rfl <| omv rfl rfl <| xgs hx fun hg85 hx => ?_
 have hi84 : i68.toNat < a.length := by omega
 refine ov rfl (fun w' h' => r_ixC u44 sz9 rfl rfl ((hM.call h').seeR m0) hg85) <| ov rfl (fun w' h' => r_ld u9 rfl rfl (Cs.get (i := i68.toNat) (j := 0) ((hM.call h').seeR m0) (fun _ => rfl) hi84 rfl)) <| omv rfl rfl <| bs hx fun _ h89 hx => oc rfl rfl (fun w' h' => (hM.call h').callV fun X S oL hS hR hO => ct_laws_markText _ X S k67 hS  oL h89) <| ov rfl (fun w' h' => r_neqs rfl rfl) <| o_nilM hM fun _ hM => sq_n ?_
 refine wcx hx rfl (fun hx => ?_) (fun hx => ?_)
 refine wc_sr <| was rfl rfl <| wl_sq <| wc_ret <| sq_ret <| bk_ret <| sq_ret <| lp1_ret ?_
 cases hx
 obtain rfl := oi hx75
 replace hx := hx66
 refine bk_ret <| sq_ret ?_
 obtain rfl := oi hx
 exact fin_u [(iv (-1))] hM ⟨rfl, trivial⟩ rfl
 refine wc_skip <| sq_n <| wc_region <| wmv rfl rfl <| xgs hx fun hg98 hx => wv rfl (r_add rfl rfl hg98) <| was rfl rfl <| wl_nil <| bk_n <| sq_n <| wc_region <| wmv rfl rfl <| xgs hx fun hg102 hx => wv rfl (r_add rfl rfl hg102) ?_
 refine was rfl rfl <| wl_nil ?_
 cases hx
 exact lp_end (m73, k67 + 1, i68 + 1) (Nat.lt_succ_self _) ⟨rfl, rfl, rfl, trivial⟩ ⟨hM, hx75⟩
 refine wc_exit <| sq_exit <| lp1_exit ?_
 cases hx
 obtain rfl := oi hx75
 replace hx := hx66
 refine bk_here <| sq_n <| wc_sr <| wmv rfl rfl <| was rfl rfl <| wl_sq <| wc_ret ?_
 obtain rfl := oi hx
 exact fin_u [(iv k67)] hM ⟨rfl, trivial⟩ rfl

noncomputable def x_laws_FnExactCallTexts (aW : DWorld) : Option Bool :=
  Option.bind (x_laws_szWorld aW 1048576) fun r9 => bif decide (r9 < 0) then (some true) else (Option.bind (x_laws_toWorld aW) fun r17 => Option.bind (x_spec_CallTexts r17) fun r30 => Option.bind (x_laws_toWorld aW) fun r37 => Option.bind (x_impl_CallTexts r37) fun r57 => Option.bind (x_laws_eqStringS r57 r30) fun r65 => bif !r65 then (some false) else (Option.bind (x_laws_toWorld aW) fun r72 => Option.bind (x_laws_eqWorld r37 r72) fun r88 => bif !r88 then (some false) else (Option.bind (x_laws_markWorld r37 1) fun r98 => Option.bind (bif decide (r98.1 < 0) then (some true) else (Option.bind (x_laws_eqStringS r57 r30) fun r115 => some (!r115))) fun c105 => bif c105 then (some false) else (Option.bind (x_laws_markStringS r57 1) fun r123 => Option.bind (x_laws_heldStringS r123.2 1) fun r130 => bif decide (r130 < 0) then (some false) else (bif !decide (r130 = r123.1) then (some false) else (Option.bind (x_laws_toWorld aW) fun r142 => Option.bind (x_impl_CallTexts r142) fun r155 => Option.bind (x_laws_eqStringS r155 r30) fun r163 => bif !r163 then (some false) else (Option.bind (x_laws_heldStringS r123.2 1) fun r171 => bif decide (r171 < 0) then (some false) else (bif !decide (r171 = r123.1) then (some false) else (some true)))))))))
theorem ct_laws_FnExactCallTexts (w : World) (X S : Bs) (aW : DWorld) (s_aW_1 : Sv) (s_aW_2 : Sv) (s_aW_4 : Sv) (s_aW_5 : Sv) (s_aW_6 : Sv) (hS : SX X S w) (hT : rTab.ok S w) (hU : rMax.ok S w) (a_aW_1 : (cSl 5 fDDoc aW.h.docs).rd S w s_aW_1.v) (a_aW_2 : (cSl 6 fDSub aW.h.subs).rd S w s_aW_2.v) (a_aW_4 : (cSl 1 fI aW.locks).rd S w s_aW_4.v) (a_aW_5 : (cSl 2 fDQueue aW.queues).rd S w s_aW_5.v) (a_aW_6 : (cSl 15 fDTask aW.tasks).rd S w s_aW_6.v) (oL : Sep [] X w) {r : Bool} (hx : x_laws_FnExactCallTexts aW = some r) :
 Ret Tryz.prog 4 [(.agg #[(bv aW.h.shut), s_aW_1.v, s_aW_2.v, (iv aW.h.last), s_aW_4.v, s_aW_5.v, s_aW_6.v, (iv aW.step)])] w (KV X S w (bv r)) := by
 unfold x_laws_FnExactCallTexts at hx
 refine enter Tryz.func4 rfl Tryz.ntmps4 (by kernel_rfl) rfl ?_
 have hM := St.enter oL hS
 have hM := hM.addE (r := rTab) hT
 have hM := hM.addE (r := rMax) hU
 have hM := hM.addV a_aW_1
 have hM := hM.addV a_aW_2
 have hM := hM.addV a_aW_4
 have hM := hM.addV a_aW_5
 have hM := hM.addV a_aW_6
 refine wc_sr ?_
 refine w_ex rfl (x_box rfl hM ?_); intro b184 w183 hR185 hM
 refine was rfl rfl <| wl_sq <| wc_sr <| was rfl rfl <| wl_sq <| wc_sr <| wv rfl (r_ldBS u30 sz30 rfl (us := [(bv aW.h.shut), s_aW_1.v, s_aW_2.v, (iv aW.h.last), s_aW_4.v, s_aW_5.v, s_aW_6.v, (iv aW.step)]) rfl hM m0 rfl) <| wmv rfl rfl <| bs hx fun _ h192 hx => w_cv hM rfl rfl (fun X S oL hS hR hO => ct_laws_szWorld _ X S aW s_aW_1 s_aW_2 s_aW_4 s_aW_5 s_aW_6 (1048576 : Int) hS (hR _ m4) (hR _ m3) (hR _ m2) (hR _ m1) (hR _ m0) oL h192) fun _ hM => was rfl rfl <| wl_sq <| wc_seq <| wc_sr ?_
 refine wmv rfl rfl <| wv rfl (r_lss rfl rfl) <| wl_sq ?_
 refine wcx hx rfl (fun hx => ?_) (fun hx => ?_)
 refine wc_sr <| was rfl rfl <| wl_sq <| wc_ret <| sq_ret ?_
 obtain rfl := oi hx
 exact fin_u [(bv true)] hM ⟨rfl, trivial⟩ rfl
 refine wc_skip <| sq_n <| wc_sr <| wv rfl (r_ldBS u30 sz30 rfl (us := [(bv aW.h.shut), s_aW_1.v, s_aW_2.v, (iv aW.h.last), s_aW_4.v, s_aW_5.v, s_aW_6.v, (iv aW.step)]) rfl hM m0 rfl) <| bs hx fun r200 h201 hx => w_call rfl rfl (hM.callO (l := []) fun X S oL hS hR hO => ct_laws_toWorld _ X S aW s_aW_1 s_aW_2 s_aW_4 s_aW_5 s_aW_6 hS (hR _ m4) (hR _ m3) (hR _ m2) (hR _ m1) (hR _ m0) oL h201) ?_
 rintro _ w202 ⟨⟨s203, s204, s205, s206, s207⟩, rfl, hM⟩
 dsimp only [List.cons_append, List.nil_append] at hM
 refine bs hx fun r213 h214 hx => w_call rfl rfl (hM.callO (l := []) fun X S oL hS hR hO => ct_spec_CallTexts _ X S r200 s203 s204 s205 s206 s207 hS (seeA hO m0) (seeA hO m1) (seeA hO m2) (seeA hO m3) (seeA hO m4) oL h214) ?_
 rintro _ w215 ⟨s216, rfl, hM⟩
 dsimp only [List.cons_append, List.nil_append] at hM
 refine was rfl rfl <| wl_sq <| wc_sr <| wv rfl (r_ldBS u30 sz30 rfl (us := [(bv aW.h.shut), s_aW_1.v, s_aW_2.v, (iv aW.h.last), s_aW_4.v, s_aW_5.v, s_aW_6.v, (iv aW.step)]) rfl hM m6 rfl) <| bs hx fun r220 h221 hx => w_call rfl rfl (hM.callO (l := []) fun X S oL hS hR hO => ct_laws_toWorld _ X S aW s_aW_1 s_aW_2 s_aW_4 s_aW_5 s_aW_6 hS (hR _ m4) (hR _ m3) (hR _ m2) (hR _ m1) (hR _ m0) oL h221) ?_
 rintro _ w222 ⟨⟨s223, s224, s225, s226, s227⟩, rfl, hM⟩
 dsimp only [List.cons_append, List.nil_append] at hM
 refine w_ex rfl (x_alloc sz40 hM ?_); intro b234 w233 hR235 hM
 refine w_exu (x_stB #[(bv r220.h.shut), s223.v, s224.v, (iv r220.h.last), s225.v, s226.v, s227.v, (iv r220.step)] sz40 rfl rfl rfl rfl rfl rfl hM ?_); intro w237 hM
 refine wl_sq <| wc_sr <| wv rfl (r_ldBS u40 sz40 rfl (us := [(bv r220.h.shut), s223.v, s224.v, (iv r220.h.last), s225.v, s226.v, s227.v, (iv r220.step)]) rfl hM m0 rfl) <| bs hx fun r240 h241 hx => w_call rfl rfl (hM.callO (l := []) fun X S oL hS hR hO => ct_impl_CallTexts _ X S r220 s223 s224 s225 s226 s227 hS (hR _ m6) (hR _ m5) (seeA hO m1) (seeA hO m2) (seeA hO m3) (seeA hO m4) (seeA hO m5) oL h241) ?_
 rintro _ w242 ⟨s243, rfl, hM⟩
 dsimp only [List.cons_append, List.nil_append] at hM
 refine was rfl rfl <| wl_sq <| wc_seq <| wc_sr <| wmv rfl rfl <| wmv rfl rfl <| bs hx fun _ h249 hx => w_cv hM rfl rfl (fun X S oL hS hR hO => ct_laws_eqStringS _ X S r240 s243 r213 s216 hS (seeA hO m0) (seeA hO m7) oL h249) fun _ hM => wv rfl (r_not rfl) <| wl_sq ?_
 refine wcx hx rfl (fun hx => ?_) (fun hx => ?_)
 refine wc_sr <| was rfl rfl <| wl_sq <| wc_ret <| sq_ret ?_
 obtain rfl := oi hx
 exact fin_u [(bv false)] hM ⟨rfl, trivial⟩ rfl
 refine wc_skip <| sq_n <| wc_seq <| wc_seq <| wc_draw [(0, 0), (1, 0), (2, 1), (3, 0), (4, 0)] Tryz_mixed (by kernel_rfl) rfl (by kernel_rfl) rfl <| ov rfl (fun w' h' => r_ldBS u40 sz40 rfl (us := [(bv r220.h.shut), s223.v, s224.v, (iv r220.h.last), s225.v, s226.v, s227.v, (iv r220.step)]) rfl (hM.call h') m1 rfl) <| ov rfl (fun w' h' => r_ldBS u30 sz30 rfl (us := [(bv aW.h.shut), s_aW_1.v, s_aW_2.v, (iv aW.h.last), s_aW_4.v, s_aW_5.v, s_aW_6.v, (iv aW.step)]) rfl (hM.call h') (mX m3) rfl) <| bs hx fun r256 h257 hx => o_forced rfl rfl (fun w' h' => (hM.call h').callF fun X S oL hS hR hO => ct_laws_toWorld _ X S aW s_aW_1 s_aW_2 s_aW_4 s_aW_5 s_aW_6 hS (hR _ m4) (hR _ m3) (hR _ m2) (hR _ m1) (hR _ m0) oL h257) ?_
 rintro w264 h265 _ w258 ⟨hR266, ⟨s259, s260, s261, s262, s263⟩, rfl, hM⟩
 refine ⟨hR266, ?_⟩
 dsimp only [List.cons_append, List.nil_append] at hM
 refine bs hx fun _ h273 hx => oc rfl rfl (fun w' h' => (hM.call h').callV fun X S oL hS hR hO => ct_laws_eqWorld _ X S r220 s223 s224 s225 s226 s227 r256 s259 s260 s261 s262 s263 hS (seeA hO m7) (seeA hO m8) (seeA hO m9) (seeA hO (mX m0)) (seeA hO (mX m1)) (seeA hO m0) (seeA hO m1) (seeA hO m2) (seeA hO m3) (seeA hO m4) oL h273) <| ov rfl (fun w' h' => r_not rfl) <| o_nilM hM fun _ hM => sq_n ?_
 refine wcx hx rfl (fun hx => ?_) (fun hx => ?_)
 refine wc_sr <| was rfl rfl <| wl_sq <| wc_ret <| sq_ret ?_
 obtain rfl := oi hx
 exact fin_u [(bv false)] hM ⟨rfl, trivial⟩ rfl
 refine wc_skip <| sq_n <| wc_sr <| was rfl rfl <| wl_sq <| wc_sr <| wv rfl (r_ldBS u40 sz40 rfl (us := [(bv r220.h.shut), s223.v, s224.v, (iv r220.h.last), s225.v, s226.v, s227.v, (iv r220.step)]) rfl hM m6 rfl) <| wmv rfl rfl ?_
 replace hM := hM.p11.p11.p11.p11.p11
 refine bs hx fun _ h284 hx => w_call rfl rfl (hM.callO (l := [oC (cSl 5 fDDoc r220.h.docs) s223.v, oC (cSl 6 fDSub r220.h.subs) s224.v, oC (cSl 1 fI r220.locks) s225.v, oC (cSl 2 fDQueue r220.queues) s226.v, oC (cSl 15 fDTask r220.tasks) s227.v]) fun X S oL hS hR hO => ct_laws_markWorld _ X S r220 s223 s224 s225 s226 s227 (1 : Int) hS  oL h284) ?_
 rintro _ w285 ⟨_, rfl, hM⟩
 dsimp only [List.cons_append, List.nil_append] at hM
 refine was rfl rfl <| wl_sq <| wc_seq <| wc_sr <| wmv rfl rfl <| wv rfl (r_lss rfl rfl) <| wmv rfl rfl <| bs hx fun c290 hx hx298 => ?_
 refine wl_midH 5 [(42, (bv c290)), (1, (pt b184 0)), (4, s216.v), (6, s243.v)] hM ?_ fun w299 hM => ?_
 refine cs2 hx (fun hg291 hx => ?_) (fun hg291 hx => ?_)
 refine gn hg291 rfl rfl <| gn hg291 rfl rfl <| gn hg291 rfl rfl <| gn hg291 rfl rfl <| wv rfl (p_t rfl hg291 rfl) ?_
 obtain rfl := oi hx
 exact mid_h ⟨rfl, rfl, rfl, rfl, trivial⟩ hM
 refine gv rfl hg291 rfl (r_move rfl) <| gv rfl hg291 rfl (r_move rfl) <| bs hx fun _ h303 hx => g_cv hM hg291 rfl rfl rfl (fun X S oL hS hR hO => ct_laws_eqStringS _ X S r240 s243 r213 s216 hS (seeA hO (mX m0)) (seeA hO (mX m2)) oL h303) fun _ hM => gv rfl hg291 rfl (r_not rfl) <| wv rfl (p_f rfl hg291 rfl) ?_
 cases hx
 exact mid_h ⟨rfl, rfl, rfl, rfl, trivial⟩ hM
 replace hx := hx298
 refine wl_sq ?_
 refine wcx hx rfl (fun hx => ?_) (fun hx => ?_)
 refine wc_sr <| was rfl rfl <| wl_sq <| wc_ret <| sq_ret ?_
 obtain rfl := oi hx
 exact fin_u [(bv false)] hM ⟨rfl, trivial⟩ rfl
 refine wc_skip <| sq_n <| wc_sr <| was rfl rfl <| wl_sq <| wc_sr <| wmv rfl rfl <| wmv rfl rfl ?_
 replace hM := hM.p10
 refine bs hx fun r311 h312 hx => w_call rfl rfl (hM.callO (l := [oC (cSl 1 fT r240) s243.v]) fun X S oL hS hR hO => ct_laws_markStringS _ X S r240 s243 (1 : Int) hS  oL h312) ?_
 rintro _ w313 ⟨_, rfl, hM⟩
 dsimp only [List.cons_append, List.nil_append] at hM
 refine was rfl rfl <| wl_sq <| wc_sr <| was rfl rfl <| wl_sq <| wc_sr <| wmv rfl rfl <| wmv rfl rfl <| bs hx fun _ h319 hx => w_cv hM rfl rfl (fun X S oL hS hR hO => ct_laws_heldStringS _ X S r311.2 s243 (1 : Int) hS (seeA hO m0) oL h319) fun _ hM => was rfl rfl <| wl_sq <| wc_seq <| wc_sr ?_
 refine wmv rfl rfl <| wv rfl (r_lss rfl rfl) <| wl_sq ?_
 refine wcx hx rfl (fun hx => ?_) (fun hx => ?_)
 refine wc_sr <| was rfl rfl <| wl_sq <| wc_ret <| sq_ret ?_
 obtain rfl := oi hx
 exact fin_u [(bv false)] hM ⟨rfl, trivial⟩ rfl
 refine wc_skip <| sq_n <| wc_seq <| wc_sr <| wmv rfl rfl <| wmv rfl rfl <| wv rfl (r_neq rfl rfl) <| wl_sq ?_
 refine wcx hx rfl (fun hx => ?_) (fun hx => ?_)
 refine wc_sr <| was rfl rfl <| wl_sq <| wc_ret <| sq_ret ?_
 obtain rfl := oi hx
 exact fin_u [(bv false)] hM ⟨rfl, trivial⟩ rfl
 refine wc_skip <| sq_n <| wc_sr <| wv rfl (r_ldBS u30 sz30 rfl (us := [(bv aW.h.shut), s_aW_1.v, s_aW_2.v, (iv aW.h.last), s_aW_4.v, s_aW_5.v, s_aW_6.v, (iv aW.step)]) rfl hM (mX m8) rfl) <| bs hx fun r332 h333 hx => w_call rfl rfl (hM.callO (l := []) fun X S oL hS hR hO => ct_laws_toWorld _ X S aW s_aW_1 s_aW_2 s_aW_4 s_aW_5 s_aW_6 hS (hR _ m4) (hR _ m3) (hR _ m2) (hR _ m1) (hR _ m0) oL h333) ?_
 rintro _ w334 ⟨⟨s335, s336, s337, s338, s339⟩, rfl, hM⟩
 dsimp only [List.cons_append, List.nil_append] at hM
 refine bs hx fun r345 h346 hx => w_call rfl rfl (hM.callO (l := []) fun X S oL hS hR hO => ct_impl_CallTexts _ X S r332 s335 s336 s337 s338 s339 hS (hR _ m6) (hR _ m5) (seeA hO m0) (seeA hO m1) (seeA hO m2) (seeA hO m3) (seeA hO m4) oL h346) ?_
 rintro _ w347 ⟨s348, rfl, hM⟩
 dsimp only [List.cons_append, List.nil_append] at hM
 refine was rfl rfl <| wl_sq <| wc_seq <| wc_sr <| wmv rfl rfl <| wmv rfl rfl <| bs hx fun _ h354 hx => w_cv hM rfl rfl (fun X S oL hS hR hO => ct_laws_eqStringS _ X S r345 s348 r213 s216 hS (seeA hO m0) (seeA hO (mX m8)) oL h354) fun _ hM => wv rfl (r_not rfl) <| wl_sq ?_
 refine wcx hx rfl (fun hx => ?_) (fun hx => ?_)
 refine wc_sr <| was rfl rfl <| wl_sq <| wc_ret <| sq_ret ?_
 obtain rfl := oi hx
 exact fin_u [(bv false)] hM ⟨rfl, trivial⟩ rfl
 refine wc_skip <| sq_n <| wc_sr <| was rfl rfl <| wl_sq <| wc_sr <| wmv rfl rfl <| wmv rfl rfl <| bs hx fun _ h363 hx => w_cv hM rfl rfl (fun X S oL hS hR hO => ct_laws_heldStringS _ X S r311.2 s243 (1 : Int) hS (seeA hO m6) oL h363) fun _ hM => was rfl rfl <| wl_sq <| wc_seq <| wc_sr ?_
 refine wmv rfl rfl <| wv rfl (r_lss rfl rfl) <| wl_sq ?_
 refine wcx hx rfl (fun hx => ?_) (fun hx => ?_)
 refine wc_sr <| was rfl rfl <| wl_sq <| wc_ret <| sq_ret ?_
 obtain rfl := oi hx
 exact fin_u [(bv false)] hM ⟨rfl, trivial⟩ rfl
 refine wc_skip <| sq_n <| wc_seq <| wc_sr <| wmv rfl rfl <| wmv rfl rfl <| wv rfl (r_neq rfl rfl) <| wl_sq ?_
 refine wcx hx rfl (fun hx => ?_) (fun hx => ?_)
 refine wc_sr <| was rfl rfl <| wl_sq <| wc_ret <| sq_ret ?_
 obtain rfl := oi hx
 exact fin_u [(bv false)] hM ⟨rfl, trivial⟩ rfl
 refine wc_skip <| sq_n <| wc_sr <| was rfl rfl <| wl_sq <| wc_ret ?_
 obtain rfl := oi hx
 exact fin_u [(bv true)] hM ⟨rfl, trivial⟩ rfl

end Go.Proofs.YtjbonmmmcnpjiaaGreatDoor
