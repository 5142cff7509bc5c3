/- Walks of functions of this program (printed by a program of ours, by the rules of the layer). No condition. -/
import Derived.Test.YtjbonmmmcnpjiaaGreatDoorTX
import Derived.Test.YtjbonmmmcnpjiaaGreatDoorNz
namespace Go.Proofs.YtjbonmmmcnpjiaaGreatDoor
open Go.RowKit

noncomputable def x_impl_ClName (k : Int) : Option ByteArray :=
  Option.bind (x_impl_within k 1 8) fun r8 => bif !r8 then (some (⟨#[]⟩ : ByteArray)) else (xg (inI (k - 1)) <| xg (0 ≤ (k - 1) ∧ (k - 1) < ([(⟨#[111, 112, 101, 110]⟩ : ByteArray), (⟨#[115, 117, 98, 109, 105, 116]⟩ : ByteArray), (⟨#[102, 101, 116, 99, 104]⟩ : ByteArray), (⟨#[115, 110, 97, 112]⟩ : ByteArray), (⟨#[115, 117, 98]⟩ : ByteArray), (⟨#[112, 111, 108, 108]⟩ : ByteArray), (⟨#[114, 101, 115, 121, 110, 99]⟩ : ByteArray), (⟨#[115, 104, 117, 116]⟩ : ByteArray)].length : Int)) <| some (el [(⟨#[111, 112, 101, 110]⟩ : ByteArray), (⟨#[115, 117, 98, 109, 105, 116]⟩ : ByteArray), (⟨#[102, 101, 116, 99, 104]⟩ : ByteArray), (⟨#[115, 110, 97, 112]⟩ : ByteArray), (⟨#[115, 117, 98]⟩ : ByteArray), (⟨#[112, 111, 108, 108]⟩ : ByteArray), (⟨#[114, 101, 115, 121, 110, 99]⟩ : ByteArray), (⟨#[115, 104, 117, 116]⟩ : ByteArray)] ((k - 1).toNat)))
theorem ct_impl_ClName (w : World) (X S : Bs) (k : Int) (hS : SX X S w)  (oL : Sep [] X w) {r : ByteArray} (hx : x_impl_ClName k = some r) :
 Ret Tryz.prog 66 [(iv k)] w (KV X S w (.string r)) := by
 unfold x_impl_ClName at hx
 refine enter Tryz.func66 rfl Tryz.ntmps66 (by kernel_rfl) rfl ?_
 have hM := St.enter oL hS
 refine wc_sr <| was rfl rfl <| wl_sq <| wc_sr ?_
 refine w_ex rfl (x_lit (f := fT) (own := []) [(⟨#[111, 112, 101, 110]⟩ : ByteArray), (⟨#[115, 117, 98, 109, 105, 116]⟩ : ByteArray), (⟨#[102, 101, 116, 99, 104]⟩ : ByteArray), (⟨#[115, 110, 97, 112]⟩ : ByteArray), (⟨#[115, 117, 98]⟩ : ByteArray), (⟨#[112, 111, 108, 108]⟩ : ByteArray), (⟨#[114, 101, 115, 121, 110, 99]⟩ : ByteArray), (⟨#[115, 104, 117, 116]⟩ : ByteArray)] [(.string (⟨#[111, 112, 101, 110]⟩ : ByteArray)), (.string (⟨#[115, 117, 98, 109, 105, 116]⟩ : ByteArray)), (.string (⟨#[102, 101, 116, 99, 104]⟩ : ByteArray)), (.string (⟨#[115, 110, 97, 112]⟩ : ByteArray)), (.string (⟨#[115, 117, 98]⟩ : ByteArray)), (.string (⟨#[112, 111, 108, 108]⟩ : ByteArray)), (.string (⟨#[114, 101, 115, 121, 110, 99]⟩ : ByteArray)), (.string (⟨#[115, 104, 117, 116]⟩ : ByteArray))] 8 u44 sz9 (fun _ => rfl) rfl rfl rfl rfl rfl (by kernel_rfl) (fun _ => zP (pV _ rfl) (zP (pV _ rfl) (zP (pV _ rfl) (zP (pV _ rfl) (zP (pV _ rfl) (zP (pV _ rfl) (zP (pV _ rfl) (zP (pV _ rfl) zN)))))))) hM ?_); intro s24 w23 hR25 hM
 refine was rfl rfl <| wl_sq <| wc_seq <| wc_sr <| wmv rfl rfl <| bs hx fun _ h30 hx => w_cv hM rfl rfl (fun X S oL hS hR hO => ct_impl_within _ X S k (1 : Int) (8 : Int) hS  oL h30) fun _ hM => wv rfl (r_not rfl) <| wl_sq ?_
 refine wcx hx rfl (fun hx => ?_) (fun hx => ?_)
 refine wc_sr <| was rfl rfl <| wl_sq <| wc_ret <| sq_ret ?_
 obtain rfl := oi hx
 exact fin_u [(.string (⟨#[]⟩ : ByteArray))] hM ⟨rfl, trivial⟩ rfl
 refine wc_skip <| sq_n <| wc_sr <| wmv rfl rfl <| wmv rfl rfl <| xgs hx fun hg38 hx => wv rfl (r_sub rfl rfl hg38) <| xgs hx fun hg41 hx => ?_
 have hi40 : ((k - 1).toNat) < [(⟨#[111, 112, 101, 110]⟩ : ByteArray), (⟨#[115, 117, 98, 109, 105, 116]⟩ : ByteArray), (⟨#[102, 101, 116, 99, 104]⟩ : ByteArray), (⟨#[115, 110, 97, 112]⟩ : ByteArray), (⟨#[115, 117, 98]⟩ : ByteArray), (⟨#[112, 111, 108, 108]⟩ : ByteArray), (⟨#[114, 101, 115, 121, 110, 99]⟩ : ByteArray), (⟨#[115, 104, 117, 116]⟩ : ByteArray)].length := by omega
 refine wv rfl (r_ixC u44 sz9 rfl rfl (hM.seeO m0) hg41) <| wv rfl (r_ld u9 rfl rfl (Cs.get (i := ((k - 1).toNat)) (j := 0) (hM.seeO m0) (fun _ => rfl) hi40 rfl)) <| was rfl rfl <| wl_sq <| wc_ret ?_
 obtain rfl := oi hx
 exact fin_u [(.string (el [(⟨#[111, 112, 101, 110]⟩ : ByteArray), (⟨#[115, 117, 98, 109, 105, 116]⟩ : ByteArray), (⟨#[102, 101, 116, 99, 104]⟩ : ByteArray), (⟨#[115, 110, 97, 112]⟩ : ByteArray), (⟨#[115, 117, 98]⟩ : ByteArray), (⟨#[112, 111, 108, 108]⟩ : ByteArray), (⟨#[114, 101, 115, 121, 110, 99]⟩ : ByteArray), (⟨#[115, 104, 117, 116]⟩ : ByteArray)] ((k - 1).toNat)))] hM ⟨rfl, trivial⟩ rfl

noncomputable def x_impl_PcName (pc : Int) : Option ByteArray :=
  Option.bind (x_impl_within pc 0 4) fun r8 => bif !r8 then (some (⟨#[]⟩ : ByteArray)) else (xg (0 ≤ pc ∧ pc < ([(⟨#[115, 116, 97, 114, 116]⟩ : ByteArray), (⟨#[108, 111, 99, 107, 101, 100]⟩ : ByteArray), (⟨#[119, 97, 105, 116]⟩ : ByteArray), (⟨#[115, 101, 110, 100]⟩ : ByteArray), (⟨#[100, 111, 110, 101]⟩ : ByteArray)].length : Int)) <| some (el [(⟨#[115, 116, 97, 114, 116]⟩ : ByteArray), (⟨#[108, 111, 99, 107, 101, 100]⟩ : ByteArray), (⟨#[119, 97, 105, 116]⟩ : ByteArray), (⟨#[115, 101, 110, 100]⟩ : ByteArray), (⟨#[100, 111, 110, 101]⟩ : ByteArray)] pc.toNat))
theorem ct_impl_PcName (w : World) (X S : Bs) (pc : Int) (hS : SX X S w)  (oL : Sep [] X w) {r : ByteArray} (hx : x_impl_PcName pc = some r) :
 Ret Tryz.prog 67 [(iv pc)] w (KV X S w (.string r)) := by
 unfold x_impl_PcName at hx
 refine enter Tryz.func67 rfl Tryz.ntmps67 (by kernel_rfl) rfl ?_
 have hM := St.enter oL hS
 refine wc_sr <| was rfl rfl <| wl_sq <| wc_sr ?_
 refine w_ex rfl (x_lit (f := fT) (own := []) [(⟨#[115, 116, 97, 114, 116]⟩ : ByteArray), (⟨#[108, 111, 99, 107, 101, 100]⟩ : ByteArray), (⟨#[119, 97, 105, 116]⟩ : ByteArray), (⟨#[115, 101, 110, 100]⟩ : ByteArray), (⟨#[100, 111, 110, 101]⟩ : ByteArray)] [(.string (⟨#[115, 116, 97, 114, 116]⟩ : ByteArray)), (.string (⟨#[108, 111, 99, 107, 101, 100]⟩ : ByteArray)), (.string (⟨#[119, 97, 105, 116]⟩ : ByteArray)), (.string (⟨#[115, 101, 110, 100]⟩ : ByteArray)), (.string (⟨#[100, 111, 110, 101]⟩ : ByteArray))] 5 u44 sz9 (fun _ => rfl) rfl rfl rfl rfl rfl (by kernel_rfl) (fun _ => zP (pV _ rfl) (zP (pV _ rfl) (zP (pV _ rfl) (zP (pV _ rfl) (zP (pV _ rfl) zN))))) hM ?_); intro s22 w21 hR23 hM
 refine was rfl rfl <| wl_sq <| wc_seq <| wc_sr <| wmv rfl rfl <| bs hx fun _ h28 hx => w_cv hM rfl rfl (fun X S oL hS hR hO => ct_impl_within _ X S pc (0 : Int) (4 : Int) hS  oL h28) fun _ hM => wv rfl (r_not rfl) <| wl_sq ?_
 refine wcx hx rfl (fun hx => ?_) (fun hx => ?_)
 refine wc_sr <| was rfl rfl <| wl_sq <| wc_ret <| sq_ret ?_
 obtain rfl := oi hx
 exact fin_u [(.string (⟨#[]⟩ : ByteArray))] hM ⟨rfl, trivial⟩ rfl
 refine wc_skip <| sq_n <| wc_sr <| wmv rfl rfl <| wmv rfl rfl <| xgs hx fun hg37 hx => ?_
 have hi36 : pc.toNat < [(⟨#[115, 116, 97, 114, 116]⟩ : ByteArray), (⟨#[108, 111, 99, 107, 101, 100]⟩ : ByteArray), (⟨#[119, 97, 105, 116]⟩ : ByteArray), (⟨#[115, 101, 110, 100]⟩ : ByteArray), (⟨#[100, 111, 110, 101]⟩ : ByteArray)].length := by omega
 refine wv rfl (r_ixC u44 sz9 rfl rfl (hM.seeO m0) hg37) <| wv rfl (r_ld u9 rfl rfl (Cs.get (i := pc.toNat) (j := 0) (hM.seeO m0) (fun _ => rfl) hi36 rfl)) <| was rfl rfl <| wl_sq <| wc_ret ?_
 obtain rfl := oi hx
 exact fin_u [(.string (el [(⟨#[115, 116, 97, 114, 116]⟩ : ByteArray), (⟨#[108, 111, 99, 107, 101, 100]⟩ : ByteArray), (⟨#[119, 97, 105, 116]⟩ : ByteArray), (⟨#[115, 101, 110, 100]⟩ : ByteArray), (⟨#[100, 111, 110, 101]⟩ : ByteArray)] pc.toNat))] hM ⟨rfl, trivial⟩ rfl

noncomputable def x_impl_OtName (code : Int) : Option ByteArray :=
  Option.bind (x_impl_within code 0 12) fun r8 => bif !r8 then (some (⟨#[]⟩ : ByteArray)) else (xg (0 ≤ code ∧ code < ([(⟨#[111, 107]⟩ : ByteArray), (⟨#[105, 110, 118, 97, 108, 105, 100]⟩ : ByteArray), (⟨#[102, 117, 116, 117, 114, 101]⟩ : ByteArray), (⟨#[111, 108, 100]⟩ : ByteArray), (⟨#[115, 101, 113]⟩ : ByteArray), (⟨#[108, 97, 114, 103, 101]⟩ : ByteArray), (⟨#[110, 111, 100, 111, 99]⟩ : ByteArray), (⟨#[104, 97, 118, 101]⟩ : ByteArray), (⟨#[110, 111, 115, 117, 98]⟩ : ByteArray), (⟨#[101, 118, 105, 99, 116, 101, 100]⟩ : ByteArray), (⟨#[102, 117, 108, 108]⟩ : ByteArray), (⟨#[98, 117, 115, 121]⟩ : ByteArray), (⟨#[99, 108, 111, 115, 101, 100]⟩ : ByteArray)].length : Int)) <| some (el [(⟨#[111, 107]⟩ : ByteArray), (⟨#[105, 110, 118, 97, 108, 105, 100]⟩ : ByteArray), (⟨#[102, 117, 116, 117, 114, 101]⟩ : ByteArray), (⟨#[111, 108, 100]⟩ : ByteArray), (⟨#[115, 101, 113]⟩ : ByteArray), (⟨#[108, 97, 114, 103, 101]⟩ : ByteArray), (⟨#[110, 111, 100, 111, 99]⟩ : ByteArray), (⟨#[104, 97, 118, 101]⟩ : ByteArray), (⟨#[110, 111, 115, 117, 98]⟩ : ByteArray), (⟨#[101, 118, 105, 99, 116, 101, 100]⟩ : ByteArray), (⟨#[102, 117, 108, 108]⟩ : ByteArray), (⟨#[98, 117, 115, 121]⟩ : ByteArray), (⟨#[99, 108, 111, 115, 101, 100]⟩ : ByteArray)] code.toNat))
theorem ct_impl_OtName (w : World) (X S : Bs) (code : Int) (hS : SX X S w)  (oL : Sep [] X w) {r : ByteArray} (hx : x_impl_OtName code = some r) :
 Ret Tryz.prog 68 [(iv code)] w (KV X S w (.string r)) := by
 unfold x_impl_OtName at hx
 refine enter Tryz.func68 rfl Tryz.ntmps68 (by kernel_rfl) rfl ?_
 have hM := St.enter oL hS
 refine wc_sr <| was rfl rfl <| wl_sq <| wc_sr ?_
 refine w_ex rfl (x_lit (f := fT) (own := []) [(⟨#[111, 107]⟩ : ByteArray), (⟨#[105, 110, 118, 97, 108, 105, 100]⟩ : ByteArray), (⟨#[102, 117, 116, 117, 114, 101]⟩ : ByteArray), (⟨#[111, 108, 100]⟩ : ByteArray), (⟨#[115, 101, 113]⟩ : ByteArray), (⟨#[108, 97, 114, 103, 101]⟩ : ByteArray), (⟨#[110, 111, 100, 111, 99]⟩ : ByteArray), (⟨#[104, 97, 118, 101]⟩ : ByteArray), (⟨#[110, 111, 115, 117, 98]⟩ : ByteArray), (⟨#[101, 118, 105, 99, 116, 101, 100]⟩ : ByteArray), (⟨#[102, 117, 108, 108]⟩ : ByteArray), (⟨#[98, 117, 115, 121]⟩ : ByteArray), (⟨#[99, 108, 111, 115, 101, 100]⟩ : ByteArray)] [(.string (⟨#[111, 107]⟩ : ByteArray)), (.string (⟨#[105, 110, 118, 97, 108, 105, 100]⟩ : ByteArray)), (.string (⟨#[102, 117, 116, 117, 114, 101]⟩ : ByteArray)), (.string (⟨#[111, 108, 100]⟩ : ByteArray)), (.string (⟨#[115, 101, 113]⟩ : ByteArray)), (.string (⟨#[108, 97, 114, 103, 101]⟩ : ByteArray)), (.string (⟨#[110, 111, 100, 111, 99]⟩ : ByteArray)), (.string (⟨#[104, 97, 118, 101]⟩ : ByteArray)), (.string (⟨#[110, 111, 115, 117, 98]⟩ : ByteArray)), (.string (⟨#[101, 118, 105, 99, 116, 101, 100]⟩ : ByteArray)), (.string (⟨#[102, 117, 108, 108]⟩ : ByteArray)), (.string (⟨#[98, 117, 115, 121]⟩ : ByteArray)), (.string (⟨#[99, 108, 111, 115, 101, 100]⟩ : ByteArray))] 13 u44 sz9 (fun _ => rfl) rfl rfl rfl rfl rfl (by kernel_rfl) (fun _ => zP (pV _ rfl) (zP (pV _ rfl) (zP (pV _ rfl) (zP (pV _ rfl) (zP (pV _ rfl) (zP (pV _ rfl) (zP (pV _ rfl) (zP (pV _ rfl) (zP (pV _ rfl) (zP (pV _ rfl) (zP (pV _ rfl) (zP (pV _ rfl) (zP (pV _ rfl) zN))))))))))))) hM ?_); intro s22 w21 hR23 hM
 refine was rfl rfl <| wl_sq <| wc_seq <| wc_sr <| wmv rfl rfl <| bs hx fun _ h28 hx => w_cv hM rfl rfl (fun X S oL hS hR hO => ct_impl_within _ X S code (0 : Int) (12 : Int) hS  oL h28) fun _ hM => wv rfl (r_not rfl) <| wl_sq ?_
 refine wcx hx rfl (fun hx => ?_) (fun hx => ?_)
 refine wc_sr <| was rfl rfl <| wl_sq <| wc_ret <| sq_ret ?_
 obtain rfl := oi hx
 exact fin_u [(.string (⟨#[]⟩ : ByteArray))] hM ⟨rfl, trivial⟩ rfl
 refine wc_skip <| sq_n <| wc_sr <| wmv rfl rfl <| wmv rfl rfl <| xgs hx fun hg37 hx => ?_
 have hi36 : code.toNat < [(⟨#[111, 107]⟩ : ByteArray), (⟨#[105, 110, 118, 97, 108, 105, 100]⟩ : ByteArray), (⟨#[102, 117, 116, 117, 114, 101]⟩ : ByteArray), (⟨#[111, 108, 100]⟩ : ByteArray), (⟨#[115, 101, 113]⟩ : ByteArray), (⟨#[108, 97, 114, 103, 101]⟩ : ByteArray), (⟨#[110, 111, 100, 111, 99]⟩ : ByteArray), (⟨#[104, 97, 118, 101]⟩ : ByteArray), (⟨#[110, 111, 115, 117, 98]⟩ : ByteArray), (⟨#[101, 118, 105, 99, 116, 101, 100]⟩ : ByteArray), (⟨#[102, 117, 108, 108]⟩ : ByteArray), (⟨#[98, 117, 115, 121]⟩ : ByteArray), (⟨#[99, 108, 111, 115, 101, 100]⟩ : ByteArray)].length := by omega
 refine wv rfl (r_ixC u44 sz9 rfl rfl (hM.seeO m0) hg37) <| wv rfl (r_ld u9 rfl rfl (Cs.get (i := code.toNat) (j := 0) (hM.seeO m0) (fun _ => rfl) hi36 rfl)) <| was rfl rfl <| wl_sq <| wc_ret ?_
 obtain rfl := oi hx
 exact fin_u [(.string (el [(⟨#[111, 107]⟩ : ByteArray), (⟨#[105, 110, 118, 97, 108, 105, 100]⟩ : ByteArray), (⟨#[102, 117, 116, 117, 114, 101]⟩ : ByteArray), (⟨#[111, 108, 100]⟩ : ByteArray), (⟨#[115, 101, 113]⟩ : ByteArray), (⟨#[108, 97, 114, 103, 101]⟩ : ByteArray), (⟨#[110, 111, 100, 111, 99]⟩ : ByteArray), (⟨#[104, 97, 118, 101]⟩ : ByteArray), (⟨#[110, 111, 115, 117, 98]⟩ : ByteArray), (⟨#[101, 118, 105, 99, 116, 101, 100]⟩ : ByteArray), (⟨#[102, 117, 108, 108]⟩ : ByteArray), (⟨#[98, 117, 115, 121]⟩ : ByteArray), (⟨#[99, 108, 111, 115, 101, 100]⟩ : ByteArray)] code.toNat))] hM ⟨rfl, trivial⟩ rfl

noncomputable def x_impl_TaskText (t : DTask) : Option ByteArray :=
  Option.bind (x_impl_ClName t.c.kind) fun r9 => xg (r9.size + (⟨#[32]⟩ : ByteArray).size ≤ 9223372036854775807) <| Option.bind (x_impl_PcName t.pc) fun r16 => xg ((r9 ++ (⟨#[32]⟩ : ByteArray)).size + r16.size ≤ 9223372036854775807) <| Option.bind (bif decide (t.pc = 3) then (some true) else (some (decide (t.pc = 4)))) fun c28 => bif c28 then (Option.bind (x_impl_OtName t.a.code) fun r40 => xg ((⟨#[32]⟩ : ByteArray).size + r40.size ≤ 9223372036854775807) <| xg (((r9 ++ (⟨#[32]⟩ : ByteArray)) ++ r16).size + ((⟨#[32]⟩ : ByteArray) ++ r40).size ≤ 9223372036854775807) <| some (((r9 ++ (⟨#[32]⟩ : ByteArray)) ++ r16) ++ ((⟨#[32]⟩ : ByteArray) ++ r40))) else (some ((r9 ++ (⟨#[32]⟩ : ByteArray)) ++ r16))
theorem ct_impl_TaskText (w : World) (X S : Bs) (t : DTask) (s_t_5 : Sv) (s_t_6 : Sv) (s_t_13 : Sv) (s_t_14 : Sv) (hS : SX X S w) (a_t_5 : (cSl 3 fDPart t.c.o).rd S w s_t_5.v) (a_t_6 : (cSl 1 fI t.c.text).rd S w s_t_6.v) (a_t_13 : (cSl 1 fI t.a.text).rd S w s_t_13.v) (a_t_14 : (cSl 3 fDEntry t.a.list).rd S w s_t_14.v) (oL : Sep [] X w) {r : ByteArray} (hx : x_impl_TaskText t = some r) :
 Ret Tryz.prog 29 [(.agg #[(iv t.c.kind), (.string t.c.doc), (iv t.c.client), (iv t.c.seq), (iv t.c.n), s_t_5.v, s_t_6.v, (iv t.pc), (iv t.inv), (iv t.lin), (iv t.res), (iv t.a.code), (iv t.a.rev), s_t_13.v, s_t_14.v])] w (KV X S w (.string r)) := by
 unfold x_impl_TaskText at hx
 refine enter Tryz.func29 rfl Tryz.ntmps29 (by kernel_rfl) rfl ?_
 have hM := ((((St.enter oL hS).addV a_t_5).addV a_t_6).addV a_t_13).addV a_t_14
 refine wc_sr ?_
 refine w_ex rfl (x_box rfl hM ?_); intro b53 w52 hR54 hM
 refine was rfl rfl <| wl_sq <| wc_seq <| wc_draw [(0, 0), (1, 0), (2, 0), (3, 0), (4, 0), (5, 0), (6, 0), (7, 0), (8, 0), (9, 0)] Tryz_mixed (by kernel_rfl) rfl (by kernel_rfl) rfl <| ov rfl (fun w' h' => r_fld u64 rfl rfl sz59 rfl) <| ov rfl (fun w' h' => r_fld u59 rfl rfl sz3 rfl) <| ov rfl (fun w' h' => r_ldB u3 rfl rfl (hM.call h') m0 rfl) <| bs hx fun r60 h61 hx => oc rfl rfl (fun w' h' => (hM.call h').callV fun X S oL hS hR hO => ct_impl_ClName _ X S t.c.kind hS  oL h61) <| xgs hx fun hg64 hx => ov rfl (fun w' h' => r_adds rfl rfl hg64) <| ov rfl (fun w' h' => r_fld u64 rfl rfl sz3 rfl) <| ov rfl (fun w' h' => r_ldB u3 rfl rfl (hM.call h') m0 rfl) <| bs hx fun r67 h68 hx => ?_
 refine oc rfl rfl (fun w' h' => (hM.call h').callV fun X S oL hS hR hO => ct_impl_PcName _ X S t.pc hS  oL h68) <| xgs hx fun hg71 hx => ov rfl (fun w' h' => r_adds rfl rfl hg71) <| ov rfl (fun w' h' => r_assign rfl) <| o_nilM hM fun _ hM => sq_n <| wc_seq <| wc_sr <| wv rfl (r_fld u64 rfl rfl sz3 rfl) <| wv rfl (r_ldB u3 rfl rfl hM m0 rfl) <| wv rfl (r_eql rfl rfl) <| wmv rfl rfl <| bs hx fun c79 hx hx84 => ?_
 refine wl_midH 4 [(20, (bv c79)), (1, (pt b53 0)), (3, (.string ((r60 ++ (⟨#[32]⟩ : ByteArray)) ++ r67)))] hM ?_ fun w85 hM => ?_
 refine cs2 hx (fun hg80 hx => ?_) (fun hg80 hx => ?_)
 refine gn hg80 rfl rfl <| gn hg80 rfl rfl <| gn hg80 rfl rfl <| wv rfl (p_t rfl hg80 rfl) ?_
 obtain rfl := oi hx
 exact mid_h ⟨rfl, rfl, rfl, trivial⟩ hM
 refine gv rfl hg80 rfl (r_fld u64 rfl rfl sz3 rfl) <| gv rfl hg80 rfl (r_ldB u3 rfl rfl hM m0 rfl) <| gv rfl hg80 rfl (r_eql rfl rfl) <| wv rfl (p_f rfl hg80 rfl) ?_
 cases hx
 exact mid_h ⟨rfl, rfl, rfl, trivial⟩ hM
 replace hx := hx84
 refine wl_sq ?_
 refine wcx hx rfl (fun hx => ?_) (fun hx => ?_)
 refine wc_region <| wmv rfl rfl <| wv rfl (r_fld u64 rfl rfl sz62 rfl) <| wv rfl (r_fld u62 rfl rfl sz3 rfl) <| wv rfl (r_ldB u3 rfl rfl hM m0 rfl) <| bs hx fun r94 h95 hx => w_cv hM rfl rfl (fun X S oL hS hR hO => ct_impl_OtName _ X S t.a.code hS  oL h95) fun _ hM => xgs hx fun hg98 hx => wv rfl (r_adds rfl rfl hg98) <| xgs hx fun hg100 hx => wv rfl (r_adds rfl rfl hg100) <| was rfl rfl <| wl_sq <| wc_sr ?_
 refine wmv rfl rfl <| was rfl rfl <| wl_sq <| wc_ret ?_
 obtain rfl := oi hx
 exact fin_u [(.string (((r60 ++ (⟨#[32]⟩ : ByteArray)) ++ r67) ++ ((⟨#[32]⟩ : ByteArray) ++ r94)))] hM ⟨rfl, trivial⟩ rfl
 refine wc_skip <| sq_n <| wc_sr <| wmv rfl rfl <| was rfl rfl <| wl_sq <| wc_ret ?_
 obtain rfl := oi hx
 exact fin_u [(.string ((r60 ++ (⟨#[32]⟩ : ByteArray)) ++ r67))] hM ⟨rfl, trivial⟩ rfl

noncomputable def x_spec_ClName (k : Int) : Option ByteArray :=
  Option.bind (x_spec_l12Kind k) fun r3 => bif !r3 then (some (⟨#[]⟩ : ByteArray)) else (xg (0 ≤ k ∧ k < ([(⟨#[]⟩ : ByteArray), (⟨#[111, 112, 101, 110]⟩ : ByteArray), (⟨#[115, 117, 98, 109, 105, 116]⟩ : ByteArray), (⟨#[102, 101, 116, 99, 104]⟩ : ByteArray), (⟨#[115, 110, 97, 112]⟩ : ByteArray), (⟨#[115, 117, 98]⟩ : ByteArray), (⟨#[112, 111, 108, 108]⟩ : ByteArray), (⟨#[114, 101, 115, 121, 110, 99]⟩ : ByteArray), (⟨#[115, 104, 117, 116]⟩ : ByteArray)].length : Int)) <| some (el [(⟨#[]⟩ : ByteArray), (⟨#[111, 112, 101, 110]⟩ : ByteArray), (⟨#[115, 117, 98, 109, 105, 116]⟩ : ByteArray), (⟨#[102, 101, 116, 99, 104]⟩ : ByteArray), (⟨#[115, 110, 97, 112]⟩ : ByteArray), (⟨#[115, 117, 98]⟩ : ByteArray), (⟨#[112, 111, 108, 108]⟩ : ByteArray), (⟨#[114, 101, 115, 121, 110, 99]⟩ : ByteArray), (⟨#[115, 104, 117, 116]⟩ : ByteArray)] k.toNat))
theorem ct_spec_ClName (w : World) (X S : Bs) (k : Int) (hS : SX X S w)  (oL : Sep [] X w) {r : ByteArray} (hx : x_spec_ClName k = some r) :
 Ret Tryz.prog 51 [(iv k)] w (KV X S w (.string r)) := by
 unfold x_spec_ClName at hx
 refine enter Tryz.func51 rfl Tryz.ntmps51 (by kernel_rfl) rfl ?_
 have hM := St.enter oL hS
 refine wc_sr <| was rfl rfl <| wl_sq <| wc_seq <| wc_sr <| wmv rfl rfl <| bs hx fun _ h21 hx => w_cv hM rfl rfl (fun X S oL hS hR hO => ct_spec_l12Kind _ X S k hS  oL h21) fun _ hM => wv rfl (r_not rfl) <| wl_sq ?_
 refine wcx hx rfl (fun hx => ?_) (fun hx => ?_)
 refine wc_sr <| was rfl rfl <| wl_sq <| wc_ret <| sq_ret ?_
 obtain rfl := oi hx
 exact fin_u [(.string (⟨#[]⟩ : ByteArray))] hM ⟨rfl, trivial⟩ rfl
 refine wc_skip <| sq_n <| wc_sr ?_
 refine w_ex rfl (x_lit (f := fT) (own := []) [(⟨#[]⟩ : ByteArray), (⟨#[111, 112, 101, 110]⟩ : ByteArray), (⟨#[115, 117, 98, 109, 105, 116]⟩ : ByteArray), (⟨#[102, 101, 116, 99, 104]⟩ : ByteArray), (⟨#[115, 110, 97, 112]⟩ : ByteArray), (⟨#[115, 117, 98]⟩ : ByteArray), (⟨#[112, 111, 108, 108]⟩ : ByteArray), (⟨#[114, 101, 115, 121, 110, 99]⟩ : ByteArray), (⟨#[115, 104, 117, 116]⟩ : ByteArray)] [(.string (⟨#[]⟩ : ByteArray)), (.string (⟨#[111, 112, 101, 110]⟩ : ByteArray)), (.string (⟨#[115, 117, 98, 109, 105, 116]⟩ : ByteArray)), (.string (⟨#[102, 101, 116, 99, 104]⟩ : ByteArray)), (.string (⟨#[115, 110, 97, 112]⟩ : ByteArray)), (.string (⟨#[115, 117, 98]⟩ : ByteArray)), (.string (⟨#[112, 111, 108, 108]⟩ : ByteArray)), (.string (⟨#[114, 101, 115, 121, 110, 99]⟩ : ByteArray)), (.string (⟨#[115, 104, 117, 116]⟩ : ByteArray))] 9 u44 sz9 (fun _ => rfl) rfl rfl rfl rfl rfl (by kernel_rfl) (fun _ => zP (pV _ rfl) (zP (pV _ rfl) (zP (pV _ rfl) (zP (pV _ rfl) (zP (pV _ rfl) (zP (pV _ rfl) (zP (pV _ rfl) (zP (pV _ rfl) (zP (pV _ rfl) zN))))))))) hM ?_); intro s27 w26 hR28 hM
 refine wmv rfl rfl <| xgs hx fun hg33 hx => ?_
 have hi32 : k.toNat < [(⟨#[]⟩ : ByteArray), (⟨#[111, 112, 101, 110]⟩ : ByteArray), (⟨#[115, 117, 98, 109, 105, 116]⟩ : ByteArray), (⟨#[102, 101, 116, 99, 104]⟩ : ByteArray), (⟨#[115, 110, 97, 112]⟩ : ByteArray), (⟨#[115, 117, 98]⟩ : ByteArray), (⟨#[112, 111, 108, 108]⟩ : ByteArray), (⟨#[114, 101, 115, 121, 110, 99]⟩ : ByteArray), (⟨#[115, 104, 117, 116]⟩ : ByteArray)].length := by omega
 refine wv rfl (r_ixC u44 sz9 rfl rfl (hM.seeO m0) hg33) <| wv rfl (r_ld u9 rfl rfl (Cs.get (i := k.toNat) (j := 0) (hM.seeO m0) (fun _ => rfl) hi32 rfl)) <| was rfl rfl <| wl_sq <| wc_ret ?_
 obtain rfl := oi hx
 exact fin_u [(.string (el [(⟨#[]⟩ : ByteArray), (⟨#[111, 112, 101, 110]⟩ : ByteArray), (⟨#[115, 117, 98, 109, 105, 116]⟩ : ByteArray), (⟨#[102, 101, 116, 99, 104]⟩ : ByteArray), (⟨#[115, 110, 97, 112]⟩ : ByteArray), (⟨#[115, 117, 98]⟩ : ByteArray), (⟨#[112, 111, 108, 108]⟩ : ByteArray), (⟨#[114, 101, 115, 121, 110, 99]⟩ : ByteArray), (⟨#[115, 104, 117, 116]⟩ : ByteArray)] k.toNat))] hM ⟨rfl, trivial⟩ rfl

noncomputable def x_spec_PcName (pc : Int) : Option ByteArray :=
  Option.bind (x_spec_l01In pc 0 4) fun r3 => bif !r3 then (some (⟨#[]⟩ : ByteArray)) else (xg (0 ≤ pc ∧ pc < ([(⟨#[115, 116, 97, 114, 116]⟩ : ByteArray), (⟨#[108, 111, 99, 107, 101, 100]⟩ : ByteArray), (⟨#[119, 97, 105, 116]⟩ : ByteArray), (⟨#[115, 101, 110, 100]⟩ : ByteArray), (⟨#[100, 111, 110, 101]⟩ : ByteArray)].length : Int)) <| some (el [(⟨#[115, 116, 97, 114, 116]⟩ : ByteArray), (⟨#[108, 111, 99, 107, 101, 100]⟩ : ByteArray), (⟨#[119, 97, 105, 116]⟩ : ByteArray), (⟨#[115, 101, 110, 100]⟩ : ByteArray), (⟨#[100, 111, 110, 101]⟩ : ByteArray)] pc.toNat))
theorem ct_spec_PcName (w : World) (X S : Bs) (pc : Int) (hS : SX X S w)  (oL : Sep [] X w) {r : ByteArray} (hx : x_spec_PcName pc = some r) :
 Ret Tryz.prog 52 [(iv pc)] w (KV X S w (.string r)) := by
 unfold x_spec_PcName at hx
 refine enter Tryz.func52 rfl Tryz.ntmps52 (by kernel_rfl) rfl ?_
 have hM := St.enter oL hS
 refine wc_sr <| was rfl rfl <| wl_sq <| wc_seq <| wc_sr <| wmv rfl rfl <| bs hx fun _ h21 hx => w_cv hM rfl rfl (fun X S oL hS hR hO => ct_spec_l01In _ X S pc (0 : Int) (4 : Int) hS  oL h21) fun _ hM => wv rfl (r_not rfl) <| wl_sq ?_
 refine wcx hx rfl (fun hx => ?_) (fun hx => ?_)
 refine wc_sr <| was rfl rfl <| wl_sq <| wc_ret <| sq_ret ?_
 obtain rfl := oi hx
 exact fin_u [(.string (⟨#[]⟩ : ByteArray))] hM ⟨rfl, trivial⟩ rfl
 refine wc_skip <| sq_n <| wc_sr ?_
 refine w_ex rfl (x_lit (f := fT) (own := []) [(⟨#[115, 116, 97, 114, 116]⟩ : ByteArray), (⟨#[108, 111, 99, 107, 101, 100]⟩ : ByteArray), (⟨#[119, 97, 105, 116]⟩ : ByteArray), (⟨#[115, 101, 110, 100]⟩ : ByteArray), (⟨#[100, 111, 110, 101]⟩ : ByteArray)] [(.string (⟨#[115, 116, 97, 114, 116]⟩ : ByteArray)), (.string (⟨#[108, 111, 99, 107, 101, 100]⟩ : ByteArray)), (.string (⟨#[119, 97, 105, 116]⟩ : ByteArray)), (.string (⟨#[115, 101, 110, 100]⟩ : ByteArray)), (.string (⟨#[100, 111, 110, 101]⟩ : ByteArray))] 5 u44 sz9 (fun _ => rfl) rfl rfl rfl rfl rfl (by kernel_rfl) (fun _ => zP (pV _ rfl) (zP (pV _ rfl) (zP (pV _ rfl) (zP (pV _ rfl) (zP (pV _ rfl) zN))))) hM ?_); intro s27 w26 hR28 hM
 refine wmv rfl rfl <| xgs hx fun hg33 hx => ?_
 have hi32 : pc.toNat < [(⟨#[115, 116, 97, 114, 116]⟩ : ByteArray), (⟨#[108, 111, 99, 107, 101, 100]⟩ : ByteArray), (⟨#[119, 97, 105, 116]⟩ : ByteArray), (⟨#[115, 101, 110, 100]⟩ : ByteArray), (⟨#[100, 111, 110, 101]⟩ : ByteArray)].length := by omega
 refine wv rfl (r_ixC u44 sz9 rfl rfl (hM.seeO m0) hg33) <| wv rfl (r_ld u9 rfl rfl (Cs.get (i := pc.toNat) (j := 0) (hM.seeO m0) (fun _ => rfl) hi32 rfl)) <| was rfl rfl <| wl_sq <| wc_ret ?_
 obtain rfl := oi hx
 exact fin_u [(.string (el [(⟨#[115, 116, 97, 114, 116]⟩ : ByteArray), (⟨#[108, 111, 99, 107, 101, 100]⟩ : ByteArray), (⟨#[119, 97, 105, 116]⟩ : ByteArray), (⟨#[115, 101, 110, 100]⟩ : ByteArray), (⟨#[100, 111, 110, 101]⟩ : ByteArray)] pc.toNat))] hM ⟨rfl, trivial⟩ rfl

noncomputable def x_spec_OtName (code : Int) : Option ByteArray :=
  Option.bind (x_spec_l01In code 0 12) fun r3 => bif !r3 then (some (⟨#[]⟩ : ByteArray)) else (xg (0 ≤ code ∧ code < ([(⟨#[111, 107]⟩ : ByteArray), (⟨#[105, 110, 118, 97, 108, 105, 100]⟩ : ByteArray), (⟨#[102, 117, 116, 117, 114, 101]⟩ : ByteArray), (⟨#[111, 108, 100]⟩ : ByteArray), (⟨#[115, 101, 113]⟩ : ByteArray), (⟨#[108, 97, 114, 103, 101]⟩ : ByteArray), (⟨#[110, 111, 100, 111, 99]⟩ : ByteArray), (⟨#[104, 97, 118, 101]⟩ : ByteArray), (⟨#[110, 111, 115, 117, 98]⟩ : ByteArray), (⟨#[101, 118, 105, 99, 116, 101, 100]⟩ : ByteArray), (⟨#[102, 117, 108, 108]⟩ : ByteArray), (⟨#[98, 117, 115, 121]⟩ : ByteArray), (⟨#[99, 108, 111, 115, 101, 100]⟩ : ByteArray)].length : Int)) <| some (el [(⟨#[111, 107]⟩ : ByteArray), (⟨#[105, 110, 118, 97, 108, 105, 100]⟩ : ByteArray), (⟨#[102, 117, 116, 117, 114, 101]⟩ : ByteArray), (⟨#[111, 108, 100]⟩ : ByteArray), (⟨#[115, 101, 113]⟩ : ByteArray), (⟨#[108, 97, 114, 103, 101]⟩ : ByteArray), (⟨#[110, 111, 100, 111, 99]⟩ : ByteArray), (⟨#[104, 97, 118, 101]⟩ : ByteArray), (⟨#[110, 111, 115, 117, 98]⟩ : ByteArray), (⟨#[101, 118, 105, 99, 116, 101, 100]⟩ : ByteArray), (⟨#[102, 117, 108, 108]⟩ : ByteArray), (⟨#[98, 117, 115, 121]⟩ : ByteArray), (⟨#[99, 108, 111, 115, 101, 100]⟩ : ByteArray)] code.toNat))
theorem ct_spec_OtName (w : World) (X S : Bs) (code : Int) (hS : SX X S w)  (oL : Sep [] X w) {r : ByteArray} (hx : x_spec_OtName code = some r) :
 Ret Tryz.prog 53 [(iv code)] w (KV X S w (.string r)) := by
 unfold x_spec_OtName at hx
 refine enter Tryz.func53 rfl Tryz.ntmps53 (by kernel_rfl) rfl ?_
 have hM := St.enter oL hS
 refine wc_sr <| was rfl rfl <| wl_sq <| wc_seq <| wc_sr <| wmv rfl rfl <| bs hx fun _ h21 hx => w_cv hM rfl rfl (fun X S oL hS hR hO => ct_spec_l01In _ X S code (0 : Int) (12 : Int) hS  oL h21) fun _ hM => wv rfl (r_not rfl) <| wl_sq ?_
 refine wcx hx rfl (fun hx => ?_) (fun hx => ?_)
 refine wc_sr <| was rfl rfl <| wl_sq <| wc_ret <| sq_ret ?_
 obtain rfl := oi hx
 exact fin_u [(.string (⟨#[]⟩ : ByteArray))] hM ⟨rfl, trivial⟩ rfl
 refine wc_skip <| sq_n <| wc_sr ?_
 refine w_ex rfl (x_lit (f := fT) (own := []) [(⟨#[111, 107]⟩ : ByteArray), (⟨#[105, 110, 118, 97, 108, 105, 100]⟩ : ByteArray), (⟨#[102, 117, 116, 117, 114, 101]⟩ : ByteArray), (⟨#[111, 108, 100]⟩ : ByteArray), (⟨#[115, 101, 113]⟩ : ByteArray), (⟨#[108, 97, 114, 103, 101]⟩ : ByteArray), (⟨#[110, 111, 100, 111, 99]⟩ : ByteArray), (⟨#[104, 97, 118, 101]⟩ : ByteArray), (⟨#[110, 111, 115, 117, 98]⟩ : ByteArray), (⟨#[101, 118, 105, 99, 116, 101, 100]⟩ : ByteArray), (⟨#[102, 117, 108, 108]⟩ : ByteArray), (⟨#[98, 117, 115, 121]⟩ : ByteArray), (⟨#[99, 108, 111, 115, 101, 100]⟩ : ByteArray)] [(.string (⟨#[111, 107]⟩ : ByteArray)), (.string (⟨#[105, 110, 118, 97, 108, 105, 100]⟩ : ByteArray)), (.string (⟨#[102, 117, 116, 117, 114, 101]⟩ : ByteArray)), (.string (⟨#[111, 108, 100]⟩ : ByteArray)), (.string (⟨#[115, 101, 113]⟩ : ByteArray)), (.string (⟨#[108, 97, 114, 103, 101]⟩ : ByteArray)), (.string (⟨#[110, 111, 100, 111, 99]⟩ : ByteArray)), (.string (⟨#[104, 97, 118, 101]⟩ : ByteArray)), (.string (⟨#[110, 111, 115, 117, 98]⟩ : ByteArray)), (.string (⟨#[101, 118, 105, 99, 116, 101, 100]⟩ : ByteArray)), (.string (⟨#[102, 117, 108, 108]⟩ : ByteArray)), (.string (⟨#[98, 117, 115, 121]⟩ : ByteArray)), (.string (⟨#[99, 108, 111, 115, 101, 100]⟩ : ByteArray))] 13 u44 sz9 (fun _ => rfl) rfl rfl rfl rfl rfl (by kernel_rfl) (fun _ => zP (pV _ rfl) (zP (pV _ rfl) (zP (pV _ rfl) (zP (pV _ rfl) (zP (pV _ rfl) (zP (pV _ rfl) (zP (pV _ rfl) (zP (pV _ rfl) (zP (pV _ rfl) (zP (pV _ rfl) (zP (pV _ rfl) (zP (pV _ rfl) (zP (pV _ rfl) zN))))))))))))) hM ?_); intro s27 w26 hR28 hM
 refine wmv rfl rfl <| xgs hx fun hg33 hx => ?_
 have hi32 : code.toNat < [(⟨#[111, 107]⟩ : ByteArray), (⟨#[105, 110, 118, 97, 108, 105, 100]⟩ : ByteArray), (⟨#[102, 117, 116, 117, 114, 101]⟩ : ByteArray), (⟨#[111, 108, 100]⟩ : ByteArray), (⟨#[115, 101, 113]⟩ : ByteArray), (⟨#[108, 97, 114, 103, 101]⟩ : ByteArray), (⟨#[110, 111, 100, 111, 99]⟩ : ByteArray), (⟨#[104, 97, 118, 101]⟩ : ByteArray), (⟨#[110, 111, 115, 117, 98]⟩ : ByteArray), (⟨#[101, 118, 105, 99, 116, 101, 100]⟩ : ByteArray), (⟨#[102, 117, 108, 108]⟩ : ByteArray), (⟨#[98, 117, 115, 121]⟩ : ByteArray), (⟨#[99, 108, 111, 115, 101, 100]⟩ : ByteArray)].length := by omega
 refine wv rfl (r_ixC u44 sz9 rfl rfl (hM.seeO m0) hg33) <| wv rfl (r_ld u9 rfl rfl (Cs.get (i := code.toNat) (j := 0) (hM.seeO m0) (fun _ => rfl) hi32 rfl)) <| was rfl rfl <| wl_sq <| wc_ret ?_
 obtain rfl := oi hx
 exact fin_u [(.string (el [(⟨#[111, 107]⟩ : ByteArray), (⟨#[105, 110, 118, 97, 108, 105, 100]⟩ : ByteArray), (⟨#[102, 117, 116, 117, 114, 101]⟩ : ByteArray), (⟨#[111, 108, 100]⟩ : ByteArray), (⟨#[115, 101, 113]⟩ : ByteArray), (⟨#[108, 97, 114, 103, 101]⟩ : ByteArray), (⟨#[110, 111, 100, 111, 99]⟩ : ByteArray), (⟨#[104, 97, 118, 101]⟩ : ByteArray), (⟨#[110, 111, 115, 117, 98]⟩ : ByteArray), (⟨#[101, 118, 105, 99, 116, 101, 100]⟩ : ByteArray), (⟨#[102, 117, 108, 108]⟩ : ByteArray), (⟨#[98, 117, 115, 121]⟩ : ByteArray), (⟨#[99, 108, 111, 115, 101, 100]⟩ : ByteArray)] code.toNat))] hM ⟨rfl, trivial⟩ rfl

noncomputable def x_spec_TaskText (t : DTask) : Option ByteArray :=
  Option.bind (x_spec_ClName t.c.kind) fun r9 => xg (r9.size + (⟨#[32]⟩ : ByteArray).size ≤ 9223372036854775807) <| Option.bind (x_spec_PcName t.pc) fun r16 => xg ((r9 ++ (⟨#[32]⟩ : ByteArray)).size + r16.size ≤ 9223372036854775807) <| Option.bind (bif decide (t.pc = 3) then (some true) else (some (decide (t.pc = 4)))) fun c28 => bif c28 then (xg (((r9 ++ (⟨#[32]⟩ : ByteArray)) ++ r16).size + (⟨#[32]⟩ : ByteArray).size ≤ 9223372036854775807) <| Option.bind (x_spec_OtName t.a.code) fun r42 => xg ((((r9 ++ (⟨#[32]⟩ : ByteArray)) ++ r16) ++ (⟨#[32]⟩ : ByteArray)).size + r42.size ≤ 9223372036854775807) <| some ((((r9 ++ (⟨#[32]⟩ : ByteArray)) ++ r16) ++ (⟨#[32]⟩ : ByteArray)) ++ r42)) else (some ((r9 ++ (⟨#[32]⟩ : ByteArray)) ++ r16))
theorem ct_spec_TaskText (w : World) (X S : Bs) (t : DTask) (s_t_5 : Sv) (s_t_6 : Sv) (s_t_13 : Sv) (s_t_14 : Sv) (hS : SX X S w) (a_t_5 : (cSl 3 fDPart t.c.o).rd S w s_t_5.v) (a_t_6 : (cSl 1 fI t.c.text).rd S w s_t_6.v) (a_t_13 : (cSl 1 fI t.a.text).rd S w s_t_13.v) (a_t_14 : (cSl 3 fDEntry t.a.list).rd S w s_t_14.v) (oL : Sep [] X w) {r : ByteArray} (hx : x_spec_TaskText t = some r) :
 Ret Tryz.prog 22 [(.agg #[(iv t.c.kind), (.string t.c.doc), (iv t.c.client), (iv t.c.seq), (iv t.c.n), s_t_5.v, s_t_6.v, (iv t.pc), (iv t.inv), (iv t.lin), (iv t.res), (iv t.a.code), (iv t.a.rev), s_t_13.v, s_t_14.v])] w (KV X S w (.string r)) := by
 unfold x_spec_TaskText at hx
 refine enter Tryz.func22 rfl Tryz.ntmps22 (by kernel_rfl) rfl ?_
 have hM := ((((St.enter oL hS).addV a_t_5).addV a_t_6).addV a_t_13).addV a_t_14
 refine wc_sr ?_
 refine w_ex rfl (x_box rfl hM ?_); intro b51 w50 hR52 hM
 refine was rfl rfl <| wl_sq <| wc_seq <| wc_draw [(0, 0), (1, 0), (2, 0), (3, 0), (4, 0), (5, 0), (6, 0), (7, 0), (8, 0), (9, 0)] Tryz_mixed (by kernel_rfl) rfl (by kernel_rfl) rfl <| ov rfl (fun w' h' => r_fld u64 rfl rfl sz59 rfl) <| ov rfl (fun w' h' => r_fld u59 rfl rfl sz3 rfl) <| ov rfl (fun w' h' => r_ldB u3 rfl rfl (hM.call h') m0 rfl) <| bs hx fun r58 h59 hx => oc rfl rfl (fun w' h' => (hM.call h').callV fun X S oL hS hR hO => ct_spec_ClName _ X S t.c.kind hS  oL h59) <| xgs hx fun hg62 hx => ov rfl (fun w' h' => r_adds rfl rfl hg62) <| ov rfl (fun w' h' => r_fld u64 rfl rfl sz3 rfl) <| ov rfl (fun w' h' => r_ldB u3 rfl rfl (hM.call h') m0 rfl) <| bs hx fun r65 h66 hx => ?_
 refine oc rfl rfl (fun w' h' => (hM.call h').callV fun X S oL hS hR hO => ct_spec_PcName _ X S t.pc hS  oL h66) <| xgs hx fun hg69 hx => ov rfl (fun w' h' => r_adds rfl rfl hg69) <| ov rfl (fun w' h' => r_assign rfl) <| o_nilM hM fun _ hM => sq_n <| wc_seq <| wc_sr <| wv rfl (r_fld u64 rfl rfl sz3 rfl) <| wv rfl (r_ldB u3 rfl rfl hM m0 rfl) <| wv rfl (r_eql rfl rfl) <| wmv rfl rfl <| bs hx fun c77 hx hx82 => ?_
 refine wl_midH 4 [(20, (bv c77)), (1, (pt b51 0)), (3, (.string ((r58 ++ (⟨#[32]⟩ : ByteArray)) ++ r65)))] hM ?_ fun w83 hM => ?_
 refine cs2 hx (fun hg78 hx => ?_) (fun hg78 hx => ?_)
 refine gn hg78 rfl rfl <| gn hg78 rfl rfl <| gn hg78 rfl rfl <| wv rfl (p_t rfl hg78 rfl) ?_
 obtain rfl := oi hx
 exact mid_h ⟨rfl, rfl, rfl, trivial⟩ hM
 refine gv rfl hg78 rfl (r_fld u64 rfl rfl sz3 rfl) <| gv rfl hg78 rfl (r_ldB u3 rfl rfl hM m0 rfl) <| gv rfl hg78 rfl (r_eql rfl rfl) <| wv rfl (p_f rfl hg78 rfl) ?_
 cases hx
 exact mid_h ⟨rfl, rfl, rfl, trivial⟩ hM
 replace hx := hx82
 refine wl_sq ?_
 refine wcx hx rfl (fun hx => ?_) (fun hx => ?_)
 refine wc_sr <| wmv rfl rfl <| xgs hx fun hg90 hx => wv rfl (r_adds rfl rfl hg90) <| wv rfl (r_fld u64 rfl rfl sz62 rfl) <| wv rfl (r_fld u62 rfl rfl sz3 rfl) <| wv rfl (r_ldB u3 rfl rfl hM m0 rfl) <| bs hx fun r94 h95 hx => w_cv hM rfl rfl (fun X S oL hS hR hO => ct_spec_OtName _ X S t.a.code hS  oL h95) fun _ hM => xgs hx fun hg98 hx => wv rfl (r_adds rfl rfl hg98) <| was rfl rfl <| wl_sq <| wc_ret ?_
 refine sq_ret ?_
 obtain rfl := oi hx
 exact fin_u [(.string ((((r58 ++ (⟨#[32]⟩ : ByteArray)) ++ r65) ++ (⟨#[32]⟩ : ByteArray)) ++ r94))] hM ⟨rfl, trivial⟩ rfl
 refine wc_skip <| sq_n <| wc_sr <| wmv rfl rfl <| was rfl rfl <| wl_sq <| wc_ret ?_
 obtain rfl := oi hx
 exact fin_u [(.string ((r58 ++ (⟨#[32]⟩ : ByteArray)) ++ r65))] hM ⟨rfl, trivial⟩ rfl

end Go.Proofs.YtjbonmmmcnpjiaaGreatDoor
