/- Walks of functions of this program (printed by a program of ours, by the rules of the layer). No condition. -/
import Derived.Test.YtjbonmmmcnpjiaaGreatDoorT2
import Derived.Test.YtjbonmmmcnpjiaaGreatDoorNw
import Derived.Test.YtjbonmmmcnpjiaaGreatDoorNx
import Derived.Test.YtjbonmmmcnpjiaaGreatDoorNy
import Derived.Test.YtjbonmmmcnpjiaaGreatDoorNt
namespace Go.Proofs.YtjbonmmmcnpjiaaGreatDoor
open Go.RowKit

noncomputable def x_impl_opWord (o : List DPart) : Option ByteArray :=
  Option.bind (x_impl_OpText o) fun r3 => Option.bind (x_ReplaceAll r3 (⟨#[32]⟩ : ByteArray) (⟨#[44]⟩ : ByteArray)) fun r6 => some r6
theorem ct_impl_opWord (w : World) (X S : Bs) (o : List DPart) (s_o : Sv) (hS : SX X S w) (hT : rTab.ok S w) (hU : rMax.ok S w) (a_o_0 : (cSl 3 fDPart o).rd S w s_o.v) (oL : Sep [] X w) {r : ByteArray} (hx : x_impl_opWord o = some r) :
 Ret Tryz.prog 86 [s_o.v] w (KV X S w (.string r)) := by
 unfold x_impl_opWord at hx
 refine enter Tryz.func86 rfl Tryz.ntmps86 (by kernel_rfl) rfl ?_
 have hM := St.enter oL hS
 have hM := hM.addE (r := rTab) hT
 have hM := hM.addE (r := rMax) hU
 have hM := hM.addV a_o_0
 refine wc_sr <| was rfl rfl <| wl_sq <| wc_sr <| wmv rfl rfl <| bs hx fun r12 h13 hx => w_cv hM rfl rfl (fun X S oL hS hR hO => ct_impl_OpText _ X S o s_o hS (hR _ m2) (hR _ m0) oL h13) fun _ hM => bs hx fun r15 h16 hx => w_cv hM rfl rfl (fun X S oL hS hR hO => ct_ReplaceAll _ X S r12 (⟨#[32]⟩ : ByteArray) (⟨#[44]⟩ : ByteArray) hS (hR _ m1) oL h16) fun _ hM => was rfl rfl <| wl_sq <| wc_ret ?_
 obtain rfl := oi hx
 exact fin_u [(.string r15)] hM ⟨rfl, trivial⟩ rfl

noncomputable def x_impl_CallText (c : DCall) : Option ByteArray :=
  Option.bind (x_impl_CallOk c) fun r7 => Option.bind (bif !r7 then (some true) else (Option.bind (x_impl_OpOk c.o) fun r22 => some (!r22))) fun c12 => Option.bind (bif c12 then (some true) else (Option.bind (x_impl_OnDoc c.kind) fun r51 => Option.bind (bif r51 then (Option.bind (x_impl_NameOk c.doc) fun r65 => some (!r65)) else (some false)) fun c55 => some c55)) fun c27 => Option.bind (bif c27 then (some true) else (Option.bind (x_impl_within c.client 0 1000000000) fun r80 => some (!r80))) fun c70 => Option.bind (bif c70 then (some true) else (Option.bind (x_impl_within c.seq 0 1000000000) fun r95 => some (!r95))) fun c85 => Option.bind (bif c85 then (some true) else (Option.bind (x_impl_within c.n 0 1000000000) fun r110 => some (!r110))) fun c100 => bif c100 then (some (⟨#[]⟩ : ByteArray)) else (Option.bind (x_impl_ClName c.kind) fun r117 => Option.bind (x_impl_OnDoc c.kind) fun r123 => bif r123 then (xg ((⟨#[32]⟩ : ByteArray).size + c.doc.size ≤ 9223372036854775807) <| xg (r117.size + ((⟨#[32]⟩ : ByteArray) ++ c.doc).size ≤ 9223372036854775807) <| bif decide (c.kind = 1) then (Option.bind (x_impl_SignText c.text) fun r141 => xg ((⟨#[32]⟩ : ByteArray).size + r141.size ≤ 9223372036854775807) <| xg ((r117 ++ ((⟨#[32]⟩ : ByteArray) ++ c.doc)).size + ((⟨#[32]⟩ : ByteArray) ++ r141).size ≤ 9223372036854775807) <| some ((r117 ++ ((⟨#[32]⟩ : ByteArray) ++ c.doc)) ++ ((⟨#[32]⟩ : ByteArray) ++ r141))) else (bif decide (c.kind = 2) then (Option.bind (x_impl_NumText c.client) fun r156 => xg ((⟨#[32]⟩ : ByteArray).size + r156.size ≤ 9223372036854775807) <| xg (((⟨#[32]⟩ : ByteArray) ++ r156).size + (⟨#[32]⟩ : ByteArray).size ≤ 9223372036854775807) <| Option.bind (x_impl_NumText c.seq) fun r165 => xg ((((⟨#[32]⟩ : ByteArray) ++ r156) ++ (⟨#[32]⟩ : ByteArray)).size + r165.size ≤ 9223372036854775807) <| xg (((((⟨#[32]⟩ : ByteArray) ++ r156) ++ (⟨#[32]⟩ : ByteArray)) ++ r165).size + (⟨#[32]⟩ : ByteArray).size ≤ 9223372036854775807) <| Option.bind (x_impl_NumText c.n) fun r174 => xg ((((((⟨#[32]⟩ : ByteArray) ++ r156) ++ (⟨#[32]⟩ : ByteArray)) ++ r165) ++ (⟨#[32]⟩ : ByteArray)).size + r174.size ≤ 9223372036854775807) <| xg (((((((⟨#[32]⟩ : ByteArray) ++ r156) ++ (⟨#[32]⟩ : ByteArray)) ++ r165) ++ (⟨#[32]⟩ : ByteArray)) ++ r174).size + (⟨#[32]⟩ : ByteArray).size ≤ 9223372036854775807) <| Option.bind (x_impl_opWord c.o) fun r183 => xg ((((((((⟨#[32]⟩ : ByteArray) ++ r156) ++ (⟨#[32]⟩ : ByteArray)) ++ r165) ++ (⟨#[32]⟩ : ByteArray)) ++ r174) ++ (⟨#[32]⟩ : ByteArray)).size + r183.size ≤ 9223372036854775807) <| xg ((r117 ++ ((⟨#[32]⟩ : ByteArray) ++ c.doc)).size + ((((((((⟨#[32]⟩ : ByteArray) ++ r156) ++ (⟨#[32]⟩ : ByteArray)) ++ r165) ++ (⟨#[32]⟩ : ByteArray)) ++ r174) ++ (⟨#[32]⟩ : ByteArray)) ++ r183).size ≤ 9223372036854775807) <| some ((r117 ++ ((⟨#[32]⟩ : ByteArray) ++ c.doc)) ++ ((((((((⟨#[32]⟩ : ByteArray) ++ r156) ++ (⟨#[32]⟩ : ByteArray)) ++ r165) ++ (⟨#[32]⟩ : ByteArray)) ++ r174) ++ (⟨#[32]⟩ : ByteArray)) ++ r183))) else (bif decide (c.kind = 3) then (bif decide (c.kind = 3) then (Option.bind (x_impl_NumText c.n) fun r200 => xg ((⟨#[32]⟩ : ByteArray).size + r200.size ≤ 9223372036854775807) <| xg ((r117 ++ ((⟨#[32]⟩ : ByteArray) ++ c.doc)).size + ((⟨#[32]⟩ : ByteArray) ++ r200).size ≤ 9223372036854775807) <| some ((r117 ++ ((⟨#[32]⟩ : ByteArray) ++ c.doc)) ++ ((⟨#[32]⟩ : ByteArray) ++ r200))) else (bif decide (c.kind = 6) then (Option.bind (x_impl_NumText c.client) fun r215 => xg ((⟨#[32]⟩ : ByteArray).size + r215.size ≤ 9223372036854775807) <| xg (((⟨#[32]⟩ : ByteArray) ++ r215).size + (⟨#[32]⟩ : ByteArray).size ≤ 9223372036854775807) <| Option.bind (x_impl_NumText c.n) fun r224 => xg ((((⟨#[32]⟩ : ByteArray) ++ r215) ++ (⟨#[32]⟩ : ByteArray)).size + r224.size ≤ 9223372036854775807) <| xg ((r117 ++ ((⟨#[32]⟩ : ByteArray) ++ c.doc)).size + ((((⟨#[32]⟩ : ByteArray) ++ r215) ++ (⟨#[32]⟩ : ByteArray)) ++ r224).size ≤ 9223372036854775807) <| some ((r117 ++ ((⟨#[32]⟩ : ByteArray) ++ c.doc)) ++ ((((⟨#[32]⟩ : ByteArray) ++ r215) ++ (⟨#[32]⟩ : ByteArray)) ++ r224))) else (bif decide (c.kind = 7) then (Option.bind (x_impl_NumText c.client) fun r241 => xg ((⟨#[32]⟩ : ByteArray).size + r241.size ≤ 9223372036854775807) <| xg ((r117 ++ ((⟨#[32]⟩ : ByteArray) ++ c.doc)).size + ((⟨#[32]⟩ : ByteArray) ++ r241).size ≤ 9223372036854775807) <| some ((r117 ++ ((⟨#[32]⟩ : ByteArray) ++ c.doc)) ++ ((⟨#[32]⟩ : ByteArray) ++ r241))) else (some (r117 ++ ((⟨#[32]⟩ : ByteArray) ++ c.doc)))))) else (bif decide (c.kind = 5) then (Option.bind (x_impl_NumText c.n) fun r258 => xg ((⟨#[32]⟩ : ByteArray).size + r258.size ≤ 9223372036854775807) <| xg ((r117 ++ ((⟨#[32]⟩ : ByteArray) ++ c.doc)).size + ((⟨#[32]⟩ : ByteArray) ++ r258).size ≤ 9223372036854775807) <| some ((r117 ++ ((⟨#[32]⟩ : ByteArray) ++ c.doc)) ++ ((⟨#[32]⟩ : ByteArray) ++ r258))) else (bif decide (c.kind = 6) then (Option.bind (x_impl_NumText c.client) fun r273 => xg ((⟨#[32]⟩ : ByteArray).size + r273.size ≤ 9223372036854775807) <| xg (((⟨#[32]⟩ : ByteArray) ++ r273).size + (⟨#[32]⟩ : ByteArray).size ≤ 9223372036854775807) <| Option.bind (x_impl_NumText c.n) fun r282 => xg ((((⟨#[32]⟩ : ByteArray) ++ r273) ++ (⟨#[32]⟩ : ByteArray)).size + r282.size ≤ 9223372036854775807) <| xg ((r117 ++ ((⟨#[32]⟩ : ByteArray) ++ c.doc)).size + ((((⟨#[32]⟩ : ByteArray) ++ r273) ++ (⟨#[32]⟩ : ByteArray)) ++ r282).size ≤ 9223372036854775807) <| some ((r117 ++ ((⟨#[32]⟩ : ByteArray) ++ c.doc)) ++ ((((⟨#[32]⟩ : ByteArray) ++ r273) ++ (⟨#[32]⟩ : ByteArray)) ++ r282))) else (bif decide (c.kind = 7) then (Option.bind (x_impl_NumText c.client) fun r299 => xg ((⟨#[32]⟩ : ByteArray).size + r299.size ≤ 9223372036854775807) <| xg ((r117 ++ ((⟨#[32]⟩ : ByteArray) ++ c.doc)).size + ((⟨#[32]⟩ : ByteArray) ++ r299).size ≤ 9223372036854775807) <| some ((r117 ++ ((⟨#[32]⟩ : ByteArray) ++ c.doc)) ++ ((⟨#[32]⟩ : ByteArray) ++ r299))) else (some (r117 ++ ((⟨#[32]⟩ : ByteArray) ++ c.doc))))))))) else (bif decide (c.kind = 1) then (Option.bind (x_impl_SignText c.text) fun r318 => xg ((⟨#[32]⟩ : ByteArray).size + r318.size ≤ 9223372036854775807) <| xg (r117.size + ((⟨#[32]⟩ : ByteArray) ++ r318).size ≤ 9223372036854775807) <| some (r117 ++ ((⟨#[32]⟩ : ByteArray) ++ r318))) else (bif decide (c.kind = 2) then (Option.bind (x_impl_NumText c.client) fun r333 => xg ((⟨#[32]⟩ : ByteArray).size + r333.size ≤ 9223372036854775807) <| xg (((⟨#[32]⟩ : ByteArray) ++ r333).size + (⟨#[32]⟩ : ByteArray).size ≤ 9223372036854775807) <| Option.bind (x_impl_NumText c.seq) fun r342 => xg ((((⟨#[32]⟩ : ByteArray) ++ r333) ++ (⟨#[32]⟩ : ByteArray)).size + r342.size ≤ 9223372036854775807) <| xg (((((⟨#[32]⟩ : ByteArray) ++ r333) ++ (⟨#[32]⟩ : ByteArray)) ++ r342).size + (⟨#[32]⟩ : ByteArray).size ≤ 9223372036854775807) <| Option.bind (x_impl_NumText c.n) fun r351 => xg ((((((⟨#[32]⟩ : ByteArray) ++ r333) ++ (⟨#[32]⟩ : ByteArray)) ++ r342) ++ (⟨#[32]⟩ : ByteArray)).size + r351.size ≤ 9223372036854775807) <| xg (((((((⟨#[32]⟩ : ByteArray) ++ r333) ++ (⟨#[32]⟩ : ByteArray)) ++ r342) ++ (⟨#[32]⟩ : ByteArray)) ++ r351).size + (⟨#[32]⟩ : ByteArray).size ≤ 9223372036854775807) <| Option.bind (x_impl_opWord c.o) fun r360 => xg ((((((((⟨#[32]⟩ : ByteArray) ++ r333) ++ (⟨#[32]⟩ : ByteArray)) ++ r342) ++ (⟨#[32]⟩ : ByteArray)) ++ r351) ++ (⟨#[32]⟩ : ByteArray)).size + r360.size ≤ 9223372036854775807) <| xg (r117.size + ((((((((⟨#[32]⟩ : ByteArray) ++ r333) ++ (⟨#[32]⟩ : ByteArray)) ++ r342) ++ (⟨#[32]⟩ : ByteArray)) ++ r351) ++ (⟨#[32]⟩ : ByteArray)) ++ r360).size ≤ 9223372036854775807) <| some (r117 ++ ((((((((⟨#[32]⟩ : ByteArray) ++ r333) ++ (⟨#[32]⟩ : ByteArray)) ++ r342) ++ (⟨#[32]⟩ : ByteArray)) ++ r351) ++ (⟨#[32]⟩ : ByteArray)) ++ r360))) else (bif decide (c.kind = 3) then (bif decide (c.kind = 3) then (Option.bind (x_impl_NumText c.n) fun r377 => xg ((⟨#[32]⟩ : ByteArray).size + r377.size ≤ 9223372036854775807) <| xg (r117.size + ((⟨#[32]⟩ : ByteArray) ++ r377).size ≤ 9223372036854775807) <| some (r117 ++ ((⟨#[32]⟩ : ByteArray) ++ r377))) else (bif decide (c.kind = 6) then (Option.bind (x_impl_NumText c.client) fun r392 => xg ((⟨#[32]⟩ : ByteArray).size + r392.size ≤ 9223372036854775807) <| xg (((⟨#[32]⟩ : ByteArray) ++ r392).size + (⟨#[32]⟩ : ByteArray).size ≤ 9223372036854775807) <| Option.bind (x_impl_NumText c.n) fun r401 => xg ((((⟨#[32]⟩ : ByteArray) ++ r392) ++ (⟨#[32]⟩ : ByteArray)).size + r401.size ≤ 9223372036854775807) <| xg (r117.size + ((((⟨#[32]⟩ : ByteArray) ++ r392) ++ (⟨#[32]⟩ : ByteArray)) ++ r401).size ≤ 9223372036854775807) <| some (r117 ++ ((((⟨#[32]⟩ : ByteArray) ++ r392) ++ (⟨#[32]⟩ : ByteArray)) ++ r401))) else (bif decide (c.kind = 7) then (Option.bind (x_impl_NumText c.client) fun r418 => xg ((⟨#[32]⟩ : ByteArray).size + r418.size ≤ 9223372036854775807) <| xg (r117.size + ((⟨#[32]⟩ : ByteArray) ++ r418).size ≤ 9223372036854775807) <| some (r117 ++ ((⟨#[32]⟩ : ByteArray) ++ r418))) else (some r117)))) else (bif decide (c.kind = 5) then (Option.bind (x_impl_NumText c.n) fun r435 => xg ((⟨#[32]⟩ : ByteArray).size + r435.size ≤ 9223372036854775807) <| xg (r117.size + ((⟨#[32]⟩ : ByteArray) ++ r435).size ≤ 9223372036854775807) <| some (r117 ++ ((⟨#[32]⟩ : ByteArray) ++ r435))) else (bif decide (c.kind = 6) then (Option.bind (x_impl_NumText c.client) fun r450 => xg ((⟨#[32]⟩ : ByteArray).size + r450.size ≤ 9223372036854775807) <| xg (((⟨#[32]⟩ : ByteArray) ++ r450).size + (⟨#[32]⟩ : ByteArray).size ≤ 9223372036854775807) <| Option.bind (x_impl_NumText c.n) fun r459 => xg ((((⟨#[32]⟩ : ByteArray) ++ r450) ++ (⟨#[32]⟩ : ByteArray)).size + r459.size ≤ 9223372036854775807) <| xg (r117.size + ((((⟨#[32]⟩ : ByteArray) ++ r450) ++ (⟨#[32]⟩ : ByteArray)) ++ r459).size ≤ 9223372036854775807) <| some (r117 ++ ((((⟨#[32]⟩ : ByteArray) ++ r450) ++ (⟨#[32]⟩ : ByteArray)) ++ r459))) else (bif decide (c.kind = 7) then (Option.bind (x_impl_NumText c.client) fun r476 => xg ((⟨#[32]⟩ : ByteArray).size + r476.size ≤ 9223372036854775807) <| xg (r117.size + ((⟨#[32]⟩ : ByteArray) ++ r476).size ≤ 9223372036854775807) <| some (r117 ++ ((⟨#[32]⟩ : ByteArray) ++ r476))) else (some r117))))))))
theorem ct_impl_CallText (w : World) (X S : Bs) (c : DCall) (s_c_5 : Sv) (s_c_6 : Sv) (hS : SX X S w) (hT : rTab.ok S w) (hU : rMax.ok S w) (a_c_5 : (cSl 3 fDPart c.o).rd S w s_c_5.v) (a_c_6 : (cSl 1 fI c.text).rd S w s_c_6.v) (oL : Sep [] X w) {r : ByteArray} (hx : x_impl_CallText c = some r) :
 Ret Tryz.prog 35 [(.agg #[(iv c.kind), (.string c.doc), (iv c.client), (iv c.seq), (iv c.n), s_c_5.v, s_c_6.v])] w (KV X S w (.string r)) := by
 unfold x_impl_CallText at hx
 refine enter Tryz.func35 rfl Tryz.ntmps35 (by kernel_rfl) rfl ?_
 have hM := St.enter oL hS
 have hM := hM.addE (r := rTab) hT
 have hM := hM.addE (r := rMax) hU
 have hM := hM.addV a_c_5
 have hM := hM.addV a_c_6
 refine wc_sr ?_
 refine w_ex rfl (x_box rfl hM ?_); intro b489 w488 hR490 hM
 refine was rfl rfl <| wl_sq <| wc_seq <| wc_sr <| wv rfl (r_ldBS u59 sz59 rfl (us := [(iv c.kind), (.string c.doc), (iv c.client), (iv c.seq), (iv c.n), s_c_5.v, s_c_6.v]) rfl hM m0 rfl) <| bs hx fun _ h495 hx => w_cv hM rfl rfl (fun X S oL hS hR hO => ct_impl_CallOk _ X S c s_c_5 s_c_6 hS (hR _ m1) (hR _ m0) oL h495) fun _ hM => wv rfl (r_not rfl) <| wmv rfl rfl <| bs hx fun c499 hx hx507 => ?_
 refine wl_midH 5 [(12, (bv c499)), (1, (pt b489 0))] hM ?_ fun w508 hM => ?_
 refine cs2 hx (fun hg500 hx => ?_) (fun hg500 hx => ?_)
 refine gn hg500 rfl rfl <| gn hg500 rfl rfl <| gn hg500 rfl rfl <| gn hg500 rfl rfl <| wv rfl (p_t rfl hg500 rfl) ?_
 obtain rfl := oi hx
 exact mid_h ⟨rfl, rfl, trivial⟩ hM
 refine gv rfl hg500 rfl (r_fld u59 rfl rfl sz57 rfl) <| gv rfl hg500 rfl (r_ldB u57 rfl rfl hM m0 rfl) <| bs hx fun _ h512 hx => g_cv hM hg500 rfl rfl rfl (fun X S oL hS hR hO => ct_impl_OpOk _ X S c.o s_c_5 hS (hR _ m1) oL h512) fun _ hM => gv rfl hg500 rfl (r_not rfl) <| wv rfl (p_f rfl hg500 rfl) ?_
 cases hx
 exact mid_h ⟨rfl, rfl, trivial⟩ hM
 replace hx := hx507
 refine wmv rfl rfl <| bs hx fun c516 hx hx538 => ?_
 refine wl_midH 10 [(23, (bv c516)), (1, (pt b489 0))] hM ?_ fun w539 hM => ?_
 refine cs2 hx (fun hg517 hx => ?_) (fun hg517 hx => ?_)
 refine gn hg517 rfl rfl <| gn hg517 rfl rfl <| gn hg517 rfl rfl <| gn hg517 rfl rfl <| gs rfl rfl rfl <| gs rfl rfl rfl <| gs rfl rfl rfl <| gs rfl rfl rfl <| gn hg517 rfl rfl <| wv rfl (p_t rfl hg517 rfl) ?_
 obtain rfl := oi hx
 exact mid_h ⟨rfl, rfl, trivial⟩ hM
 refine gv rfl hg517 rfl (r_fld u59 rfl rfl sz3 rfl) <| gv rfl hg517 rfl (r_ldB u3 rfl rfl hM m0 rfl) <| bs hx fun _ h543 hx => g_cv hM hg517 rfl rfl rfl (fun X S oL hS hR hO => ct_impl_OnDoc _ X S c.kind hS  oL h543) fun _ hM => gv rfl hg517 rfl (r_move rfl) <| bs hx fun c546 hx hx554 => ?_
 refine wl_midH 5 [(22, (bv c546)), (1, (pt b489 0)), (13, (bv c499))] hM ?_ fun w555 hM => ?_
 refine cs2 hx (fun hg547 hx => ?_) (fun hg547 hx => ?_)
 refine gv rfl hg547 rfl (r_fld u59 rfl rfl sz9 rfl) <| gv rfl hg547 rfl (r_ldB u9 rfl rfl hM m0 rfl) <| bs hx fun _ h559 hx => g_cv hM hg547 rfl rfl rfl (fun X S oL hS hR hO => ct_impl_NameOk _ X S c.doc hS  oL h559) fun _ hM => gv rfl hg547 rfl (r_not rfl) <| gv rfl hg517 rfl (p_t rfl hg547 rfl) ?_
 cases hx
 exact mid_h ⟨rfl, rfl, rfl, trivial⟩ hM
 refine gn hg547 rfl rfl <| gn hg547 rfl rfl <| gn hg547 rfl rfl <| gn hg547 rfl rfl <| gv rfl hg517 rfl (p_f rfl hg547 rfl) ?_
 obtain rfl := oi hx
 exact mid_h ⟨rfl, rfl, rfl, trivial⟩ hM
 replace hx := hx554
 refine wv rfl (p_f rfl hg517 rfl) ?_
 obtain rfl := oi hx
 exact mid_h ⟨rfl, rfl, trivial⟩ hM
 replace hx := hx538
 refine wmv rfl rfl <| bs hx fun c563 hx hx571 => ?_
 refine wl_midH 5 [(29, (bv c563)), (1, (pt b489 0))] hM ?_ fun w572 hM => ?_
 refine cs2 hx (fun hg564 hx => ?_) (fun hg564 hx => ?_)
 refine gn hg564 rfl rfl <| gn hg564 rfl rfl <| gn hg564 rfl rfl <| gn hg564 rfl rfl <| wv rfl (p_t rfl hg564 rfl) ?_
 obtain rfl := oi hx
 exact mid_h ⟨rfl, rfl, trivial⟩ hM
 refine gv rfl hg564 rfl (r_fld u59 rfl rfl sz3 rfl) <| gv rfl hg564 rfl (r_ldB u3 rfl rfl hM m0 rfl) <| bs hx fun _ h576 hx => g_cv hM hg564 rfl rfl rfl (fun X S oL hS hR hO => ct_impl_within _ X S c.client (0 : Int) (1000000000 : Int) hS  oL h576) fun _ hM => gv rfl hg564 rfl (r_not rfl) <| wv rfl (p_f rfl hg564 rfl) ?_
 cases hx
 exact mid_h ⟨rfl, rfl, trivial⟩ hM
 replace hx := hx571
 refine wmv rfl rfl <| bs hx fun c580 hx hx588 => ?_
 refine wl_midH 5 [(35, (bv c580)), (1, (pt b489 0))] hM ?_ fun w589 hM => ?_
 refine cs2 hx (fun hg581 hx => ?_) (fun hg581 hx => ?_)
 refine gn hg581 rfl rfl <| gn hg581 rfl rfl <| gn hg581 rfl rfl <| gn hg581 rfl rfl <| wv rfl (p_t rfl hg581 rfl) ?_
 obtain rfl := oi hx
 exact mid_h ⟨rfl, rfl, trivial⟩ hM
 refine gv rfl hg581 rfl (r_fld u59 rfl rfl sz3 rfl) <| gv rfl hg581 rfl (r_ldB u3 rfl rfl hM m0 rfl) <| bs hx fun _ h593 hx => g_cv hM hg581 rfl rfl rfl (fun X S oL hS hR hO => ct_impl_within _ X S c.seq (0 : Int) (1000000000 : Int) hS  oL h593) fun _ hM => gv rfl hg581 rfl (r_not rfl) <| wv rfl (p_f rfl hg581 rfl) ?_
 cases hx
 exact mid_h ⟨rfl, rfl, trivial⟩ hM
 replace hx := hx588
 refine wmv rfl rfl <| bs hx fun c597 hx hx605 => ?_
 refine wl_midH 5 [(41, (bv c597)), (1, (pt b489 0))] hM ?_ fun w606 hM => ?_
 refine cs2 hx (fun hg598 hx => ?_) (fun hg598 hx => ?_)
 refine gn hg598 rfl rfl <| gn hg598 rfl rfl <| gn hg598 rfl rfl <| gn hg598 rfl rfl <| wv rfl (p_t rfl hg598 rfl) ?_
 obtain rfl := oi hx
 exact mid_h ⟨rfl, rfl, trivial⟩ hM
 refine gv rfl hg598 rfl (r_fld u59 rfl rfl sz3 rfl) <| gv rfl hg598 rfl (r_ldB u3 rfl rfl hM m0 rfl) <| bs hx fun _ h610 hx => g_cv hM hg598 rfl rfl rfl (fun X S oL hS hR hO => ct_impl_within _ X S c.n (0 : Int) (1000000000 : Int) hS  oL h610) fun _ hM => gv rfl hg598 rfl (r_not rfl) <| wv rfl (p_f rfl hg598 rfl) ?_
 cases hx
 exact mid_h ⟨rfl, rfl, trivial⟩ hM
 replace hx := hx605
 refine wl_sq ?_
 refine wcx hx rfl (fun hx => ?_) (fun hx => ?_)
 refine wc_sr <| was rfl rfl <| wl_sq <| wc_ret <| sq_ret ?_
 obtain rfl := oi hx
 exact fin_u [(.string (⟨#[]⟩ : ByteArray))] hM ⟨rfl, trivial⟩ rfl
 refine wc_skip <| sq_n <| wc_sr <| wv rfl (r_fld u59 rfl rfl sz3 rfl) <| wv rfl (r_ldB u3 rfl rfl hM m0 rfl) <| bs hx fun r617 h618 hx => w_cv hM rfl rfl (fun X S oL hS hR hO => ct_impl_ClName _ X S c.kind hS  oL h618) fun _ hM => was rfl rfl <| wl_sq <| wc_seq <| wc_sr <| wv rfl (r_fld u59 rfl rfl sz3 rfl) <| wv rfl (r_ldB u3 rfl rfl hM m0 rfl) <| bs hx fun _ h624 hx => ?_
 refine w_cv hM rfl rfl (fun X S oL hS hR hO => ct_impl_OnDoc _ X S c.kind hS  oL h624) fun _ hM => wl_sq ?_
 refine wcx hx rfl (fun hx => ?_) (fun hx => ?_)
 refine wc_region <| wmv rfl rfl <| wv rfl (r_fld u59 rfl rfl sz9 rfl) <| wv rfl (r_ldB u9 rfl rfl hM m0 rfl) <| xgs hx fun hg631 hx => wv rfl (r_adds rfl rfl hg631) <| xgs hx fun hg633 hx => wv rfl (r_adds rfl rfl hg633) <| was rfl rfl <| wl_sq <| wc_seq <| wc_sr <| wv rfl (r_fld u59 rfl rfl sz3 rfl) <| wv rfl (r_ldB u3 rfl rfl hM m0 rfl) ?_
 refine wl_sq <| wc_block <| wc_sr <| wv rfl (r_eql rfl rfl) <| was rfl rfl <| wl_sq ?_
 refine wcx hx rfl (fun hx => ?_) (fun hx => ?_)
 refine wc_region <| wmv rfl rfl <| wv rfl (r_fld u59 rfl rfl sz26 rfl) <| wv rfl (r_ldB u26 rfl rfl hM m0 rfl) <| bs hx fun r643 h644 hx => w_cv hM rfl rfl (fun X S oL hS hR hO => ct_impl_SignText _ X S c.text s_c_6 hS (hR _ m3) (hR _ m0) oL h644) fun _ hM => xgs hx fun hg647 hx => wv rfl (r_adds rfl rfl hg647) <| xgs hx fun hg649 hx => wv rfl (r_adds rfl rfl hg649) <| was rfl rfl <| wl_nil <| bk_n <| sq_n ?_
 refine wc_sr <| wmv rfl rfl <| was rfl rfl <| wl_sq <| wc_ret ?_
 obtain rfl := oi hx
 exact fin_u [(.string ((r617 ++ ((⟨#[32]⟩ : ByteArray) ++ c.doc)) ++ ((⟨#[32]⟩ : ByteArray) ++ r643)))] hM ⟨rfl, trivial⟩ rfl
 refine wc_sr <| wv rfl (r_eql rfl rfl) <| was rfl rfl <| wl_sq ?_
 refine wcx hx rfl (fun hx => ?_) (fun hx => ?_)
 refine wc_draw [(0, 0), (1, 0), (2, 0), (3, 0), (4, 0), (5, 0), (6, 0), (7, 0), (8, 0), (9, 0), (10, 0), (11, 0), (12, 0), (13, 0), (14, 0), (15, 0), (16, 0), (17, 0), (18, 0), (19, 0), (20, 0), (21, 0)] Tryz_mixed (by kernel_rfl) rfl (by kernel_rfl) rfl <| omv rfl rfl <| ov rfl (fun w' h' => r_fld u59 rfl rfl sz3 rfl) <| ov rfl (fun w' h' => r_ldB u3 rfl rfl (hM.call h') m0 rfl) <| bs hx fun r659 h660 hx => oc rfl rfl (fun w' h' => (hM.call h').callV fun X S oL hS hR hO => ct_impl_NumText _ X S c.client hS (hR _ m3) oL h660) <| xgs hx fun hg663 hx => ov rfl (fun w' h' => r_adds rfl rfl hg663) <| xgs hx fun hg665 hx => ov rfl (fun w' h' => r_adds rfl rfl hg665) <| ov rfl (fun w' h' => r_fld u59 rfl rfl sz3 rfl) <| ov rfl (fun w' h' => r_ldB u3 rfl rfl (hM.call h') m0 rfl) <| bs hx fun r668 h669 hx => oc rfl rfl (fun w' h' => (hM.call h').callV fun X S oL hS hR hO => ct_impl_NumText _ X S c.seq hS (hR _ m3) oL h669) ?_
 refine xgs hx fun hg672 hx => ov rfl (fun w' h' => r_adds rfl rfl hg672) <| xgs hx fun hg674 hx => ov rfl (fun w' h' => r_adds rfl rfl hg674) <| ov rfl (fun w' h' => r_fld u59 rfl rfl sz3 rfl) <| ov rfl (fun w' h' => r_ldB u3 rfl rfl (hM.call h') m0 rfl) <| bs hx fun r677 h678 hx => oc rfl rfl (fun w' h' => (hM.call h').callV fun X S oL hS hR hO => ct_impl_NumText _ X S c.n hS (hR _ m3) oL h678) <| xgs hx fun hg681 hx => ov rfl (fun w' h' => r_adds rfl rfl hg681) <| xgs hx fun hg683 hx => ov rfl (fun w' h' => r_adds rfl rfl hg683) <| ov rfl (fun w' h' => r_fld u59 rfl rfl sz57 rfl) <| ov rfl (fun w' h' => r_ldB u57 rfl rfl (hM.call h') m0 rfl) ?_
 refine bs hx fun r686 h687 hx => oc rfl rfl (fun w' h' => (hM.call h').callV fun X S oL hS hR hO => ct_impl_opWord _ X S c.o s_c_5 hS (hR _ m3) (hR _ m2) (hR _ m1) oL h687) <| xgs hx fun hg690 hx => ov rfl (fun w' h' => r_adds rfl rfl hg690) <| xgs hx fun hg692 hx => ov rfl (fun w' h' => r_adds rfl rfl hg692) <| ov rfl (fun w' h' => r_assign rfl) <| o_nilM hM fun _ hM => bk_n <| sq_n <| wc_sr <| wmv rfl rfl <| was rfl rfl <| wl_sq ?_
 refine wc_ret ?_
 obtain rfl := oi hx
 exact fin_u [(.string ((r617 ++ ((⟨#[32]⟩ : ByteArray) ++ c.doc)) ++ ((((((((⟨#[32]⟩ : ByteArray) ++ r659) ++ (⟨#[32]⟩ : ByteArray)) ++ r668) ++ (⟨#[32]⟩ : ByteArray)) ++ r677) ++ (⟨#[32]⟩ : ByteArray)) ++ r686)))] hM ⟨rfl, trivial⟩ rfl
 refine wc_seq <| wc_sr <| wv rfl (r_eql rfl rfl) <| was rfl rfl <| wl_sq ?_
 refine wcx hx rfl (fun hx => ?_) (fun hx => ?_)
 refine wc_skip <| sq_n ?_
 refine wcx hx rfl (fun hx => ?_) (fun hx => ?_)
 refine wc_region <| wmv rfl rfl <| wv rfl (r_fld u59 rfl rfl sz3 rfl) <| wv rfl (r_ldB u3 rfl rfl hM m0 rfl) <| bs hx fun r705 h706 hx => w_cv hM rfl rfl (fun X S oL hS hR hO => ct_impl_NumText _ X S c.n hS (hR _ m3) oL h706) fun _ hM => xgs hx fun hg709 hx => wv rfl (r_adds rfl rfl hg709) <| xgs hx fun hg711 hx => wv rfl (r_adds rfl rfl hg711) <| was rfl rfl <| wl_nil <| bk_n <| sq_n ?_
 refine wc_sr <| wmv rfl rfl <| was rfl rfl <| wl_sq <| wc_ret ?_
 obtain rfl := oi hx
 exact fin_u [(.string ((r617 ++ ((⟨#[32]⟩ : ByteArray) ++ c.doc)) ++ ((⟨#[32]⟩ : ByteArray) ++ r705)))] hM ⟨rfl, trivial⟩ rfl
 refine wc_sr <| wv rfl (r_eql rfl rfl) <| was rfl rfl <| wl_sq ?_
 refine wcx hx rfl (fun hx => ?_) (fun hx => ?_)
 refine wc_draw [(0, 0), (1, 0), (2, 0), (3, 0), (4, 0), (5, 0), (6, 0), (7, 0), (8, 0), (9, 0), (10, 0), (11, 0)] Tryz_mixed (by kernel_rfl) rfl (by kernel_rfl) rfl <| omv rfl rfl <| ov rfl (fun w' h' => r_fld u59 rfl rfl sz3 rfl) <| ov rfl (fun w' h' => r_ldB u3 rfl rfl (hM.call h') m0 rfl) <| bs hx fun r721 h722 hx => oc rfl rfl (fun w' h' => (hM.call h').callV fun X S oL hS hR hO => ct_impl_NumText _ X S c.client hS (hR _ m3) oL h722) <| xgs hx fun hg725 hx => ov rfl (fun w' h' => r_adds rfl rfl hg725) <| xgs hx fun hg727 hx => ov rfl (fun w' h' => r_adds rfl rfl hg727) <| ov rfl (fun w' h' => r_fld u59 rfl rfl sz3 rfl) <| ov rfl (fun w' h' => r_ldB u3 rfl rfl (hM.call h') m0 rfl) <| bs hx fun r730 h731 hx => oc rfl rfl (fun w' h' => (hM.call h').callV fun X S oL hS hR hO => ct_impl_NumText _ X S c.n hS (hR _ m3) oL h731) ?_
 refine xgs hx fun hg734 hx => ov rfl (fun w' h' => r_adds rfl rfl hg734) <| xgs hx fun hg736 hx => ov rfl (fun w' h' => r_adds rfl rfl hg736) <| ov rfl (fun w' h' => r_assign rfl) <| o_nilM hM fun _ hM => bk_n <| sq_n <| wc_sr <| wmv rfl rfl <| was rfl rfl <| wl_sq <| wc_ret ?_
 obtain rfl := oi hx
 exact fin_u [(.string ((r617 ++ ((⟨#[32]⟩ : ByteArray) ++ c.doc)) ++ ((((⟨#[32]⟩ : ByteArray) ++ r721) ++ (⟨#[32]⟩ : ByteArray)) ++ r730)))] hM ⟨rfl, trivial⟩ rfl
 refine wc_sr <| wv rfl (r_eql rfl rfl) <| was rfl rfl <| wl_sq ?_
 refine wcx hx rfl (fun hx => ?_) (fun hx => ?_)
 refine wc_region <| wmv rfl rfl <| wv rfl (r_fld u59 rfl rfl sz3 rfl) <| wv rfl (r_ldB u3 rfl rfl hM m0 rfl) <| bs hx fun r748 h749 hx => w_cv hM rfl rfl (fun X S oL hS hR hO => ct_impl_NumText _ X S c.client hS (hR _ m3) oL h749) fun _ hM => xgs hx fun hg752 hx => wv rfl (r_adds rfl rfl hg752) <| xgs hx fun hg754 hx => wv rfl (r_adds rfl rfl hg754) <| was rfl rfl <| wl_nil <| bk_n <| sq_n ?_
 refine wc_sr <| wmv rfl rfl <| was rfl rfl <| wl_sq <| wc_ret ?_
 obtain rfl := oi hx
 exact fin_u [(.string ((r617 ++ ((⟨#[32]⟩ : ByteArray) ++ c.doc)) ++ ((⟨#[32]⟩ : ByteArray) ++ r748)))] hM ⟨rfl, trivial⟩ rfl
 refine wc_skip <| bk_n <| sq_n <| wc_sr <| wmv rfl rfl <| was rfl rfl <| wl_sq <| wc_ret ?_
 obtain rfl := oi hx
 exact fin_u [(.string (r617 ++ ((⟨#[32]⟩ : ByteArray) ++ c.doc)))] hM ⟨rfl, trivial⟩ rfl
 refine wc_region <| wv rfl (r_eql rfl rfl) <| was rfl rfl <| wl_sq ?_
 refine wcx hx rfl (fun hx => ?_) (fun hx => ?_)
 refine wc_region <| wmv rfl rfl <| wv rfl (r_fld u59 rfl rfl sz3 rfl) <| wv rfl (r_ldB u3 rfl rfl hM m0 rfl) <| bs hx fun r766 h767 hx => w_cv hM rfl rfl (fun X S oL hS hR hO => ct_impl_NumText _ X S c.n hS (hR _ m3) oL h767) fun _ hM => xgs hx fun hg770 hx => wv rfl (r_adds rfl rfl hg770) <| xgs hx fun hg772 hx => wv rfl (r_adds rfl rfl hg772) <| was rfl rfl <| wl_nil <| bk_n <| sq_n ?_
 refine wc_sr <| wmv rfl rfl <| was rfl rfl <| wl_sq <| wc_ret ?_
 obtain rfl := oi hx
 exact fin_u [(.string ((r617 ++ ((⟨#[32]⟩ : ByteArray) ++ c.doc)) ++ ((⟨#[32]⟩ : ByteArray) ++ r766)))] hM ⟨rfl, trivial⟩ rfl
 refine wc_sr <| wv rfl (r_eql rfl rfl) <| was rfl rfl <| wl_sq ?_
 refine wcx hx rfl (fun hx => ?_) (fun hx => ?_)
 refine wc_draw [(0, 0), (1, 0), (2, 0), (3, 0), (4, 0), (5, 0), (6, 0), (7, 0), (8, 0), (9, 0), (10, 0), (11, 0)] Tryz_mixed (by kernel_rfl) rfl (by kernel_rfl) rfl <| omv rfl rfl <| ov rfl (fun w' h' => r_fld u59 rfl rfl sz3 rfl) <| ov rfl (fun w' h' => r_ldB u3 rfl rfl (hM.call h') m0 rfl) <| bs hx fun r782 h783 hx => oc rfl rfl (fun w' h' => (hM.call h').callV fun X S oL hS hR hO => ct_impl_NumText _ X S c.client hS (hR _ m3) oL h783) <| xgs hx fun hg786 hx => ov rfl (fun w' h' => r_adds rfl rfl hg786) <| xgs hx fun hg788 hx => ov rfl (fun w' h' => r_adds rfl rfl hg788) <| ov rfl (fun w' h' => r_fld u59 rfl rfl sz3 rfl) <| ov rfl (fun w' h' => r_ldB u3 rfl rfl (hM.call h') m0 rfl) <| bs hx fun r791 h792 hx => oc rfl rfl (fun w' h' => (hM.call h').callV fun X S oL hS hR hO => ct_impl_NumText _ X S c.n hS (hR _ m3) oL h792) ?_
 refine xgs hx fun hg795 hx => ov rfl (fun w' h' => r_adds rfl rfl hg795) <| xgs hx fun hg797 hx => ov rfl (fun w' h' => r_adds rfl rfl hg797) <| ov rfl (fun w' h' => r_assign rfl) <| o_nilM hM fun _ hM => bk_n <| sq_n <| wc_sr <| wmv rfl rfl <| was rfl rfl <| wl_sq <| wc_ret ?_
 obtain rfl := oi hx
 exact fin_u [(.string ((r617 ++ ((⟨#[32]⟩ : ByteArray) ++ c.doc)) ++ ((((⟨#[32]⟩ : ByteArray) ++ r782) ++ (⟨#[32]⟩ : ByteArray)) ++ r791)))] hM ⟨rfl, trivial⟩ rfl
 refine wc_sr <| wv rfl (r_eql rfl rfl) <| was rfl rfl <| wl_sq ?_
 refine wcx hx rfl (fun hx => ?_) (fun hx => ?_)
 refine wc_region <| wmv rfl rfl <| wv rfl (r_fld u59 rfl rfl sz3 rfl) <| wv rfl (r_ldB u3 rfl rfl hM m0 rfl) <| bs hx fun r809 h810 hx => w_cv hM rfl rfl (fun X S oL hS hR hO => ct_impl_NumText _ X S c.client hS (hR _ m3) oL h810) fun _ hM => xgs hx fun hg813 hx => wv rfl (r_adds rfl rfl hg813) <| xgs hx fun hg815 hx => wv rfl (r_adds rfl rfl hg815) <| was rfl rfl <| wl_nil <| bk_n <| sq_n ?_
 refine wc_sr <| wmv rfl rfl <| was rfl rfl <| wl_sq <| wc_ret ?_
 obtain rfl := oi hx
 exact fin_u [(.string ((r617 ++ ((⟨#[32]⟩ : ByteArray) ++ c.doc)) ++ ((⟨#[32]⟩ : ByteArray) ++ r809)))] hM ⟨rfl, trivial⟩ rfl
 refine wc_skip <| bk_n <| sq_n <| wc_sr <| wmv rfl rfl <| was rfl rfl <| wl_sq <| wc_ret ?_
 obtain rfl := oi hx
 exact fin_u [(.string (r617 ++ ((⟨#[32]⟩ : ByteArray) ++ c.doc)))] hM ⟨rfl, trivial⟩ rfl
 refine wc_skip <| sq_n <| wc_seq <| wc_sr <| wv rfl (r_fld u59 rfl rfl sz3 rfl) <| wv rfl (r_ldB u3 rfl rfl hM m0 rfl) <| wl_sq <| wc_block <| wc_sr <| wv rfl (r_eql rfl rfl) <| was rfl rfl <| wl_sq ?_
 refine wcx hx rfl (fun hx => ?_) (fun hx => ?_)
 refine wc_region <| wmv rfl rfl <| wv rfl (r_fld u59 rfl rfl sz26 rfl) <| wv rfl (r_ldB u26 rfl rfl hM m0 rfl) <| bs hx fun r829 h830 hx => w_cv hM rfl rfl (fun X S oL hS hR hO => ct_impl_SignText _ X S c.text s_c_6 hS (hR _ m3) (hR _ m0) oL h830) fun _ hM => xgs hx fun hg833 hx => wv rfl (r_adds rfl rfl hg833) <| xgs hx fun hg835 hx => wv rfl (r_adds rfl rfl hg835) <| was rfl rfl <| wl_nil <| bk_n <| sq_n ?_
 refine wc_sr <| wmv rfl rfl <| was rfl rfl <| wl_sq <| wc_ret ?_
 obtain rfl := oi hx
 exact fin_u [(.string (r617 ++ ((⟨#[32]⟩ : ByteArray) ++ r829)))] hM ⟨rfl, trivial⟩ rfl
 refine wc_sr <| wv rfl (r_eql rfl rfl) <| was rfl rfl <| wl_sq ?_
 refine wcx hx rfl (fun hx => ?_) (fun hx => ?_)
 refine wc_draw [(0, 0), (1, 0), (2, 0), (3, 0), (4, 0), (5, 0), (6, 0), (7, 0), (8, 0), (9, 0), (10, 0), (11, 0), (12, 0), (13, 0), (14, 0), (15, 0), (16, 0), (17, 0), (18, 0), (19, 0), (20, 0), (21, 0)] Tryz_mixed (by kernel_rfl) rfl (by kernel_rfl) rfl <| omv rfl rfl <| ov rfl (fun w' h' => r_fld u59 rfl rfl sz3 rfl) <| ov rfl (fun w' h' => r_ldB u3 rfl rfl (hM.call h') m0 rfl) <| bs hx fun r845 h846 hx => oc rfl rfl (fun w' h' => (hM.call h').callV fun X S oL hS hR hO => ct_impl_NumText _ X S c.client hS (hR _ m3) oL h846) <| xgs hx fun hg849 hx => ov rfl (fun w' h' => r_adds rfl rfl hg849) <| xgs hx fun hg851 hx => ov rfl (fun w' h' => r_adds rfl rfl hg851) <| ov rfl (fun w' h' => r_fld u59 rfl rfl sz3 rfl) <| ov rfl (fun w' h' => r_ldB u3 rfl rfl (hM.call h') m0 rfl) <| bs hx fun r854 h855 hx => oc rfl rfl (fun w' h' => (hM.call h').callV fun X S oL hS hR hO => ct_impl_NumText _ X S c.seq hS (hR _ m3) oL h855) ?_
 refine xgs hx fun hg858 hx => ov rfl (fun w' h' => r_adds rfl rfl hg858) <| xgs hx fun hg860 hx => ov rfl (fun w' h' => r_adds rfl rfl hg860) <| ov rfl (fun w' h' => r_fld u59 rfl rfl sz3 rfl) <| ov rfl (fun w' h' => r_ldB u3 rfl rfl (hM.call h') m0 rfl) <| bs hx fun r863 h864 hx => oc rfl rfl (fun w' h' => (hM.call h').callV fun X S oL hS hR hO => ct_impl_NumText _ X S c.n hS (hR _ m3) oL h864) <| xgs hx fun hg867 hx => ov rfl (fun w' h' => r_adds rfl rfl hg867) <| xgs hx fun hg869 hx => ov rfl (fun w' h' => r_adds rfl rfl hg869) <| ov rfl (fun w' h' => r_fld u59 rfl rfl sz57 rfl) <| ov rfl (fun w' h' => r_ldB u57 rfl rfl (hM.call h') m0 rfl) ?_
 refine bs hx fun r872 h873 hx => oc rfl rfl (fun w' h' => (hM.call h').callV fun X S oL hS hR hO => ct_impl_opWord _ X S c.o s_c_5 hS (hR _ m3) (hR _ m2) (hR _ m1) oL h873) <| xgs hx fun hg876 hx => ov rfl (fun w' h' => r_adds rfl rfl hg876) <| xgs hx fun hg878 hx => ov rfl (fun w' h' => r_adds rfl rfl hg878) <| ov rfl (fun w' h' => r_assign rfl) <| o_nilM hM fun _ hM => bk_n <| sq_n <| wc_sr <| wmv rfl rfl <| was rfl rfl <| wl_sq ?_
 refine wc_ret ?_
 obtain rfl := oi hx
 exact fin_u [(.string (r617 ++ ((((((((⟨#[32]⟩ : ByteArray) ++ r845) ++ (⟨#[32]⟩ : ByteArray)) ++ r854) ++ (⟨#[32]⟩ : ByteArray)) ++ r863) ++ (⟨#[32]⟩ : ByteArray)) ++ r872)))] hM ⟨rfl, trivial⟩ rfl
 refine wc_seq <| wc_sr <| wv rfl (r_eql rfl rfl) <| was rfl rfl <| wl_sq ?_
 refine wcx hx rfl (fun hx => ?_) (fun hx => ?_)
 refine wc_skip <| sq_n ?_
 refine wcx hx rfl (fun hx => ?_) (fun hx => ?_)
 refine wc_region <| wmv rfl rfl <| wv rfl (r_fld u59 rfl rfl sz3 rfl) <| wv rfl (r_ldB u3 rfl rfl hM m0 rfl) <| bs hx fun r891 h892 hx => w_cv hM rfl rfl (fun X S oL hS hR hO => ct_impl_NumText _ X S c.n hS (hR _ m3) oL h892) fun _ hM => xgs hx fun hg895 hx => wv rfl (r_adds rfl rfl hg895) <| xgs hx fun hg897 hx => wv rfl (r_adds rfl rfl hg897) <| was rfl rfl <| wl_nil <| bk_n <| sq_n ?_
 refine wc_sr <| wmv rfl rfl <| was rfl rfl <| wl_sq <| wc_ret ?_
 obtain rfl := oi hx
 exact fin_u [(.string (r617 ++ ((⟨#[32]⟩ : ByteArray) ++ r891)))] hM ⟨rfl, trivial⟩ rfl
 refine wc_sr <| wv rfl (r_eql rfl rfl) <| was rfl rfl <| wl_sq ?_
 refine wcx hx rfl (fun hx => ?_) (fun hx => ?_)
 refine wc_draw [(0, 0), (1, 0), (2, 0), (3, 0), (4, 0), (5, 0), (6, 0), (7, 0), (8, 0), (9, 0), (10, 0), (11, 0)] Tryz_mixed (by kernel_rfl) rfl (by kernel_rfl) rfl <| omv rfl rfl <| ov rfl (fun w' h' => r_fld u59 rfl rfl sz3 rfl) <| ov rfl (fun w' h' => r_ldB u3 rfl rfl (hM.call h') m0 rfl) <| bs hx fun r907 h908 hx => oc rfl rfl (fun w' h' => (hM.call h').callV fun X S oL hS hR hO => ct_impl_NumText _ X S c.client hS (hR _ m3) oL h908) <| xgs hx fun hg911 hx => ov rfl (fun w' h' => r_adds rfl rfl hg911) <| xgs hx fun hg913 hx => ov rfl (fun w' h' => r_adds rfl rfl hg913) <| ov rfl (fun w' h' => r_fld u59 rfl rfl sz3 rfl) <| ov rfl (fun w' h' => r_ldB u3 rfl rfl (hM.call h') m0 rfl) <| bs hx fun r916 h917 hx => oc rfl rfl (fun w' h' => (hM.call h').callV fun X S oL hS hR hO => ct_impl_NumText _ X S c.n hS (hR _ m3) oL h917) ?_
 refine xgs hx fun hg920 hx => ov rfl (fun w' h' => r_adds rfl rfl hg920) <| xgs hx fun hg922 hx => ov rfl (fun w' h' => r_adds rfl rfl hg922) <| ov rfl (fun w' h' => r_assign rfl) <| o_nilM hM fun _ hM => bk_n <| sq_n <| wc_sr <| wmv rfl rfl <| was rfl rfl <| wl_sq <| wc_ret ?_
 obtain rfl := oi hx
 exact fin_u [(.string (r617 ++ ((((⟨#[32]⟩ : ByteArray) ++ r907) ++ (⟨#[32]⟩ : ByteArray)) ++ r916)))] hM ⟨rfl, trivial⟩ rfl
 refine wc_sr <| wv rfl (r_eql rfl rfl) <| was rfl rfl <| wl_sq ?_
 refine wcx hx rfl (fun hx => ?_) (fun hx => ?_)
 refine wc_region <| wmv rfl rfl <| wv rfl (r_fld u59 rfl rfl sz3 rfl) <| wv rfl (r_ldB u3 rfl rfl hM m0 rfl) <| bs hx fun r934 h935 hx => w_cv hM rfl rfl (fun X S oL hS hR hO => ct_impl_NumText _ X S c.client hS (hR _ m3) oL h935) fun _ hM => xgs hx fun hg938 hx => wv rfl (r_adds rfl rfl hg938) <| xgs hx fun hg940 hx => wv rfl (r_adds rfl rfl hg940) <| was rfl rfl <| wl_nil <| bk_n <| sq_n ?_
 refine wc_sr <| wmv rfl rfl <| was rfl rfl <| wl_sq <| wc_ret ?_
 obtain rfl := oi hx
 exact fin_u [(.string (r617 ++ ((⟨#[32]⟩ : ByteArray) ++ r934)))] hM ⟨rfl, trivial⟩ rfl
 refine wc_skip <| bk_n <| sq_n <| wc_sr <| wmv rfl rfl <| was rfl rfl <| wl_sq <| wc_ret ?_
 obtain rfl := oi hx
 exact fin_u [(.string r617)] hM ⟨rfl, trivial⟩ rfl
 refine wc_region <| wv rfl (r_eql rfl rfl) <| was rfl rfl <| wl_sq ?_
 refine wcx hx rfl (fun hx => ?_) (fun hx => ?_)
 refine wc_region <| wmv rfl rfl <| wv rfl (r_fld u59 rfl rfl sz3 rfl) <| wv rfl (r_ldB u3 rfl rfl hM m0 rfl) <| bs hx fun r952 h953 hx => w_cv hM rfl rfl (fun X S oL hS hR hO => ct_impl_NumText _ X S c.n hS (hR _ m3) oL h953) fun _ hM => xgs hx fun hg956 hx => wv rfl (r_adds rfl rfl hg956) <| xgs hx fun hg958 hx => wv rfl (r_adds rfl rfl hg958) <| was rfl rfl <| wl_nil <| bk_n <| sq_n ?_
 refine wc_sr <| wmv rfl rfl <| was rfl rfl <| wl_sq <| wc_ret ?_
 obtain rfl := oi hx
 exact fin_u [(.string (r617 ++ ((⟨#[32]⟩ : ByteArray) ++ r952)))] hM ⟨rfl, trivial⟩ rfl
 refine wc_sr <| wv rfl (r_eql rfl rfl) <| was rfl rfl <| wl_sq ?_
 refine wcx hx rfl (fun hx => ?_) (fun hx => ?_)
 refine wc_draw [(0, 0), (1, 0), (2, 0), (3, 0), (4, 0), (5, 0), (6, 0), (7, 0), (8, 0), (9, 0), (10, 0), (11, 0)] Tryz_mixed (by kernel_rfl) rfl (by kernel_rfl) rfl <| omv rfl rfl <| ov rfl (fun w' h' => r_fld u59 rfl rfl sz3 rfl) <| ov rfl (fun w' h' => r_ldB u3 rfl rfl (hM.call h') m0 rfl) <| bs hx fun r968 h969 hx => oc rfl rfl (fun w' h' => (hM.call h').callV fun X S oL hS hR hO => ct_impl_NumText _ X S c.client hS (hR _ m3) oL h969) <| xgs hx fun hg972 hx => ov rfl (fun w' h' => r_adds rfl rfl hg972) <| xgs hx fun hg974 hx => ov rfl (fun w' h' => r_adds rfl rfl hg974) <| ov rfl (fun w' h' => r_fld u59 rfl rfl sz3 rfl) <| ov rfl (fun w' h' => r_ldB u3 rfl rfl (hM.call h') m0 rfl) <| bs hx fun r977 h978 hx => oc rfl rfl (fun w' h' => (hM.call h').callV fun X S oL hS hR hO => ct_impl_NumText _ X S c.n hS (hR _ m3) oL h978) ?_
 refine xgs hx fun hg981 hx => ov rfl (fun w' h' => r_adds rfl rfl hg981) <| xgs hx fun hg983 hx => ov rfl (fun w' h' => r_adds rfl rfl hg983) <| ov rfl (fun w' h' => r_assign rfl) <| o_nilM hM fun _ hM => bk_n <| sq_n <| wc_sr <| wmv rfl rfl <| was rfl rfl <| wl_sq <| wc_ret ?_
 obtain rfl := oi hx
 exact fin_u [(.string (r617 ++ ((((⟨#[32]⟩ : ByteArray) ++ r968) ++ (⟨#[32]⟩ : ByteArray)) ++ r977)))] hM ⟨rfl, trivial⟩ rfl
 refine wc_sr <| wv rfl (r_eql rfl rfl) <| was rfl rfl <| wl_sq ?_
 refine wcx hx rfl (fun hx => ?_) (fun hx => ?_)
 refine wc_region <| wmv rfl rfl <| wv rfl (r_fld u59 rfl rfl sz3 rfl) <| wv rfl (r_ldB u3 rfl rfl hM m0 rfl) <| bs hx fun r995 h996 hx => w_cv hM rfl rfl (fun X S oL hS hR hO => ct_impl_NumText _ X S c.client hS (hR _ m3) oL h996) fun _ hM => xgs hx fun hg999 hx => wv rfl (r_adds rfl rfl hg999) <| xgs hx fun hg1001 hx => wv rfl (r_adds rfl rfl hg1001) <| was rfl rfl <| wl_nil <| bk_n <| sq_n ?_
 refine wc_sr <| wmv rfl rfl <| was rfl rfl <| wl_sq <| wc_ret ?_
 obtain rfl := oi hx
 exact fin_u [(.string (r617 ++ ((⟨#[32]⟩ : ByteArray) ++ r995)))] hM ⟨rfl, trivial⟩ rfl
 refine wc_skip <| bk_n <| sq_n <| wc_sr <| wmv rfl rfl <| was rfl rfl <| wl_sq <| wc_ret ?_
 obtain rfl := oi hx
 exact fin_u [(.string r617)] hM ⟨rfl, trivial⟩ rfl

noncomputable def x_spec_l19Has (k : Int) : Option (Bool × Bool × Bool) :=
  Option.bind (bif decide (k = 2) then (some true) else (some (decide (k = 6)))) fun c7 => Option.bind (bif c7 then (some true) else (some (decide (k = 7)))) fun c14 => Option.bind (bif decide (k = 2) then (some true) else (some (decide (k = 3)))) fun c25 => Option.bind (bif c25 then (some true) else (some (decide (k = 5)))) fun c32 => Option.bind (bif c32 then (some true) else (some (decide (k = 6)))) fun c39 => some (c14, decide (k = 2), c39)
theorem ct_spec_l19Has (w : World) (X S : Bs) (k : Int) (hS : SX X S w)  (oL : Sep [] X w) {r : Bool × Bool × Bool} (hx : x_spec_l19Has k = some r) :
 Ret Tryz.prog 77 [(iv k)] w (KV X S w (.tuple #[(bv r.1), (bv r.2.1), (bv r.2.2)])) := by
 unfold x_spec_l19Has at hx
 refine enter Tryz.func77 rfl Tryz.ntmps77 (by kernel_rfl) rfl ?_
 have hM := St.enter oL hS
 refine wc_sr <| was rfl rfl <| was rfl rfl <| was rfl rfl <| wl_sq <| wc_sr <| wmv rfl rfl <| wv rfl (r_eql rfl rfl) <| wmv rfl rfl <| bs hx fun c54 hx hx58 => ?_
 refine wl_midH 3 [(10, (bv c54)), (0, (iv k))] hM ?_ fun w59 hM => ?_
 refine cs2 hx (fun hg55 hx => ?_) (fun hg55 hx => ?_)
 refine gn hg55 rfl rfl <| gn hg55 rfl rfl <| wv rfl (p_t rfl hg55 rfl) ?_
 obtain rfl := oi hx
 exact mid_h ⟨rfl, rfl, trivial⟩ hM
 refine gv rfl hg55 rfl (r_move rfl) <| gv rfl hg55 rfl (r_eql rfl rfl) <| wv rfl (p_f rfl hg55 rfl) ?_
 cases hx
 exact mid_h ⟨rfl, rfl, trivial⟩ hM
 replace hx := hx58
 refine wmv rfl rfl <| bs hx fun c63 hx hx67 => ?_
 refine wl_midH 3 [(14, (bv c63)), (0, (iv k))] hM ?_ fun w68 hM => ?_
 refine cs2 hx (fun hg64 hx => ?_) (fun hg64 hx => ?_)
 refine gn hg64 rfl rfl <| gn hg64 rfl rfl <| wv rfl (p_t rfl hg64 rfl) ?_
 obtain rfl := oi hx
 exact mid_h ⟨rfl, rfl, trivial⟩ hM
 refine gv rfl hg64 rfl (r_move rfl) <| gv rfl hg64 rfl (r_eql rfl rfl) <| wv rfl (p_f rfl hg64 rfl) ?_
 cases hx
 exact mid_h ⟨rfl, rfl, trivial⟩ hM
 replace hx := hx67
 refine wmv rfl rfl <| wv rfl (r_eql rfl rfl) <| wmv rfl rfl <| wv rfl (r_eql rfl rfl) <| wmv rfl rfl <| bs hx fun c76 hx hx80 => ?_
 refine wl_midH 3 [(22, (bv c76)), (0, (iv k)), (14, (bv c63)), (16, (bv (decide (k = 2))))] hM ?_ fun w81 hM => ?_
 refine cs2 hx (fun hg77 hx => ?_) (fun hg77 hx => ?_)
 refine gn hg77 rfl rfl <| gn hg77 rfl rfl <| wv rfl (p_t rfl hg77 rfl) ?_
 obtain rfl := oi hx
 exact mid_h ⟨rfl, rfl, rfl, rfl, trivial⟩ hM
 refine gv rfl hg77 rfl (r_move rfl) <| gv rfl hg77 rfl (r_eql rfl rfl) <| wv rfl (p_f rfl hg77 rfl) ?_
 cases hx
 exact mid_h ⟨rfl, rfl, rfl, rfl, trivial⟩ hM
 replace hx := hx80
 refine wmv rfl rfl <| bs hx fun c85 hx hx89 => ?_
 refine wl_midH 3 [(26, (bv c85)), (0, (iv k)), (14, (bv c63)), (16, (bv (decide (k = 2))))] hM ?_ fun w90 hM => ?_
 refine cs2 hx (fun hg86 hx => ?_) (fun hg86 hx => ?_)
 refine gn hg86 rfl rfl <| gn hg86 rfl rfl <| wv rfl (p_t rfl hg86 rfl) ?_
 obtain rfl := oi hx
 exact mid_h ⟨rfl, rfl, rfl, rfl, trivial⟩ hM
 refine gv rfl hg86 rfl (r_move rfl) <| gv rfl hg86 rfl (r_eql rfl rfl) <| wv rfl (p_f rfl hg86 rfl) ?_
 cases hx
 exact mid_h ⟨rfl, rfl, rfl, rfl, trivial⟩ hM
 replace hx := hx89
 refine wmv rfl rfl <| bs hx fun c94 hx hx98 => ?_
 refine wl_midH 3 [(30, (bv c94)), (14, (bv c63)), (16, (bv (decide (k = 2))))] hM ?_ fun w99 hM => ?_
 refine cs2 hx (fun hg95 hx => ?_) (fun hg95 hx => ?_)
 refine gn hg95 rfl rfl <| gn hg95 rfl rfl <| wv rfl (p_t rfl hg95 rfl) ?_
 obtain rfl := oi hx
 exact mid_h ⟨rfl, rfl, rfl, trivial⟩ hM
 refine gv rfl hg95 rfl (r_move rfl) <| gv rfl hg95 rfl (r_eql rfl rfl) <| wv rfl (p_f rfl hg95 rfl) ?_
 cases hx
 exact mid_h ⟨rfl, rfl, rfl, trivial⟩ hM
 replace hx := hx98
 refine was rfl rfl <| was rfl rfl <| was rfl rfl <| wl_sq <| wc_ret ?_
 obtain rfl := oi hx
 exact fin_u [(bv c63), (bv (decide (k = 2))), (bv c94)] hM ⟨rfl, rfl, rfl, trivial⟩ rfl

noncomputable def x_spec_l19Op_b0 (k36 : Nat) (l37 : List UInt8) : Option (Lr (List UInt8) (List UInt8)) :=
  xg (0 ≤ (k36 : Int) ∧ (k36 : Int) < (l37.length : Int)) <| bif decide (((el l37 k36).toNat : Int) = 32) then (xg (0 ≤ (k36 : Int) ∧ (k36 : Int) < (l37.length : Int)) <| xg (0 ≤ (44 : Int) ∧ (44 : Int) ≤ 255) <| some (Lr.go (l37.set k36 44))) else (some (Lr.go l37))
noncomputable def x_spec_l19Op_f0 (k36 : Nat) (s84 : List UInt8) : Option (Lr (List UInt8) (List UInt8)) := x_spec_l19Op_b0 k36 s84
noncomputable def x_spec_l19Op (o : List DPart) : Option ByteArray :=
  Option.bind (x_spec_OpText o) fun r3 => xg (r3.size ≤ 1099511627776) <| Option.bind (eachN (x_spec_l19Op_f0) (fun (s84 : List UInt8) => (s84 : List UInt8)) r3.data.toList.length 0 r3.data.toList) fun (y85 : List UInt8) => some (⟨y85.toArray⟩ : ByteArray)
theorem ct_spec_l19Op (w : World) (X S : Bs) (o : List DPart) (s_o : Sv) (hS : SX X S w) (a_o_0 : (cSl 3 fDPart o).rd S w s_o.v) (oL : Sep [] X w) {r : ByteArray} (hx : x_spec_l19Op o = some r) :
 Ret Tryz.prog 78 [s_o.v] w (KV X S w (.string r)) := by
 unfold x_spec_l19Op at hx
 refine enter Tryz.func78 rfl Tryz.ntmps78 (by kernel_rfl) rfl ?_
 have hM := (St.enter oL hS).addV a_o_0
 refine wc_sr <| was rfl rfl <| wl_sq <| wc_sr <| wmv rfl rfl <| bs hx fun r92 h93 hx => w_cv hM rfl rfl (fun X S oL hS hR hO => ct_spec_OpText _ X S o s_o hS (hR _ m0) oL h93) fun _ hM => xgs hx fun hg96 hx => ?_
 refine w_ex rfl (x_s2b u9 u94 u5 rfl hg96 hM ?_); intro s97 w95 hR98 hM
 refine was rfl rfl <| wl_sq <| wc_seq <| wc_sr <| wmv rfl rfl <| wv rfl (r_lenC u94 rfl (hM.seeO m0)) <| wmv rfl rfl <| wl_sq <| wc_block <| bs hx fun y104 hx hx105 => ?_
 have hM := hM.fewer rsN
 replace hM : St ⟨w, X, S⟩ [oC (cSl 1 fY r92.data.toList) s97.v] [] _ := hM
 have hl110 := Cs.le (hM.seeO m0)
 refine wc_loop (un fun (m107 : Nat) => un fun (k108 : Nat) => fun (l106 : List UInt8) => [(3, s97.v), (9, s97.v), (10, (iv (r92.data.toList.length : Int))), (11, (iv (k108 : Int)))]) (un fun (m107 : Nat) => un fun (k108 : Nat) => fun (l106 : List UInt8) w' => St ⟨w, X, S⟩ [oC (cSl 1 fY l106) s97.v] [] w' ∧ eachN _ _ m107 k108 l106 = some y104 ∧ k108 + m107 = r92.data.toList.length) (fun p => p.1) (r92.data.toList.length, 0, r92.data.toList) ⟨rfl, rfl, rfl, rfl, trivial⟩ ⟨hM, hx, Nat.zero_add _⟩ ?_
 rintro ⟨m107, k108, l106⟩ w111 ⟨hM, hx, hk109⟩
 refine wc_sr <| wv rfl (r_lss rfl rfl) <| wl_sq <| wc_seq ?_
 refine wc_cond rfl (fun hc113 => ?_) (fun hc113 => ?_)
 replace hc113 := of_decide_eq_true hc113
 obtain ⟨m114, z115, rfl, hk109, hx, hx116⟩ := eachN_step hx hk109 hc113
 unfold x_spec_l19Op_f0 x_spec_l19Op_b0 at hx
 try dsimp only at hx
 refine wc_skip <| sq_n <| wc_seq <| wc_block <| wc_sr <| wmv rfl rfl <| xgs hx fun hg120 hx => ?_
 have hi119 : k108 < l106.length := by omega
 refine wv rfl (r_ixC u94 sz5 rfl rfl (hM.seeO m0) hg120) <| wv rfl (r_ld u5 rfl rfl (Cs.get (i := k108) (j := 0) (hM.seeO m0) (fun _ => rfl) hi119 rfl)) <| was rfl rfl <| was rfl rfl <| wl_sq <| wc_sr <| wmv rfl rfl <| wv rfl (r_eql rfl rfl) <| wl_sq ?_
 refine wcx hx rfl (fun hx => ?_) (fun hx => ?_)
 refine wc_region <| wmv rfl rfl <| wmv rfl rfl <| xgs hx fun hg131 hx => ?_
 have hi130 : k108 < l106.length := by omega
 refine wv rfl (r_ixC u94 sz5 rfl rfl (hM.seeO m0) hg131) <| xgs hx fun hg133 hx => ?_
 refine w_exu (x_stE (f := fY) (k := 1) (L := l106) (i := k108) (j := 0) 44 [cY 44] sz5 (fun _ => rfl) rfl rfl hi130 rfl rfl rfl rfl rfl (fun _ => zP (pY hg133) zN) hM ?_); intro w132 hM
 refine wl_nil <| bk_n <| sq_n <| wc_region <| wv rfl (r_add rfl rfl ⟨by omega, by omega⟩) <| wmv rfl rfl <| wl_nil ?_
 cases hx
 exact lp_end (m114, k108 + 1, l106.set k108 44) (Nat.lt_succ_self _) ⟨rfl, rfl, rfl, rfl, trivial⟩ ⟨hM, hx116, hk109⟩
 refine wc_skip <| bk_n <| sq_n <| wc_region <| wv rfl (r_add rfl rfl ⟨by omega, by omega⟩) <| wmv rfl rfl <| wl_nil ?_
 obtain rfl := oi hx
 exact lp_end (m114, k108 + 1, l106) (Nat.lt_succ_self _) ⟨rfl, rfl, rfl, rfl, trivial⟩ ⟨hM, hx116, hk109⟩
 replace hc113 := of_decide_eq_false hc113
 obtain rfl := eachN_end hx hk109 hc113
 refine wc_exit <| sq_exit <| lp1_exit ?_
 replace hx := hx105
 refine bk_here <| sq_n <| wc_sr <| wmv rfl rfl <| wv rfl (r_b2s u94 u9 u5 rfl (hM.seeO m0)) <| was rfl rfl <| wl_sq <| wc_ret ?_
 obtain rfl := oi hx
 exact fin_u [(.string (⟨l106.toArray⟩ : ByteArray))] hM ⟨rfl, trivial⟩ rfl

noncomputable def x_spec_l19Join_b0 (_l : List ByteArray) (k6 : Nat) (x62 : ByteArray) (s7 : ByteArray) : Option (Lr ByteArray ByteArray) :=
  bif decide ((0 : Int) < (k6 : Int)) then (xg (s7.size + (⟨#[32]⟩ : ByteArray).size ≤ 9223372036854775807) <| xg ((s7 ++ (⟨#[32]⟩ : ByteArray)).size + x62.size ≤ 9223372036854775807) <| some (Lr.go ((s7 ++ (⟨#[32]⟩ : ByteArray)) ++ x62))) else (xg (s7.size + x62.size ≤ 9223372036854775807) <| some (Lr.go (s7 ++ x62)))
noncomputable def x_spec_l19Join_f0 (l : List ByteArray) (k6 : Nat) (s63 : ByteArray) : Option (Lr ByteArray ByteArray) := x_spec_l19Join_b0 l k6 (el l k6) s63
noncomputable def x_spec_l19Join (l : List ByteArray) : Option ByteArray :=
  Option.bind (eachN (x_spec_l19Join_f0 l) (fun (s63 : ByteArray) => (s63 : ByteArray)) l.length 0 (⟨#[]⟩ : ByteArray)) fun (y64 : ByteArray) => some y64
theorem ct_spec_l19Join (w : World) (X S : Bs) (l : List ByteArray) (s_l : Sv) (hS : SX X S w) (a_l_0 : (cSl 1 fT l).rd S w s_l.v) (oL : Sep [] X w) {r : ByteArray} (hx : x_spec_l19Join l = some r) :
 Ret Tryz.prog 80 [s_l.v] w (KV X S w (.string r)) := by
 unfold x_spec_l19Join at hx
 refine enter Tryz.func80 rfl Tryz.ntmps80 (by kernel_rfl) rfl ?_
 have hM := (St.enter oL hS).addV a_l_0
 refine wc_sr <| was rfl rfl <| wl_sq <| wc_sr <| was rfl rfl <| wl_sq <| wc_seq <| wc_sr <| wmv rfl rfl <| wv rfl (r_lenC u44 rfl (hM.seeR m0)) <| wmv rfl rfl <| wl_sq <| wc_block <| bs hx fun y72 hx hx73 => ?_
 have hl78 := Cs.le (hM.seeR m0)
 refine wc_loop (un fun (m75 : Nat) => un fun (k76 : Nat) => fun (s74 : ByteArray) => [(3, (.string s74)), (6, s_l.v), (7, (iv (l.length : Int))), (8, (iv (k76 : Int)))]) (un fun (m75 : Nat) => un fun (k76 : Nat) => fun (s74 : ByteArray) w' => St ⟨w, X, S⟩ [] [rV s_l.v (cSl 1 fT l)] w' ∧ eachN _ _ m75 k76 s74 = some y72 ∧ k76 + m75 = l.length) (fun p => p.1) (l.length, 0, (⟨#[]⟩ : ByteArray)) ⟨rfl, rfl, rfl, rfl, trivial⟩ ⟨hM, hx, Nat.zero_add _⟩ ?_
 rintro ⟨m75, k76, s74⟩ w79 ⟨hM, hx, hk77⟩
 refine wc_sr <| wv rfl (r_lss rfl rfl) <| wl_sq <| wc_seq ?_
 refine wc_cond rfl (fun hc81 => ?_) (fun hc81 => ?_)
 replace hc81 := of_decide_eq_true hc81
 obtain ⟨m82, z83, rfl, hk77, hx, hx84⟩ := eachN_step hx hk77 hc81
 unfold x_spec_l19Join_f0 x_spec_l19Join_b0 at hx
 try dsimp only at hx
 refine wc_skip <| sq_n <| wc_seq <| wc_block <| wc_sr <| wmv rfl rfl ?_
 have hi87 : k76 < l.length := by omega
 refine wv rfl (r_ixC u44 sz9 rfl rfl (hM.seeR m0) ⟨by omega, hc81⟩) <| wv rfl (r_ld u9 rfl rfl (Cs.get (i := k76) (j := 0) (hM.seeR m0) (fun _ => rfl) hi87 rfl)) <| was rfl rfl <| was rfl rfl <| wl_sq <| wc_seq <| wc_sr <| wmv rfl rfl <| wv rfl (r_gtr rfl rfl) <| wl_sq ?_
 refine wcx hx rfl (fun hx => ?_) (fun hx => ?_)
 refine wc_region <| wmv rfl rfl <| xgs hx fun hg96 hx => wv rfl (r_adds rfl rfl hg96) <| was rfl rfl <| wl_sq <| wc_region <| wmv rfl rfl <| wmv rfl rfl <| xgs hx fun hg101 hx => wv rfl (r_adds rfl rfl hg101) <| was rfl rfl <| wl_nil <| bk_n ?_
 refine sq_n <| wc_region <| wv rfl (r_add rfl rfl ⟨by omega, by omega⟩) <| wmv rfl rfl <| wl_nil ?_
 cases hx
 exact lp_end (m82, k76 + 1, (s74 ++ (⟨#[32]⟩ : ByteArray)) ++ (el l k76)) (Nat.lt_succ_self _) ⟨rfl, rfl, rfl, rfl, trivial⟩ ⟨hM, hx84, hk77⟩
 refine wc_skip <| sq_n <| wc_region <| wmv rfl rfl <| wmv rfl rfl <| xgs hx fun hg108 hx => wv rfl (r_adds rfl rfl hg108) <| was rfl rfl <| wl_nil <| bk_n <| sq_n <| wc_region <| wv rfl (r_add rfl rfl ⟨by omega, by omega⟩) <| wmv rfl rfl ?_
 refine wl_nil ?_
 cases hx
 exact lp_end (m82, k76 + 1, s74 ++ (el l k76)) (Nat.lt_succ_self _) ⟨rfl, rfl, rfl, rfl, trivial⟩ ⟨hM, hx84, hk77⟩
 replace hc81 := of_decide_eq_false hc81
 obtain rfl := eachN_end hx hk77 hc81
 refine wc_exit <| sq_exit <| lp1_exit ?_
 replace hx := hx73
 refine bk_here <| sq_n <| wc_sr <| wmv rfl rfl <| was rfl rfl <| wl_sq <| wc_ret ?_
 obtain rfl := oi hx
 exact fin_u [(.string s74)] hM ⟨rfl, trivial⟩ rfl

noncomputable def x_spec_CallText (c : DCall) : Option ByteArray :=
  Option.bind (x_spec_CallOk c) fun r7 => Option.bind (bif !r7 then (some true) else (Option.bind (x_spec_OpOk c.o) fun r22 => some (!r22))) fun c12 => Option.bind (bif c12 then (some true) else (Option.bind (x_spec_l01In c.client 0 1000000000) fun r37 => some (!r37))) fun c27 => Option.bind (bif c27 then (some true) else (Option.bind (x_spec_l01In c.seq 0 1000000000) fun r52 => some (!r52))) fun c42 => Option.bind (bif c42 then (some true) else (Option.bind (x_spec_l01In c.n 0 1000000000) fun r67 => some (!r67))) fun c57 => Option.bind (bif c57 then (some true) else (Option.bind (x_spec_OnDoc c.kind) fun r96 => Option.bind (bif r96 then (Option.bind (x_spec_NameOk c.doc) fun r110 => some (!r110)) else (some false)) fun c100 => some c100)) fun c72 => bif c72 then (some (⟨#[]⟩ : ByteArray)) else (Option.bind (x_spec_l19Has c.kind) fun r117 => Option.bind (x_spec_ClName c.kind) fun r129 => Option.bind (x_spec_OnDoc c.kind) fun r139 => Option.bind (bif r139 then (xg ([r129].length < 1099511627776) <| some ([r129] ++ [c.doc])) else (some [r129])) fun (y158 : List ByteArray) => Option.bind (bif r117.1 then (Option.bind (x_spec_NumText c.client) fun r175 => xg (y158.length < 1099511627776) <| some (y158 ++ [r175])) else (some y158)) fun (y183 : List ByteArray) => Option.bind (bif r117.2.1 then (Option.bind (x_spec_NumText c.seq) fun r200 => xg (y183.length < 1099511627776) <| some (y183 ++ [r200])) else (some y183)) fun (y208 : List ByteArray) => Option.bind (bif r117.2.2 then (Option.bind (x_spec_NumText c.n) fun r225 => xg (y208.length < 1099511627776) <| some (y208 ++ [r225])) else (some y208)) fun (y233 : List ByteArray) => Option.bind (bif r117.2.1 then (Option.bind (x_spec_l19Op c.o) fun r250 => xg (y233.length < 1099511627776) <| some (y233 ++ [r250])) else (some y233)) fun (y258 : List ByteArray) => Option.bind (bif decide (c.kind = 1) then (Option.bind (x_spec_SignText c.text) fun r277 => xg (y258.length < 1099511627776) <| some (y258 ++ [r277])) else (some y258)) fun (y285 : List ByteArray) => Option.bind (x_spec_l19Join y285) fun r288 => some r288)
theorem ct_spec_CallText (w : World) (X S : Bs) (c : DCall) (s_c_5 : Sv) (s_c_6 : Sv) (hS : SX X S w) (a_c_5 : (cSl 3 fDPart c.o).rd S w s_c_5.v) (a_c_6 : (cSl 1 fI c.text).rd S w s_c_6.v) (oL : Sep [] X w) {r : ByteArray} (hx : x_spec_CallText c = some r) :
 Ret Tryz.prog 34 [(.agg #[(iv c.kind), (.string c.doc), (iv c.client), (iv c.seq), (iv c.n), s_c_5.v, s_c_6.v])] w (KV X S w (.string r)) := by
 unfold x_spec_CallText at hx
 refine enter Tryz.func34 rfl Tryz.ntmps34 (by kernel_rfl) rfl ?_
 have hM := ((St.enter oL hS).addV a_c_5).addV a_c_6
 refine wc_sr ?_
 refine w_ex rfl (x_box rfl hM ?_); intro b293 w292 hR294 hM
 refine was rfl rfl <| wl_sq <| wc_seq <| wc_sr <| wv rfl (r_ldBS u59 sz59 rfl (us := [(iv c.kind), (.string c.doc), (iv c.client), (iv c.seq), (iv c.n), s_c_5.v, s_c_6.v]) rfl hM m0 rfl) <| bs hx fun _ h299 hx => w_cv hM rfl rfl (fun X S oL hS hR hO => ct_spec_CallOk _ X S c s_c_5 s_c_6 hS (hR _ m1) (hR _ m0) oL h299) fun _ hM => wv rfl (r_not rfl) <| wmv rfl rfl <| bs hx fun c303 hx hx311 => ?_
 refine wl_midH 5 [(15, (bv c303)), (1, (pt b293 0))] hM ?_ fun w312 hM => ?_
 refine cs2 hx (fun hg304 hx => ?_) (fun hg304 hx => ?_)
 refine gn hg304 rfl rfl <| gn hg304 rfl rfl <| gn hg304 rfl rfl <| gn hg304 rfl rfl <| wv rfl (p_t rfl hg304 rfl) ?_
 obtain rfl := oi hx
 exact mid_h ⟨rfl, rfl, trivial⟩ hM
 refine gv rfl hg304 rfl (r_fld u59 rfl rfl sz57 rfl) <| gv rfl hg304 rfl (r_ldB u57 rfl rfl hM m0 rfl) <| bs hx fun _ h316 hx => g_cv hM hg304 rfl rfl rfl (fun X S oL hS hR hO => ct_spec_OpOk _ X S c.o s_c_5 hS (hR _ m1) oL h316) fun _ hM => gv rfl hg304 rfl (r_not rfl) <| wv rfl (p_f rfl hg304 rfl) ?_
 cases hx
 exact mid_h ⟨rfl, rfl, trivial⟩ hM
 replace hx := hx311
 refine wmv rfl rfl <| bs hx fun c320 hx hx328 => ?_
 refine wl_midH 5 [(21, (bv c320)), (1, (pt b293 0))] hM ?_ fun w329 hM => ?_
 refine cs2 hx (fun hg321 hx => ?_) (fun hg321 hx => ?_)
 refine gn hg321 rfl rfl <| gn hg321 rfl rfl <| gn hg321 rfl rfl <| gn hg321 rfl rfl <| wv rfl (p_t rfl hg321 rfl) ?_
 obtain rfl := oi hx
 exact mid_h ⟨rfl, rfl, trivial⟩ hM
 refine gv rfl hg321 rfl (r_fld u59 rfl rfl sz3 rfl) <| gv rfl hg321 rfl (r_ldB u3 rfl rfl hM m0 rfl) <| bs hx fun _ h333 hx => g_cv hM hg321 rfl rfl rfl (fun X S oL hS hR hO => ct_spec_l01In _ X S c.client (0 : Int) (1000000000 : Int) hS  oL h333) fun _ hM => gv rfl hg321 rfl (r_not rfl) <| wv rfl (p_f rfl hg321 rfl) ?_
 cases hx
 exact mid_h ⟨rfl, rfl, trivial⟩ hM
 replace hx := hx328
 refine wmv rfl rfl <| bs hx fun c337 hx hx345 => ?_
 refine wl_midH 5 [(27, (bv c337)), (1, (pt b293 0))] hM ?_ fun w346 hM => ?_
 refine cs2 hx (fun hg338 hx => ?_) (fun hg338 hx => ?_)
 refine gn hg338 rfl rfl <| gn hg338 rfl rfl <| gn hg338 rfl rfl <| gn hg338 rfl rfl <| wv rfl (p_t rfl hg338 rfl) ?_
 obtain rfl := oi hx
 exact mid_h ⟨rfl, rfl, trivial⟩ hM
 refine gv rfl hg338 rfl (r_fld u59 rfl rfl sz3 rfl) <| gv rfl hg338 rfl (r_ldB u3 rfl rfl hM m0 rfl) <| bs hx fun _ h350 hx => g_cv hM hg338 rfl rfl rfl (fun X S oL hS hR hO => ct_spec_l01In _ X S c.seq (0 : Int) (1000000000 : Int) hS  oL h350) fun _ hM => gv rfl hg338 rfl (r_not rfl) <| wv rfl (p_f rfl hg338 rfl) ?_
 cases hx
 exact mid_h ⟨rfl, rfl, trivial⟩ hM
 replace hx := hx345
 refine wmv rfl rfl <| bs hx fun c354 hx hx362 => ?_
 refine wl_midH 5 [(33, (bv c354)), (1, (pt b293 0))] hM ?_ fun w363 hM => ?_
 refine cs2 hx (fun hg355 hx => ?_) (fun hg355 hx => ?_)
 refine gn hg355 rfl rfl <| gn hg355 rfl rfl <| gn hg355 rfl rfl <| gn hg355 rfl rfl <| wv rfl (p_t rfl hg355 rfl) ?_
 obtain rfl := oi hx
 exact mid_h ⟨rfl, rfl, trivial⟩ hM
 refine gv rfl hg355 rfl (r_fld u59 rfl rfl sz3 rfl) <| gv rfl hg355 rfl (r_ldB u3 rfl rfl hM m0 rfl) <| bs hx fun _ h367 hx => g_cv hM hg355 rfl rfl rfl (fun X S oL hS hR hO => ct_spec_l01In _ X S c.n (0 : Int) (1000000000 : Int) hS  oL h367) fun _ hM => gv rfl hg355 rfl (r_not rfl) <| wv rfl (p_f rfl hg355 rfl) ?_
 cases hx
 exact mid_h ⟨rfl, rfl, trivial⟩ hM
 replace hx := hx362
 refine wmv rfl rfl <| bs hx fun c371 hx hx393 => ?_
 refine wl_midH 10 [(44, (bv c371)), (1, (pt b293 0))] hM ?_ fun w394 hM => ?_
 refine cs2 hx (fun hg372 hx => ?_) (fun hg372 hx => ?_)
 refine gn hg372 rfl rfl <| gn hg372 rfl rfl <| gn hg372 rfl rfl <| gn hg372 rfl rfl <| gs rfl rfl rfl <| gs rfl rfl rfl <| gs rfl rfl rfl <| gs rfl rfl rfl <| gn hg372 rfl rfl <| wv rfl (p_t rfl hg372 rfl) ?_
 obtain rfl := oi hx
 exact mid_h ⟨rfl, rfl, trivial⟩ hM
 refine gv rfl hg372 rfl (r_fld u59 rfl rfl sz3 rfl) <| gv rfl hg372 rfl (r_ldB u3 rfl rfl hM m0 rfl) <| bs hx fun _ h398 hx => g_cv hM hg372 rfl rfl rfl (fun X S oL hS hR hO => ct_spec_OnDoc _ X S c.kind hS  oL h398) fun _ hM => gv rfl hg372 rfl (r_move rfl) <| bs hx fun c401 hx hx409 => ?_
 refine wl_midH 5 [(43, (bv c401)), (1, (pt b293 0)), (34, (bv c354))] hM ?_ fun w410 hM => ?_
 refine cs2 hx (fun hg402 hx => ?_) (fun hg402 hx => ?_)
 refine gv rfl hg402 rfl (r_fld u59 rfl rfl sz9 rfl) <| gv rfl hg402 rfl (r_ldB u9 rfl rfl hM m0 rfl) <| bs hx fun _ h414 hx => g_cv hM hg402 rfl rfl rfl (fun X S oL hS hR hO => ct_spec_NameOk _ X S c.doc hS  oL h414) fun _ hM => gv rfl hg402 rfl (r_not rfl) <| gv rfl hg372 rfl (p_t rfl hg402 rfl) ?_
 cases hx
 exact mid_h ⟨rfl, rfl, rfl, trivial⟩ hM
 refine gn hg402 rfl rfl <| gn hg402 rfl rfl <| gn hg402 rfl rfl <| gn hg402 rfl rfl <| gv rfl hg372 rfl (p_f rfl hg402 rfl) ?_
 obtain rfl := oi hx
 exact mid_h ⟨rfl, rfl, rfl, trivial⟩ hM
 replace hx := hx409
 refine wv rfl (p_f rfl hg372 rfl) ?_
 obtain rfl := oi hx
 exact mid_h ⟨rfl, rfl, trivial⟩ hM
 replace hx := hx393
 refine wl_sq ?_
 refine wcx hx rfl (fun hx => ?_) (fun hx => ?_)
 refine wc_sr <| was rfl rfl <| wl_sq <| wc_ret <| sq_ret ?_
 obtain rfl := oi hx
 exact fin_u [(.string (⟨#[]⟩ : ByteArray))] hM ⟨rfl, trivial⟩ rfl
 refine wc_skip <| sq_n <| wc_sr <| wv rfl (r_fld u59 rfl rfl sz3 rfl) <| wv rfl (r_ldB u3 rfl rfl hM m0 rfl) <| bs hx fun r421 h422 hx => w_cv hM rfl rfl (fun X S oL hS hR hO => ct_spec_l19Has _ X S c.kind hS  oL h422) fun _ hM => wmv rfl rfl <| wv rfl (r_extract rfl rfl) <| wv rfl (r_extract rfl rfl) <| wv rfl (r_extract rfl rfl) <| was rfl rfl <| was rfl rfl <| was rfl rfl ?_
 refine wl_sq <| wc_sr <| wv rfl (r_fld u59 rfl rfl sz3 rfl) <| wv rfl (r_ldB u3 rfl rfl hM m0 rfl) <| bs hx fun r433 h434 hx => w_cv hM rfl rfl (fun X S oL hS hR hO => ct_spec_ClName _ X S c.kind hS  oL h434) fun _ hM => ?_
 refine w_ex rfl (x_lit (f := fT) (own := []) [r433] [(.string r433)] 1 u44 sz9 (fun _ => rfl) rfl rfl rfl rfl rfl (by kernel_rfl) (fun _ => zP (pV _ rfl) zN) hM ?_); intro s437 w436 hR438 hM
 refine was rfl rfl <| wl_sq <| wc_seq <| wc_sr <| wv rfl (r_fld u59 rfl rfl sz3 rfl) <| wv rfl (r_ldB u3 rfl rfl hM m1 rfl) <| bs hx fun _ h444 hx => w_cv hM rfl rfl (fun X S oL hS hR hO => ct_spec_OnDoc _ X S c.kind hS  oL h444) fun _ hM => wl_sq <| bs hx fun y446 hx hx447 => ?_
 refine wc_mid (fun (s448 : Sv) => [(1, (pt b293 0)), (3, (bv r421.1)), (4, (bv r421.2.1)), (5, (bv r421.2.2)), (6, s448.v)]) (fun (s448 : Sv) w' => St ⟨w, X, S⟩ [oBox b293 #[(iv c.kind), (.string c.doc), (iv c.client), (iv c.seq), (iv c.n), s_c_5.v, s_c_6.v] 59, oC (cSl 1 fT y446) s448.v] [rV s_c_5.v (cSl 3 fDPart c.o), rV s_c_6.v (cSl 1 fI c.text)] w') ?_ ?_
 refine wcx hx rfl (fun hx => ?_) (fun hx => ?_)
 refine wc_region <| wmv rfl rfl <| wv rfl (r_fld u59 rfl rfl sz9 rfl) <| wv rfl (r_ldB u9 rfl rfl hM m1 rfl) <| xgs hx fun hg455 hx => ?_
 refine w_push (f := fT) c.doc rfl rfl u44 sz9 rfl rfl rfl rfl (fun _ => rfl) hM (fun _ => zP (pV _ rfl) zN) rfl hg455 rfl ?_; intro u453 s454 w452 hM
 refine was rfl rfl <| wl_nil ?_
 cases hx
 replace hM := hM.p1
 have hM := hM.fewer (rsC m1 (rsC m0 rsN))
 replace hM : St ⟨w, X, S⟩ [oBox b293 #[(iv c.kind), (.string c.doc), (iv c.client), (iv c.seq), (iv c.n), s_c_5.v, s_c_6.v] 59, oC (cSl 1 fT ([r433] ++ [c.doc])) s454.v] [rV s_c_5.v (cSl 3 fDPart c.o), rV s_c_6.v (cSl 1 fI c.text)] _ := hM
 exact mid_c s454 ⟨rfl, rfl, rfl, rfl, rfl, trivial⟩ hM
 refine wc_skip ?_
 cases hx
 replace hM := hM.p1
 have hM := hM.fewer (rsC m1 (rsC m0 rsN))
 replace hM : St ⟨w, X, S⟩ [oBox b293 #[(iv c.kind), (.string c.doc), (iv c.client), (iv c.seq), (iv c.n), s_c_5.v, s_c_6.v] 59, oC (cSl 1 fT [r433]) s437.v] [rV s_c_5.v (cSl 3 fDPart c.o), rV s_c_6.v (cSl 1 fI c.text)] _ := hM
 exact mid_c s437 ⟨rfl, rfl, rfl, rfl, rfl, trivial⟩ hM
 rintro s448 w457 hM
 replace hx := hx447
 refine sq_n <| wc_seq <| wc_sr <| wmv rfl rfl <| wl_sq <| bs hx fun y459 hx hx460 => ?_
 refine wc_mid (fun (s461 : Sv) => [(1, (pt b293 0)), (4, (bv r421.2.1)), (5, (bv r421.2.2)), (6, s461.v)]) (fun (s461 : Sv) w' => St ⟨w, X, S⟩ [oBox b293 #[(iv c.kind), (.string c.doc), (iv c.client), (iv c.seq), (iv c.n), s_c_5.v, s_c_6.v] 59, oC (cSl 1 fT y459) s461.v] [rV s_c_5.v (cSl 3 fDPart c.o), rV s_c_6.v (cSl 1 fI c.text)] w') ?_ ?_
 refine wcx hx rfl (fun hx => ?_) (fun hx => ?_)
 refine wc_region <| wmv rfl rfl <| wv rfl (r_fld u59 rfl rfl sz3 rfl) <| wv rfl (r_ldB u3 rfl rfl hM m0 rfl) <| bs hx fun r465 h466 hx => w_cv hM rfl rfl (fun X S oL hS hR hO => ct_spec_NumText _ X S c.client hS  oL h466) fun _ hM => ?_
 replace hM := hM.p1
 refine xgs hx fun hg471 hx => ?_
 refine w_push (f := fT) r465 rfl rfl u44 sz9 rfl rfl rfl rfl (fun _ => rfl) hM (fun _ => zP (pV _ rfl) zN) rfl hg471 rfl ?_; intro u469 s470 w468 hM
 refine was rfl rfl <| wl_nil ?_
 cases hx
 replace hM := hM.p1
 exact mid_c s470 ⟨rfl, rfl, rfl, rfl, trivial⟩ hM
 refine wc_skip ?_
 obtain rfl := oi hx
 exact mid_c s448 ⟨rfl, rfl, rfl, rfl, trivial⟩ hM
 rintro s461 w473 hM
 replace hx := hx460
 refine sq_n <| wc_seq <| wc_sr <| wmv rfl rfl <| wl_sq <| bs hx fun y475 hx hx476 => ?_
 refine wc_mid (fun (s477 : Sv) => [(1, (pt b293 0)), (4, (bv r421.2.1)), (5, (bv r421.2.2)), (6, s477.v)]) (fun (s477 : Sv) w' => St ⟨w, X, S⟩ [oBox b293 #[(iv c.kind), (.string c.doc), (iv c.client), (iv c.seq), (iv c.n), s_c_5.v, s_c_6.v] 59, oC (cSl 1 fT y475) s477.v] [rV s_c_5.v (cSl 3 fDPart c.o), rV s_c_6.v (cSl 1 fI c.text)] w') ?_ ?_
 refine wcx hx rfl (fun hx => ?_) (fun hx => ?_)
 refine wc_region <| wmv rfl rfl <| wv rfl (r_fld u59 rfl rfl sz3 rfl) <| wv rfl (r_ldB u3 rfl rfl hM m0 rfl) <| bs hx fun r481 h482 hx => w_cv hM rfl rfl (fun X S oL hS hR hO => ct_spec_NumText _ X S c.seq hS  oL h482) fun _ hM => ?_
 replace hM := hM.p1
 refine xgs hx fun hg487 hx => ?_
 refine w_push (f := fT) r481 rfl rfl u44 sz9 rfl rfl rfl rfl (fun _ => rfl) hM (fun _ => zP (pV _ rfl) zN) rfl hg487 rfl ?_; intro u485 s486 w484 hM
 refine was rfl rfl <| wl_nil ?_
 cases hx
 replace hM := hM.p1
 exact mid_c s486 ⟨rfl, rfl, rfl, rfl, trivial⟩ hM
 refine wc_skip ?_
 obtain rfl := oi hx
 exact mid_c s461 ⟨rfl, rfl, rfl, rfl, trivial⟩ hM
 rintro s477 w489 hM
 replace hx := hx476
 refine sq_n <| wc_seq <| wc_sr <| wmv rfl rfl <| wl_sq <| bs hx fun y491 hx hx492 => ?_
 refine wc_mid (fun (s493 : Sv) => [(1, (pt b293 0)), (4, (bv r421.2.1)), (6, s493.v)]) (fun (s493 : Sv) w' => St ⟨w, X, S⟩ [oBox b293 #[(iv c.kind), (.string c.doc), (iv c.client), (iv c.seq), (iv c.n), s_c_5.v, s_c_6.v] 59, oC (cSl 1 fT y491) s493.v] [rV s_c_5.v (cSl 3 fDPart c.o), rV s_c_6.v (cSl 1 fI c.text)] w') ?_ ?_
 refine wcx hx rfl (fun hx => ?_) (fun hx => ?_)
 refine wc_region <| wmv rfl rfl <| wv rfl (r_fld u59 rfl rfl sz3 rfl) <| wv rfl (r_ldB u3 rfl rfl hM m0 rfl) <| bs hx fun r497 h498 hx => w_cv hM rfl rfl (fun X S oL hS hR hO => ct_spec_NumText _ X S c.n hS  oL h498) fun _ hM => ?_
 replace hM := hM.p1
 refine xgs hx fun hg503 hx => ?_
 refine w_push (f := fT) r497 rfl rfl u44 sz9 rfl rfl rfl rfl (fun _ => rfl) hM (fun _ => zP (pV _ rfl) zN) rfl hg503 rfl ?_; intro u501 s502 w500 hM
 refine was rfl rfl <| wl_nil ?_
 cases hx
 replace hM := hM.p1
 exact mid_c s502 ⟨rfl, rfl, rfl, trivial⟩ hM
 refine wc_skip ?_
 obtain rfl := oi hx
 exact mid_c s477 ⟨rfl, rfl, rfl, trivial⟩ hM
 rintro s493 w505 hM
 replace hx := hx492
 refine sq_n <| wc_seq <| wc_sr <| wmv rfl rfl <| wl_sq <| bs hx fun y507 hx hx508 => ?_
 refine wc_mid (fun (s509 : Sv) => [(1, (pt b293 0)), (6, s509.v)]) (fun (s509 : Sv) w' => St ⟨w, X, S⟩ [oBox b293 #[(iv c.kind), (.string c.doc), (iv c.client), (iv c.seq), (iv c.n), s_c_5.v, s_c_6.v] 59, oC (cSl 1 fT y507) s509.v] [rV s_c_5.v (cSl 3 fDPart c.o), rV s_c_6.v (cSl 1 fI c.text)] w') ?_ ?_
 refine wcx hx rfl (fun hx => ?_) (fun hx => ?_)
 refine wc_region <| wmv rfl rfl <| wv rfl (r_fld u59 rfl rfl sz57 rfl) <| wv rfl (r_ldB u57 rfl rfl hM m0 rfl) <| bs hx fun r513 h514 hx => w_cv hM rfl rfl (fun X S oL hS hR hO => ct_spec_l19Op _ X S c.o s_c_5 hS (hR _ m0) oL h514) fun _ hM => ?_
 replace hM := hM.p1
 refine xgs hx fun hg519 hx => ?_
 refine w_push (f := fT) r513 rfl rfl u44 sz9 rfl rfl rfl rfl (fun _ => rfl) hM (fun _ => zP (pV _ rfl) zN) rfl hg519 rfl ?_; intro u517 s518 w516 hM
 refine was rfl rfl <| wl_nil ?_
 cases hx
 replace hM := hM.p1
 exact mid_c s518 ⟨rfl, rfl, trivial⟩ hM
 refine wc_skip ?_
 obtain rfl := oi hx
 exact mid_c s493 ⟨rfl, rfl, trivial⟩ hM
 rintro s509 w521 hM
 replace hx := hx508
 refine sq_n <| wc_seq <| wc_sr <| wv rfl (r_fld u59 rfl rfl sz3 rfl) <| wv rfl (r_ldB u3 rfl rfl hM m0 rfl) <| wv rfl (r_eql rfl rfl) <| wl_sq <| bs hx fun y525 hx hx526 => ?_
 refine wc_mid (fun (s527 : Sv) => [(6, s527.v)]) (fun (s527 : Sv) w' => St ⟨w, X, S⟩ [oC (cSl 1 fT y525) s527.v] [] w') ?_ ?_
 refine wcx hx rfl (fun hx => ?_) (fun hx => ?_)
 refine wc_region <| wmv rfl rfl <| wv rfl (r_fld u59 rfl rfl sz26 rfl) <| wv rfl (r_ldB u26 rfl rfl hM m0 rfl) <| bs hx fun r531 h532 hx => w_cv hM rfl rfl (fun X S oL hS hR hO => ct_spec_SignText _ X S c.text s_c_6 hS (hR _ m1) oL h532) fun _ hM => ?_
 replace hM := hM.p1
 refine xgs hx fun hg537 hx => ?_
 refine w_push (f := fT) r531 rfl rfl u44 sz9 rfl rfl rfl rfl (fun _ => rfl) hM (fun _ => zP (pV _ rfl) zN) rfl hg537 rfl ?_; intro u535 s536 w534 hM
 refine was rfl rfl <| wl_nil ?_
 cases hx
 replace hM := hM.t1
 have hM := hM.fewer rsN
 replace hM : St ⟨w, X, S⟩ [oC (cSl 1 fT (y507 ++ [r531])) s536.v] [] _ := hM
 exact mid_c s536 ⟨rfl, trivial⟩ hM
 refine wc_skip ?_
 obtain rfl := oi hx
 replace hM := hM.p1
 replace hM := hM.t1
 have hM := hM.fewer rsN
 replace hM : St ⟨w, X, S⟩ [oC (cSl 1 fT y507) s509.v] [] _ := hM
 exact mid_c s509 ⟨rfl, trivial⟩ hM
 rintro s527 w539 hM
 replace hx := hx526
 refine sq_n <| wc_sr <| wmv rfl rfl <| bs hx fun r541 h542 hx => w_cv hM rfl rfl (fun X S oL hS hR hO => ct_spec_l19Join _ X S y525 s527 hS (seeA hO m0) oL h542) fun _ hM => was rfl rfl <| wl_sq <| wc_ret ?_
 obtain rfl := oi hx
 exact fin_u [(.string r541)] hM ⟨rfl, trivial⟩ rfl

end Go.Proofs.YtjbonmmmcnpjiaaGreatDoor
