/- Walks of functions of this program (printed by a program of ours, by the rules of the layer). No condition. -/
import Derived.Test.YtjbonmmmcnpjiaaGreatDoorH4
import Derived.Test.YtjbonmmmcnpjiaaGreatDoorNw
namespace Go.Proofs.YtjbonmmmcnpjiaaGreatDoor
open Go.RowKit

noncomputable def x_laws_toIntS_b0 (a : List Int) (i34 : Int) (l35 : List Int) : Option (Lr (Int × List Int) (List Int)) :=
  bif decide (i34 < (a.length : Int)) then (xg (0 ≤ i34 ∧ i34 < (a.length : Int)) <| xg (0 ≤ i34 ∧ i34 < (l35.length : Int)) <| xg (inI (i34 + 1)) <| some (Lr.go (i34 + 1, l35.set i34.toNat (el a i34.toNat)))) else (some (Lr.out l35))
noncomputable def x_laws_toIntS_f0 (a : List Int) (s79 : Int × List Int) : Option (Lr (Int × List Int) (List Int)) := x_laws_toIntS_b0 a s79.1 s79.2
noncomputable def x_laws_toIntS (a : List Int) : Option (List Int) :=
  xg (0 ≤ (a.length : Int) ∧ (a.length : Int) ≤ 1099511627776) <| Option.bind (iter (x_laws_toIntS_f0 a) (0, List.replicate ((a.length : Int).toNat) (0 : Int))) fun (y80 : List Int) => some y80
theorem ct_laws_toIntS (w : World) (X S : Bs) (a : List Int) (s_a : Sv) (hS : SX X S w) (a_a_0 : (cSl 1 fI a).rd S w s_a.v) (oL : Sep [] X w) {r : List Int} (hx : x_laws_toIntS a = some r) :
 Ret Tryz.prog 24 [s_a.v] w (fun u w' => ∃ y : Sv, u = y.v ∧ Gives X S w [oC (cSl 1 fI r) y.v] [] w') := by
 unfold x_laws_toIntS at hx
 refine enter Tryz.func24 rfl Tryz.ntmps24 (by kernel_rfl) rfl ?_
 have hM := (St.enter oL hS).addV a_a_0
 refine wc_sr <| was rfl rfl <| wl_sq <| wc_sr <| wmv rfl rfl <| wv rfl (r_lenC u26 rfl (hM.seeR m0)) <| xgs hx fun _ hx => ?_
 have hk90 : (a.length : Int) = ((a.length : Int).toNat : Int) := by omega
 refine w_ex rfl (x_make (f := fI) (k := ((a.length : Int).toNat)) (0 : Int) u26 sz3 (fun _ => rfl) (fun _ => zP (pV _ rfl) zN) (by rw [← hk90]; rfl) (by omega) rfl hM ?_); intro s88 w87 hR91 hM
 refine was rfl rfl <| wl_sq <| wc_seq <| wc_sr <| was rfl rfl <| wl_sq <| wc_block <| bs hx fun y95 hx hx96 => ?_
 obtain ⟨m101, hx⟩ := iter_run hx
 refine wc_loop (un fun (m99 : Nat) => un fun (i97 : Int) => fun (l98 : List Int) => [(0, s_a.v), (3, s88.v), (4, (iv i97))]) (un fun (m99 : Nat) => un fun (i97 : Int) => fun (l98 : List Int) w' => St ⟨w, X, S⟩ [oC (cSl 1 fI l98) s88.v] [rV s_a.v (cSl 1 fI a)] w' ∧ iterN _ m99 (i97, l98) = some y95) (fun p => p.1) (m101, 0, List.replicate ((a.length : Int).toNat) (0 : Int)) ⟨rfl, rfl, rfl, trivial⟩ ⟨hM, hx⟩ ?_
 rintro ⟨m99, i97, l98⟩ w102 ⟨hM, hx⟩
 obtain ⟨m103, z104, rfl, hx, hx105⟩ := iterN_step hx
 unfold x_laws_toIntS_f0 x_laws_toIntS_b0 at hx
 try dsimp only at hx
 refine wc_seq <| wc_sr <| wmv rfl rfl <| wmv rfl rfl <| wv rfl (r_lenC u26 rfl (hM.seeR m0)) <| wv rfl (r_lss rfl rfl) <| wl_sq ?_
 refine wcx hx rfl (fun hx => ?_) (fun hx => ?_)
 refine wc_skip <| sq_n <| wc_seq <| wc_block <| wc_region <| wmv rfl rfl <| wmv rfl rfl <| wmv rfl rfl <| wmv rfl rfl <| xgs hx fun hg117 hx => ?_
 have hi116 : i97.toNat < a.length := by omega
 refine wv rfl (r_ixC u26 sz3 rfl rfl (hM.seeR m0) hg117) <| wv rfl (r_ld u3 rfl rfl (Cs.get (i := i97.toNat) (j := 0) (hM.seeR m0) (fun _ => rfl) hi116 rfl)) <| xgs hx fun hg121 hx => ?_
 have hi120 : i97.toNat < l98.length := by omega
 refine wv rfl (r_ixC u26 sz3 rfl rfl (hM.seeO m0) hg121) ?_
 refine w_exu (x_stE (f := fI) (k := 1) (L := l98) (i := i97.toNat) (j := 0) (el a i97.toNat) [cI (el a i97.toNat)] sz3 (fun _ => rfl) rfl rfl hi120 rfl rfl rfl rfl rfl (fun _ => zP (pV _ rfl) zN) hM ?_); intro w122 hM
 refine wl_nil <| bk_n <| sq_n <| wc_region <| wmv rfl rfl <| xgs hx fun hg126 hx => wv rfl (r_add rfl rfl hg126) <| was rfl rfl <| wl_nil ?_
 cases hx
 exact lp_end (m103, i97 + 1, l98.set i97.toNat (el a i97.toNat)) (Nat.lt_succ_self _) ⟨rfl, rfl, rfl, trivial⟩ ⟨hM, hx105⟩
 refine wc_exit <| sq_exit <| lp1_exit ?_
 cases hx
 obtain rfl := oi hx105
 replace hx := hx96
 refine bk_here <| sq_n <| wc_sr <| wmv rfl rfl <| was rfl rfl <| wl_sq <| wc_ret ?_
 obtain rfl := oi hx
 refine fin_ret [s88.v] ⟨rfl, trivial⟩ ?_
 replace hM := hM.t1
 exact ⟨s88, rfl, (hM.fewer rsN).gives⟩

noncomputable def x_laws_toPart (a : DPart) : Option DPart :=
  Option.bind (x_laws_toIntS a.signs) fun r25 => some (⟨a.kind, a.n, r25⟩ : DPart)
theorem ct_laws_toPart (w : World) (X S : Bs) (a : DPart) (s_a_2 : Sv) (hS : SX X S w) (a_a_2 : (cSl 1 fI a.signs).rd S w s_a_2.v) (oL : Sep [] X w) {r : DPart} (hx : x_laws_toPart a = some r) :
 Ret Tryz.prog 180 [(.agg #[(iv a.kind), (iv a.n), s_a_2.v])] w (fun u w' => ∃ y : Sv, u = .agg #[(iv r.kind), (iv r.n), y.v] ∧ Gives X S w [oC (cSl 1 fI r.signs) y.v] [] w') := by
 unfold x_laws_toPart at hx
 refine enter Tryz.func180 rfl Tryz.ntmps180 (by kernel_rfl) rfl ?_
 have hM := (St.enter oL hS).addV a_a_2
 refine wc_sr ?_
 refine w_ex rfl (x_box rfl hM ?_); intro b37 w36 hR38 hM
 refine w_ex rfl (x_alloc sz156 hM ?_); intro b41 w40 hR42 hM
 refine wl_sq <| wc_sr ?_
 refine w_ex rfl (x_alloc sz156 hM ?_); intro b45 w44 hR46 hM
 refine wl_sq <| wc_sr <| wv rfl (r_fld u193 rfl rfl sz3 rfl) <| wv rfl (r_ldB u3 rfl rfl hM m2 rfl) <| wv rfl (r_fld u156 rfl rfl sz3 rfl) ?_
 refine w_exu (x_stB #[(iv a.kind), (iv 0), (.slice none 0 0)] sz3 rfl rfl rfl rfl rfl rfl hM ?_); intro w51 hM
 refine wl_sq <| wc_sr <| wv rfl (r_fld u193 rfl rfl sz3 rfl) <| wv rfl (r_ldB u3 rfl rfl hM m2 rfl) <| wv rfl (r_fld u156 rfl rfl sz3 rfl) ?_
 refine w_exu (x_stB #[(iv a.kind), (iv a.n), (.slice none 0 0)] sz3 rfl rfl rfl rfl rfl rfl hM ?_); intro w56 hM
 refine wl_sq <| wc_sr <| wv rfl (r_fld u193 rfl rfl sz26 rfl) <| wv rfl (r_ldB u26 rfl rfl hM m2 rfl) <| bs hx fun _ h61 hx => w_call rfl rfl (hM.callO (l := []) fun X S oL hS hR hO => ct_laws_toIntS _ X S a.signs s_a_2 hS (hR _ m0) oL h61) ?_
 rintro _ w62 ⟨s63, rfl, hM⟩
 dsimp only [List.cons_append, List.nil_append] at hM
 refine wv rfl (r_fld u156 rfl rfl sz26 rfl) ?_
 replace hM := hM.p1
 refine w_exu (x_stB #[(iv a.kind), (iv a.n), s63.v] sz26 rfl rfl rfl rfl rfl rfl hM ?_); intro w66 hM
 refine wl_sq <| wc_sr <| wv rfl (r_ldBS u156 sz156 rfl (us := [(iv a.kind), (iv a.n), s63.v]) rfl hM m0 rfl) ?_
 replace hM := hM.p2
 refine w_exu (x_stB #[(iv a.kind), (iv a.n), s63.v] sz156 rfl rfl rfl rfl rfl rfl hM ?_); intro w69 hM
 refine wl_sq <| wc_ret ?_
 obtain rfl := oi hx
 refine fin_ret [(.agg #[(iv a.kind), (iv a.n), s63.v])] ⟨rv_box u156 sz156 rfl rfl hM m0, trivial⟩ ?_
 replace hM := hM.p2
 replace hM := hM.t1
 exact ⟨s63, rfl, (hM.fewer rsN).gives⟩

noncomputable def x_laws_toPartS_b0 (a : List DPart) (i41 : Int) (l42 : List DPart) : Option (Lr (Int × List DPart) (List DPart)) :=
  bif decide (i41 < (a.length : Int)) then (xg (0 ≤ i41 ∧ i41 < (a.length : Int)) <| Option.bind (x_laws_toPart (el a i41.toNat)) fun r86 => xg (0 ≤ i41 ∧ i41 < (l42.length : Int)) <| xg (inI (i41 + 1)) <| some (Lr.go (i41 + 1, l42.set i41.toNat r86))) else (some (Lr.out l42))
noncomputable def x_laws_toPartS_f0 (a : List DPart) (s100 : Int × List DPart) : Option (Lr (Int × List DPart) (List DPart)) := x_laws_toPartS_b0 a s100.1 s100.2
noncomputable def x_laws_toPartS (a : List DPart) : Option (List DPart) :=
  xg (0 ≤ (a.length : Int) ∧ (a.length : Int) ≤ 1099511627776) <| Option.bind (iter (x_laws_toPartS_f0 a) (0, List.replicate ((a.length : Int).toNat) (default : DPart))) fun (y101 : List DPart) => some y101
theorem ct_laws_toPartS (w : World) (X S : Bs) (a : List DPart) (s_a : Sv) (hS : SX X S w) (a_a_0 : (cSl 3 fDPart a).rd S w s_a.v) (oL : Sep [] X w) {r : List DPart} (hx : x_laws_toPartS a = some r) :
 Ret Tryz.prog 148 [s_a.v] w (fun u w' => ∃ y : Sv, u = y.v ∧ Gives X S w [oC (cSl 3 fDPart r) y.v] [] w') := by
 unfold x_laws_toPartS at hx
 refine enter Tryz.func148 rfl Tryz.ntmps148 (by kernel_rfl) rfl ?_
 have hM := (St.enter oL hS).addV a_a_0
 refine wc_sr <| was rfl rfl <| wl_sq <| wc_sr <| wmv rfl rfl <| wv rfl (r_lenC u83 rfl (hM.seeR m0)) <| xgs hx fun _ hx => ?_
 have hk111 : (a.length : Int) = ((a.length : Int).toNat : Int) := by omega
 refine w_ex rfl (x_make (f := fDPart) (k := ((a.length : Int).toNat)) (default : DPart) u57 sz156 (fun _ => rfl) (fun _ => zP (pV _ rfl) (zP (pV _ rfl) (zP (pN _ _) zN))) (by rw [← hk111]; rfl) (by omega) rfl hM ?_); intro s109 w108 hR112 hM
 refine was rfl rfl <| wl_sq <| wc_seq <| wc_sr <| was rfl rfl <| wl_sq <| wc_block <| bs hx fun y116 hx hx117 => ?_
 obtain ⟨m122, hx⟩ := iter_run hx
 refine wc_loop (un fun (m120 : Nat) => un fun (i118 : Int) => fun (l119 : List DPart) => [(0, s_a.v), (3, s109.v), (4, (iv i118))]) (un fun (m120 : Nat) => un fun (i118 : Int) => fun (l119 : List DPart) w' => St ⟨w, X, S⟩ [oC (cSl 3 fDPart l119) s109.v] [rV s_a.v (cSl 3 fDPart a)] w' ∧ iterN _ m120 (i118, l119) = some y116) (fun p => p.1) (m122, 0, List.replicate ((a.length : Int).toNat) (default : DPart)) ⟨rfl, rfl, rfl, trivial⟩ ⟨hM, hx⟩ ?_
 rintro ⟨m120, i118, l119⟩ w123 ⟨hM, hx⟩
 obtain ⟨m124, z125, rfl, hx, hx126⟩ := iterN_step hx
 unfold x_laws_toPartS_f0 x_laws_toPartS_b0 at hx
 try dsimp only at hx
 refine wc_seq <| wc_sr <| wmv rfl rfl <| wmv rfl rfl <| wv rfl (r_lenC u83 rfl (hM.seeR m0)) <| wv rfl (r_lss rfl rfl) <| wl_sq ?_
 refine wcx hx rfl (fun hx => ?_) (fun hx => ?_)
 refine wc_skip <| sq_n <| wc_seq <| wc_block <| wc_region <| wmv rfl rfl <| wmv rfl rfl <| wmv rfl rfl <| wmv rfl rfl <| xgs hx fun hg138 hx => ?_
 have hi137 : i118.toNat < a.length := by omega
 refine wv rfl (r_ixC u83 sz193 rfl rfl (hM.seeR m0) hg138) ?_
 obtain ⟨s140, hM, hc141⟩ := hM.leaf (i := i118.toNat) (j := 2) m0 (fun _ => rfl) hi137 rfl
 refine wv rfl (r_ldC (o := i118.toNat * 3) u193 sz193 rfl (us := [(iv ((el a i118.toNat).kind)), (iv ((el a i118.toNat).n)), s140.v]) rfl (hM.seeR m1) hi137 ⟨(Cs.get (i := i118.toNat) (j := 0) (hM.seeR m1) (fun _ => rfl) hi137 rfl), (Cs.get (i := i118.toNat) (j := 1) (hM.seeR m1) (fun _ => rfl) hi137 rfl), (hc141 _ (Rel.refl _)), trivial⟩) <| bs hx fun r142 h143 hx => w_call rfl rfl (hM.callO (l := []) fun X S oL hS hR hO => ct_laws_toPart _ X S (el a i118.toNat) s140 hS (hR _ m0) oL h143) ?_
 rintro _ w144 ⟨s145, rfl, hM⟩
 dsimp only [List.cons_append, List.nil_append] at hM
 refine xgs hx fun hg149 hx => ?_
 have hi148 : i118.toNat < l119.length := by omega
 refine wv rfl (r_ixC u57 sz156 rfl rfl (hM.seeO m1) hg149) ?_
 replace hM := hM.p1
 refine w_exu (x_stE (f := fDPart) (k := 3) (L := l119) (i := i118.toNat) (j := 0) r142 [cI r142.kind, cI r142.n, cSl 1 fI r142.signs] sz156 (fun _ => rfl) rfl rfl hi148 rfl rfl rfl rfl rfl (fun _ => zP (pV _ rfl) (zP (pV _ rfl) (zO zN))) hM ?_); intro w150 hM
 refine wl_nil <| bk_n <| sq_n <| wc_region <| wmv rfl rfl <| xgs hx fun hg154 hx => wv rfl (r_add rfl rfl hg154) <| was rfl rfl <| wl_nil ?_
 cases hx
 have hM := hM.fewer (rsC m1 rsN)
 replace hM : St ⟨w, X, S⟩ [oC (cSl 3 fDPart (l119.set i118.toNat r142)) s109.v] [rV s_a.v (cSl 3 fDPart a)] _ := hM
 exact lp_end (m124, i118 + 1, l119.set i118.toNat r142) (Nat.lt_succ_self _) ⟨rfl, rfl, rfl, trivial⟩ ⟨hM, hx126⟩
 refine wc_exit <| sq_exit <| lp1_exit ?_
 cases hx
 obtain rfl := oi hx126
 replace hx := hx117
 refine bk_here <| sq_n <| wc_sr <| wmv rfl rfl <| was rfl rfl <| wl_sq <| wc_ret ?_
 obtain rfl := oi hx
 refine fin_ret [s109.v] ⟨rfl, trivial⟩ ?_
 replace hM := hM.t1
 exact ⟨s109, rfl, (hM.fewer rsN).gives⟩

noncomputable def x_laws_toEntry (a : DEntry) : Option DEntry :=
  Option.bind (x_laws_toPartS a.o) fun r25 => some (⟨a.client, a.seq, r25⟩ : DEntry)
theorem ct_laws_toEntry (w : World) (X S : Bs) (a : DEntry) (s_a_2 : Sv) (hS : SX X S w) (a_a_2 : (cSl 3 fDPart a.o).rd S w s_a_2.v) (oL : Sep [] X w) {r : DEntry} (hx : x_laws_toEntry a = some r) :
 Ret Tryz.prog 178 [(.agg #[(iv a.client), (iv a.seq), s_a_2.v])] w (fun u w' => ∃ y : Sv, u = .agg #[(iv r.client), (iv r.seq), y.v] ∧ Gives X S w [oC (cSl 3 fDPart r.o) y.v] [] w') := by
 unfold x_laws_toEntry at hx
 refine enter Tryz.func178 rfl Tryz.ntmps178 (by kernel_rfl) rfl ?_
 have hM := (St.enter oL hS).addV a_a_2
 refine wc_sr ?_
 refine w_ex rfl (x_box rfl hM ?_); intro b37 w36 hR38 hM
 refine w_ex rfl (x_alloc sz158 hM ?_); intro b41 w40 hR42 hM
 refine wl_sq <| wc_sr ?_
 refine w_ex rfl (x_alloc sz158 hM ?_); intro b45 w44 hR46 hM
 refine wl_sq <| wc_sr <| wv rfl (r_fld u191 rfl rfl sz3 rfl) <| wv rfl (r_ldB u3 rfl rfl hM m2 rfl) <| wv rfl (r_fld u158 rfl rfl sz3 rfl) ?_
 refine w_exu (x_stB #[(iv a.client), (iv 0), (.slice none 0 0)] sz3 rfl rfl rfl rfl rfl rfl hM ?_); intro w51 hM
 refine wl_sq <| wc_sr <| wv rfl (r_fld u191 rfl rfl sz3 rfl) <| wv rfl (r_ldB u3 rfl rfl hM m2 rfl) <| wv rfl (r_fld u158 rfl rfl sz3 rfl) ?_
 refine w_exu (x_stB #[(iv a.client), (iv a.seq), (.slice none 0 0)] sz3 rfl rfl rfl rfl rfl rfl hM ?_); intro w56 hM
 refine wl_sq <| wc_sr <| wv rfl (r_fld u191 rfl rfl sz83 rfl) <| wv rfl (r_ldB u83 rfl rfl hM m2 rfl) <| bs hx fun _ h61 hx => w_call rfl rfl (hM.callO (l := []) fun X S oL hS hR hO => ct_laws_toPartS _ X S a.o s_a_2 hS (hR _ m0) oL h61) ?_
 rintro _ w62 ⟨s63, rfl, hM⟩
 dsimp only [List.cons_append, List.nil_append] at hM
 refine wv rfl (r_fld u158 rfl rfl sz57 rfl) ?_
 replace hM := hM.p1
 refine w_exu (x_stB #[(iv a.client), (iv a.seq), s63.v] sz57 rfl rfl rfl rfl rfl rfl hM ?_); intro w66 hM
 refine wl_sq <| wc_sr <| wv rfl (r_ldBS u158 sz158 rfl (us := [(iv a.client), (iv a.seq), s63.v]) rfl hM m0 rfl) ?_
 replace hM := hM.p2
 refine w_exu (x_stB #[(iv a.client), (iv a.seq), s63.v] sz158 rfl rfl rfl rfl rfl rfl hM ?_); intro w69 hM
 refine wl_sq <| wc_ret ?_
 obtain rfl := oi hx
 refine fin_ret [(.agg #[(iv a.client), (iv a.seq), s63.v])] ⟨rv_box u158 sz158 rfl rfl hM m0, trivial⟩ ?_
 replace hM := hM.p2
 replace hM := hM.t1
 exact ⟨s63, rfl, (hM.fewer rsN).gives⟩

noncomputable def x_laws_toEntryS_b0 (a : List DEntry) (i41 : Int) (l42 : List DEntry) : Option (Lr (Int × List DEntry) (List DEntry)) :=
  bif decide (i41 < (a.length : Int)) then (xg (0 ≤ i41 ∧ i41 < (a.length : Int)) <| Option.bind (x_laws_toEntry (el a i41.toNat)) fun r86 => xg (0 ≤ i41 ∧ i41 < (l42.length : Int)) <| xg (inI (i41 + 1)) <| some (Lr.go (i41 + 1, l42.set i41.toNat r86))) else (some (Lr.out l42))
noncomputable def x_laws_toEntryS_f0 (a : List DEntry) (s100 : Int × List DEntry) : Option (Lr (Int × List DEntry) (List DEntry)) := x_laws_toEntryS_b0 a s100.1 s100.2
noncomputable def x_laws_toEntryS (a : List DEntry) : Option (List DEntry) :=
  xg (0 ≤ (a.length : Int) ∧ (a.length : Int) ≤ 1099511627776) <| Option.bind (iter (x_laws_toEntryS_f0 a) (0, List.replicate ((a.length : Int).toNat) (default : DEntry))) fun (y101 : List DEntry) => some y101
theorem ct_laws_toEntryS (w : World) (X S : Bs) (a : List DEntry) (s_a : Sv) (hS : SX X S w) (a_a_0 : (cSl 3 fDEntry a).rd S w s_a.v) (oL : Sep [] X w) {r : List DEntry} (hx : x_laws_toEntryS a = some r) :
 Ret Tryz.prog 145 [s_a.v] w (fun u w' => ∃ y : Sv, u = y.v ∧ Gives X S w [oC (cSl 3 fDEntry r) y.v] [] w') := by
 unfold x_laws_toEntryS at hx
 refine enter Tryz.func145 rfl Tryz.ntmps145 (by kernel_rfl) rfl ?_
 have hM := (St.enter oL hS).addV a_a_0
 refine wc_sr <| was rfl rfl <| wl_sq <| wc_sr <| wmv rfl rfl <| wv rfl (r_lenC u86 rfl (hM.seeR m0)) <| xgs hx fun _ hx => ?_
 have hk111 : (a.length : Int) = ((a.length : Int).toNat : Int) := by omega
 refine w_ex rfl (x_make (f := fDEntry) (k := ((a.length : Int).toNat)) (default : DEntry) u60 sz158 (fun _ => rfl) (fun _ => zP (pV _ rfl) (zP (pV _ rfl) (zP (pN _ _) zN))) (by rw [← hk111]; rfl) (by omega) rfl hM ?_); intro s109 w108 hR112 hM
 refine was rfl rfl <| wl_sq <| wc_seq <| wc_sr <| was rfl rfl <| wl_sq <| wc_block <| bs hx fun y116 hx hx117 => ?_
 obtain ⟨m122, hx⟩ := iter_run hx
 refine wc_loop (un fun (m120 : Nat) => un fun (i118 : Int) => fun (l119 : List DEntry) => [(0, s_a.v), (3, s109.v), (4, (iv i118))]) (un fun (m120 : Nat) => un fun (i118 : Int) => fun (l119 : List DEntry) w' => St ⟨w, X, S⟩ [oC (cSl 3 fDEntry l119) s109.v] [rV s_a.v (cSl 3 fDEntry a)] w' ∧ iterN _ m120 (i118, l119) = some y116) (fun p => p.1) (m122, 0, List.replicate ((a.length : Int).toNat) (default : DEntry)) ⟨rfl, rfl, rfl, trivial⟩ ⟨hM, hx⟩ ?_
 rintro ⟨m120, i118, l119⟩ w123 ⟨hM, hx⟩
 obtain ⟨m124, z125, rfl, hx, hx126⟩ := iterN_step hx
 unfold x_laws_toEntryS_f0 x_laws_toEntryS_b0 at hx
 try dsimp only at hx
 refine wc_seq <| wc_sr <| wmv rfl rfl <| wmv rfl rfl <| wv rfl (r_lenC u86 rfl (hM.seeR m0)) <| wv rfl (r_lss rfl rfl) <| wl_sq ?_
 refine wcx hx rfl (fun hx => ?_) (fun hx => ?_)
 refine wc_skip <| sq_n <| wc_seq <| wc_block <| wc_region <| wmv rfl rfl <| wmv rfl rfl <| wmv rfl rfl <| wmv rfl rfl <| xgs hx fun hg138 hx => ?_
 have hi137 : i118.toNat < a.length := by omega
 refine wv rfl (r_ixC u86 sz191 rfl rfl (hM.seeR m0) hg138) ?_
 obtain ⟨s140, hM, hc141⟩ := hM.leaf (i := i118.toNat) (j := 2) m0 (fun _ => rfl) hi137 rfl
 refine wv rfl (r_ldC (o := i118.toNat * 3) u191 sz191 rfl (us := [(iv ((el a i118.toNat).client)), (iv ((el a i118.toNat).seq)), s140.v]) rfl (hM.seeR m1) hi137 ⟨(Cs.get (i := i118.toNat) (j := 0) (hM.seeR m1) (fun _ => rfl) hi137 rfl), (Cs.get (i := i118.toNat) (j := 1) (hM.seeR m1) (fun _ => rfl) hi137 rfl), (hc141 _ (Rel.refl _)), trivial⟩) <| bs hx fun r142 h143 hx => w_call rfl rfl (hM.callO (l := []) fun X S oL hS hR hO => ct_laws_toEntry _ X S (el a i118.toNat) s140 hS (hR _ m0) oL h143) ?_
 rintro _ w144 ⟨s145, rfl, hM⟩
 dsimp only [List.cons_append, List.nil_append] at hM
 refine xgs hx fun hg149 hx => ?_
 have hi148 : i118.toNat < l119.length := by omega
 refine wv rfl (r_ixC u60 sz158 rfl rfl (hM.seeO m1) hg149) ?_
 replace hM := hM.p1
 refine w_exu (x_stE (f := fDEntry) (k := 3) (L := l119) (i := i118.toNat) (j := 0) r142 [cI r142.client, cI r142.seq, cSl 3 fDPart r142.o] sz158 (fun _ => rfl) rfl rfl hi148 rfl rfl rfl rfl rfl (fun _ => zP (pV _ rfl) (zP (pV _ rfl) (zO zN))) hM ?_); intro w150 hM
 refine wl_nil <| bk_n <| sq_n <| wc_region <| wmv rfl rfl <| xgs hx fun hg154 hx => wv rfl (r_add rfl rfl hg154) <| was rfl rfl <| wl_nil ?_
 cases hx
 have hM := hM.fewer (rsC m1 rsN)
 replace hM : St ⟨w, X, S⟩ [oC (cSl 3 fDEntry (l119.set i118.toNat r142)) s109.v] [rV s_a.v (cSl 3 fDEntry a)] _ := hM
 exact lp_end (m124, i118 + 1, l119.set i118.toNat r142) (Nat.lt_succ_self _) ⟨rfl, rfl, rfl, trivial⟩ ⟨hM, hx126⟩
 refine wc_exit <| sq_exit <| lp1_exit ?_
 cases hx
 obtain rfl := oi hx126
 replace hx := hx117
 refine bk_here <| sq_n <| wc_sr <| wmv rfl rfl <| was rfl rfl <| wl_sq <| wc_ret ?_
 obtain rfl := oi hx
 refine fin_ret [s109.v] ⟨rfl, trivial⟩ ?_
 replace hM := hM.t1
 exact ⟨s109, rfl, (hM.fewer rsN).gives⟩

noncomputable def x_laws_toSeen (a : DSeen) : Option DSeen :=
  some a
theorem ct_laws_toSeen (w : World) (X S : Bs) (a : DSeen) (hS : SX X S w)  (oL : Sep [] X w) {r : DSeen} (hx : x_laws_toSeen a = some r) :
 Ret Tryz.prog 179 [(.agg #[(iv a.client), (iv a.seq), (iv a.rev)])] w (KV X S w (.agg #[(iv r.client), (iv r.seq), (iv r.rev)])) := by
 unfold x_laws_toSeen at hx
 refine enter Tryz.func179 rfl Tryz.ntmps179 (by kernel_rfl) rfl ?_
 have hM := St.enter oL hS
 refine wc_sr ?_
 refine w_ex rfl (x_box rfl hM ?_); intro b32 w31 hR33 hM
 refine w_ex rfl (x_alloc sz168 hM ?_); intro b36 w35 hR37 hM
 refine wl_sq <| wc_sr ?_
 refine w_ex rfl (x_alloc sz168 hM ?_); intro b40 w39 hR41 hM
 refine wl_sq <| wc_sr <| wv rfl (r_fld u197 rfl rfl sz3 rfl) <| wv rfl (r_ldB u3 rfl rfl hM m2 rfl) <| wv rfl (r_fld u168 rfl rfl sz3 rfl) ?_
 refine w_exu (x_stB #[(iv a.client), (iv 0), (iv 0)] sz3 rfl rfl rfl rfl rfl rfl hM ?_); intro w46 hM
 refine wl_sq <| wc_sr <| wv rfl (r_fld u197 rfl rfl sz3 rfl) <| wv rfl (r_ldB u3 rfl rfl hM m2 rfl) <| wv rfl (r_fld u168 rfl rfl sz3 rfl) ?_
 refine w_exu (x_stB #[(iv a.client), (iv a.seq), (iv 0)] sz3 rfl rfl rfl rfl rfl rfl hM ?_); intro w51 hM
 refine wl_sq <| wc_sr <| wv rfl (r_fld u197 rfl rfl sz3 rfl) <| wv rfl (r_ldB u3 rfl rfl hM m2 rfl) <| wv rfl (r_fld u168 rfl rfl sz3 rfl) ?_
 refine w_exu (x_stB #[(iv a.client), (iv a.seq), (iv a.rev)] sz3 rfl rfl rfl rfl rfl rfl hM ?_); intro w56 hM
 refine wl_sq <| wc_sr <| wv rfl (r_ldBS u168 sz168 rfl (us := [(iv a.client), (iv a.seq), (iv a.rev)]) rfl hM m0 rfl) ?_
 replace hM := hM.p1
 refine w_exu (x_stB #[(iv a.client), (iv a.seq), (iv a.rev)] sz168 rfl rfl rfl rfl rfl rfl hM ?_); intro w59 hM
 refine wl_sq <| wc_ret ?_
 obtain rfl := oi hx
 exact fin_u [(.agg #[(iv a.client), (iv a.seq), (iv a.rev)])] hM ⟨rv_box u168 sz168 rfl rfl hM m0, trivial⟩ rfl

noncomputable def x_laws_toSeenS_b0 (a : List DSeen) (i37 : Int) (l38 : List DSeen) : Option (Lr (Int × List DSeen) (List DSeen)) :=
  bif decide (i37 < (a.length : Int)) then (xg (0 ≤ i37 ∧ i37 < (a.length : Int)) <| Option.bind (x_laws_toSeen (el a i37.toNat)) fun r76 => xg (0 ≤ i37 ∧ i37 < (l38.length : Int)) <| xg (inI (i37 + 1)) <| some (Lr.go (i37 + 1, l38.set i37.toNat r76))) else (some (Lr.out l38))
noncomputable def x_laws_toSeenS_f0 (a : List DSeen) (s88 : Int × List DSeen) : Option (Lr (Int × List DSeen) (List DSeen)) := x_laws_toSeenS_b0 a s88.1 s88.2
noncomputable def x_laws_toSeenS (a : List DSeen) : Option (List DSeen) :=
  xg (0 ≤ (a.length : Int) ∧ (a.length : Int) ≤ 1099511627776) <| Option.bind (iter (x_laws_toSeenS_f0 a) (0, List.replicate ((a.length : Int).toNat) (default : DSeen))) fun (y89 : List DSeen) => some y89
theorem ct_laws_toSeenS (w : World) (X S : Bs) (a : List DSeen) (s_a : Sv) (hS : SX X S w) (a_a_0 : (cSl 3 fDSeen a).rd S w s_a.v) (oL : Sep [] X w) {r : List DSeen} (hx : x_laws_toSeenS a = some r) :
 Ret Tryz.prog 146 [s_a.v] w (fun u w' => ∃ y : Sv, u = y.v ∧ Gives X S w [oC (cSl 3 fDSeen r) y.v] [] w') := by
 unfold x_laws_toSeenS at hx
 refine enter Tryz.func146 rfl Tryz.ntmps146 (by kernel_rfl) rfl ?_
 have hM := (St.enter oL hS).addV a_a_0
 refine wc_sr <| was rfl rfl <| wl_sq <| wc_sr <| wmv rfl rfl <| wv rfl (r_lenC u119 rfl (hM.seeR m0)) <| xgs hx fun _ hx => ?_
 have hk99 : (a.length : Int) = ((a.length : Int).toNat : Int) := by omega
 refine w_ex rfl (x_make (f := fDSeen) (k := ((a.length : Int).toNat)) (default : DSeen) u130 sz168 (fun _ => rfl) (fun _ => zP (pV _ rfl) (zP (pV _ rfl) (zP (pV _ rfl) zN))) (by rw [← hk99]; rfl) (by omega) rfl hM ?_); intro s97 w96 hR100 hM
 refine was rfl rfl <| wl_sq <| wc_seq <| wc_sr <| was rfl rfl <| wl_sq <| wc_block <| bs hx fun y104 hx hx105 => ?_
 obtain ⟨m110, hx⟩ := iter_run hx
 refine wc_loop (un fun (m108 : Nat) => un fun (i106 : Int) => fun (l107 : List DSeen) => [(0, s_a.v), (3, s97.v), (4, (iv i106))]) (un fun (m108 : Nat) => un fun (i106 : Int) => fun (l107 : List DSeen) w' => St ⟨w, X, S⟩ [oC (cSl 3 fDSeen l107) s97.v] [rV s_a.v (cSl 3 fDSeen a)] w' ∧ iterN _ m108 (i106, l107) = some y104) (fun p => p.1) (m110, 0, List.replicate ((a.length : Int).toNat) (default : DSeen)) ⟨rfl, rfl, rfl, trivial⟩ ⟨hM, hx⟩ ?_
 rintro ⟨m108, i106, l107⟩ w111 ⟨hM, hx⟩
 obtain ⟨m112, z113, rfl, hx, hx114⟩ := iterN_step hx
 unfold x_laws_toSeenS_f0 x_laws_toSeenS_b0 at hx
 try dsimp only at hx
 refine wc_seq <| wc_sr <| wmv rfl rfl <| wmv rfl rfl <| wv rfl (r_lenC u119 rfl (hM.seeR m0)) <| wv rfl (r_lss rfl rfl) <| wl_sq ?_
 refine wcx hx rfl (fun hx => ?_) (fun hx => ?_)
 refine wc_skip <| sq_n <| wc_seq <| wc_block <| wc_region <| wmv rfl rfl <| wmv rfl rfl <| wmv rfl rfl <| wmv rfl rfl <| xgs hx fun hg126 hx => ?_
 have hi125 : i106.toNat < a.length := by omega
 refine wv rfl (r_ixC u119 sz197 rfl rfl (hM.seeR m0) hg126) <| wv rfl (r_ldC (o := i106.toNat * 3) u197 sz197 rfl (us := [(iv ((el a i106.toNat).client)), (iv ((el a i106.toNat).seq)), (iv ((el a i106.toNat).rev))]) rfl (hM.seeR m0) hi125 ⟨(Cs.get (i := i106.toNat) (j := 0) (hM.seeR m0) (fun _ => rfl) hi125 rfl), (Cs.get (i := i106.toNat) (j := 1) (hM.seeR m0) (fun _ => rfl) hi125 rfl), (Cs.get (i := i106.toNat) (j := 2) (hM.seeR m0) (fun _ => rfl) hi125 rfl), trivial⟩) <| bs hx fun r128 h129 hx => w_cv hM rfl rfl (fun X S oL hS hR hO => ct_laws_toSeen _ X S (el a i106.toNat) hS  oL h129) fun _ hM => xgs hx fun hg133 hx => ?_
 have hi132 : i106.toNat < l107.length := by omega
 refine wv rfl (r_ixC u130 sz168 rfl rfl (hM.seeO m0) hg133) ?_
 refine w_exu (x_stE (f := fDSeen) (k := 3) (L := l107) (i := i106.toNat) (j := 0) r128 [cI r128.client, cI r128.seq, cI r128.rev] sz168 (fun _ => rfl) rfl rfl hi132 rfl rfl rfl rfl rfl (fun _ => zP (pV _ rfl) (zP (pV _ rfl) (zP (pV _ rfl) zN))) hM ?_); intro w134 hM
 refine wl_nil <| bk_n <| sq_n <| wc_region <| wmv rfl rfl <| xgs hx fun hg138 hx => wv rfl (r_add rfl rfl hg138) <| was rfl rfl <| wl_nil ?_
 cases hx
 exact lp_end (m112, i106 + 1, l107.set i106.toNat r128) (Nat.lt_succ_self _) ⟨rfl, rfl, rfl, trivial⟩ ⟨hM, hx114⟩
 refine wc_exit <| sq_exit <| lp1_exit ?_
 cases hx
 obtain rfl := oi hx114
 replace hx := hx105
 refine bk_here <| sq_n <| wc_sr <| wmv rfl rfl <| was rfl rfl <| wl_sq <| wc_ret ?_
 obtain rfl := oi hx
 refine fin_ret [s97.v] ⟨rfl, trivial⟩ ?_
 replace hM := hM.t1
 exact ⟨s97, rfl, (hM.fewer rsN).gives⟩

noncomputable def x_laws_toDoc (a : DDoc) : Option DDoc :=
  Option.bind (x_laws_toIntS a.text) fun r25 => Option.bind (x_laws_toEntryS a.list) fun r35 => Option.bind (x_laws_toSeenS a.seen) fun r45 => some (⟨a.name, a.from_, r25, r35, r45⟩ : DDoc)
theorem ct_laws_toDoc (w : World) (X S : Bs) (a : DDoc) (s_a_2 : Sv) (s_a_3 : Sv) (s_a_4 : Sv) (hS : SX X S w) (a_a_2 : (cSl 1 fI a.text).rd S w s_a_2.v) (a_a_3 : (cSl 3 fDEntry a.list).rd S w s_a_3.v) (a_a_4 : (cSl 3 fDSeen a.seen).rd S w s_a_4.v) (oL : Sep [] X w) {r : DDoc} (hx : x_laws_toDoc a = some r) :
 Ret Tryz.prog 103 [(.agg #[(.string a.name), (iv a.from_), s_a_2.v, s_a_3.v, s_a_4.v])] w (fun u w' => ∃ y : Sv × Sv × Sv, u = .agg #[(.string r.name), (iv r.from_), y.1.v, y.2.1.v, y.2.2.v] ∧ Gives X S w [oC (cSl 1 fI r.text) y.1.v, oC (cSl 3 fDEntry r.list) y.2.1.v, oC (cSl 3 fDSeen r.seen) y.2.2.v] [] w') := by
 unfold x_laws_toDoc at hx
 refine enter Tryz.func103 rfl Tryz.ntmps103 (by kernel_rfl) rfl ?_
 have hM := (((St.enter oL hS).addV a_a_2).addV a_a_3).addV a_a_4
 refine wc_sr ?_
 refine w_ex rfl (x_box rfl hM ?_); intro b57 w56 hR58 hM
 refine w_ex rfl (x_alloc sz132 hM ?_); intro b61 w60 hR62 hM
 refine wl_sq <| wc_sr ?_
 refine w_ex rfl (x_alloc sz132 hM ?_); intro b65 w64 hR66 hM
 refine wl_sq <| wc_sr <| wv rfl (r_fld u121 rfl rfl sz9 rfl) <| wv rfl (r_ldB u9 rfl rfl hM m2 rfl) <| wv rfl (r_fld u132 rfl rfl sz9 rfl) ?_
 refine w_exu (x_stB #[(.string a.name), (iv 0), (.slice none 0 0), (.slice none 0 0), (.slice none 0 0)] sz9 rfl rfl rfl rfl rfl rfl hM ?_); intro w71 hM
 refine wl_sq <| wc_sr <| wv rfl (r_fld u121 rfl rfl sz3 rfl) <| wv rfl (r_ldB u3 rfl rfl hM m2 rfl) <| wv rfl (r_fld u132 rfl rfl sz3 rfl) ?_
 refine w_exu (x_stB #[(.string a.name), (iv a.from_), (.slice none 0 0), (.slice none 0 0), (.slice none 0 0)] sz3 rfl rfl rfl rfl rfl rfl hM ?_); intro w76 hM
 refine wl_sq <| wc_sr <| wv rfl (r_fld u121 rfl rfl sz26 rfl) <| wv rfl (r_ldB u26 rfl rfl hM m2 rfl) <| bs hx fun _ h81 hx => w_call rfl rfl (hM.callO (l := []) fun X S oL hS hR hO => ct_laws_toIntS _ X S a.text s_a_2 hS (hR _ m2) oL h81) ?_
 rintro _ w82 ⟨s83, rfl, hM⟩
 dsimp only [List.cons_append, List.nil_append] at hM
 refine wv rfl (r_fld u132 rfl rfl sz26 rfl) ?_
 replace hM := hM.p1
 refine w_exu (x_stB #[(.string a.name), (iv a.from_), s83.v, (.slice none 0 0), (.slice none 0 0)] sz26 rfl rfl rfl rfl rfl rfl hM ?_); intro w86 hM
 refine wl_sq <| wc_sr <| wv rfl (r_fld u121 rfl rfl sz86 rfl) <| wv rfl (r_ldB u86 rfl rfl hM m3 rfl) <| bs hx fun _ h91 hx => w_call rfl rfl (hM.callO (l := []) fun X S oL hS hR hO => ct_laws_toEntryS _ X S a.list s_a_3 hS (hR _ m1) oL h91) ?_
 rintro _ w92 ⟨s93, rfl, hM⟩
 dsimp only [List.cons_append, List.nil_append] at hM
 refine wv rfl (r_fld u132 rfl rfl sz60 rfl) ?_
 replace hM := hM.p1
 refine w_exu (x_stB #[(.string a.name), (iv a.from_), s83.v, s93.v, (.slice none 0 0)] sz60 rfl rfl rfl rfl rfl rfl hM ?_); intro w96 hM
 refine wl_sq <| wc_sr <| wv rfl (r_fld u121 rfl rfl sz119 rfl) <| wv rfl (r_ldB u119 rfl rfl hM m4 rfl) <| bs hx fun _ h101 hx => w_call rfl rfl (hM.callO (l := []) fun X S oL hS hR hO => ct_laws_toSeenS _ X S a.seen s_a_4 hS (hR _ m0) oL h101) ?_
 rintro _ w102 ⟨s103, rfl, hM⟩
 dsimp only [List.cons_append, List.nil_append] at hM
 refine wv rfl (r_fld u132 rfl rfl sz130 rfl) ?_
 replace hM := hM.p1
 refine w_exu (x_stB #[(.string a.name), (iv a.from_), s83.v, s93.v, s103.v] sz130 rfl rfl rfl rfl rfl rfl hM ?_); intro w106 hM
 refine wl_sq <| wc_sr <| wv rfl (r_ldBS u132 sz132 rfl (us := [(.string a.name), (iv a.from_), s83.v, s93.v, s103.v]) rfl hM m0 rfl) ?_
 replace hM := hM.p4
 refine w_exu (x_stB #[(.string a.name), (iv a.from_), s83.v, s93.v, s103.v] sz132 rfl rfl rfl rfl rfl rfl hM ?_); intro w109 hM
 refine wl_sq <| wc_ret ?_
 obtain rfl := oi hx
 refine fin_ret [(.agg #[(.string a.name), (iv a.from_), s83.v, s93.v, s103.v])] ⟨rv_box u132 sz132 rfl rfl hM m0, trivial⟩ ?_
 replace hM := hM.p2.p3.p4
 replace hM := hM.t3
 exact ⟨(s83, s93, s103), rfl, (hM.fewer rsN).gives⟩

noncomputable def x_laws_toDocS_b0 (a : List DDoc) (i49 : Int) (l50 : List DDoc) : Option (Lr (Int × List DDoc) (List DDoc)) :=
  bif decide (i49 < (a.length : Int)) then (xg (0 ≤ i49 ∧ i49 < (a.length : Int)) <| Option.bind (x_laws_toDoc (el a i49.toNat)) fun r106 => xg (0 ≤ i49 ∧ i49 < (l50.length : Int)) <| xg (inI (i49 + 1)) <| some (Lr.go (i49 + 1, l50.set i49.toNat r106))) else (some (Lr.out l50))
noncomputable def x_laws_toDocS_f0 (a : List DDoc) (s124 : Int × List DDoc) : Option (Lr (Int × List DDoc) (List DDoc)) := x_laws_toDocS_b0 a s124.1 s124.2
noncomputable def x_laws_toDocS (a : List DDoc) : Option (List DDoc) :=
  xg (0 ≤ (a.length : Int) ∧ (a.length : Int) ≤ 1099511627776) <| Option.bind (iter (x_laws_toDocS_f0 a) (0, List.replicate ((a.length : Int).toNat) (default : DDoc))) fun (y125 : List DDoc) => some y125
theorem ct_laws_toDocS (w : World) (X S : Bs) (a : List DDoc) (s_a : Sv) (hS : SX X S w) (a_a_0 : (cSl 5 fDDoc a).rd S w s_a.v) (oL : Sep [] X w) {r : List DDoc} (hx : x_laws_toDocS a = some r) :
 Ret Tryz.prog 54 [s_a.v] w (fun u w' => ∃ y : Sv, u = y.v ∧ Gives X S w [oC (cSl 5 fDDoc r) y.v] [] w') := by
 unfold x_laws_toDocS at hx
 refine enter Tryz.func54 rfl Tryz.ntmps54 (by kernel_rfl) rfl ?_
 have hM := (St.enter oL hS).addV a_a_0
 refine wc_sr <| was rfl rfl <| wl_sq <| wc_sr <| wmv rfl rfl <| wv rfl (r_lenC u22 rfl (hM.seeR m0)) <| xgs hx fun _ hx => ?_
 have hk135 : (a.length : Int) = ((a.length : Int).toNat : Int) := by omega
 refine w_ex rfl (x_make (f := fDDoc) (k := ((a.length : Int).toNat)) (default : DDoc) u33 sz132 (fun _ => rfl) (fun _ => zP (pV _ rfl) (zP (pV _ rfl) (zP (pN _ _) (zP (pN _ _) (zP (pN _ _) zN))))) (by rw [← hk135]; rfl) (by omega) rfl hM ?_); intro s133 w132 hR136 hM
 refine was rfl rfl <| wl_sq <| wc_seq <| wc_sr <| was rfl rfl <| wl_sq <| wc_block <| bs hx fun y140 hx hx141 => ?_
 obtain ⟨m146, hx⟩ := iter_run hx
 refine wc_loop (un fun (m144 : Nat) => un fun (i142 : Int) => fun (l143 : List DDoc) => [(0, s_a.v), (3, s133.v), (4, (iv i142))]) (un fun (m144 : Nat) => un fun (i142 : Int) => fun (l143 : List DDoc) w' => St ⟨w, X, S⟩ [oC (cSl 5 fDDoc l143) s133.v] [rV s_a.v (cSl 5 fDDoc a)] w' ∧ iterN _ m144 (i142, l143) = some y140) (fun p => p.1) (m146, 0, List.replicate ((a.length : Int).toNat) (default : DDoc)) ⟨rfl, rfl, rfl, trivial⟩ ⟨hM, hx⟩ ?_
 rintro ⟨m144, i142, l143⟩ w147 ⟨hM, hx⟩
 obtain ⟨m148, z149, rfl, hx, hx150⟩ := iterN_step hx
 unfold x_laws_toDocS_f0 x_laws_toDocS_b0 at hx
 try dsimp only at hx
 refine wc_seq <| wc_sr <| wmv rfl rfl <| wmv rfl rfl <| wv rfl (r_lenC u22 rfl (hM.seeR m0)) <| wv rfl (r_lss rfl rfl) <| wl_sq ?_
 refine wcx hx rfl (fun hx => ?_) (fun hx => ?_)
 refine wc_skip <| sq_n <| wc_seq <| wc_block <| wc_region <| wmv rfl rfl <| wmv rfl rfl <| wmv rfl rfl <| wmv rfl rfl <| xgs hx fun hg162 hx => ?_
 have hi161 : i142.toNat < a.length := by omega
 refine wv rfl (r_ixC u22 sz121 rfl rfl (hM.seeR m0) hg162) ?_
 obtain ⟨s164, hM, hc165⟩ := hM.leaf (i := i142.toNat) (j := 2) m0 (fun _ => rfl) hi161 rfl
 obtain ⟨s166, hM, hc167⟩ := hM.leaf (i := i142.toNat) (j := 3) m1 (fun _ => rfl) hi161 rfl
 obtain ⟨s168, hM, hc169⟩ := hM.leaf (i := i142.toNat) (j := 4) m2 (fun _ => rfl) hi161 rfl
 refine wv rfl (r_ldC (o := i142.toNat * 5) u121 sz121 rfl (us := [(.string ((el a i142.toNat).name)), (iv ((el a i142.toNat).from_)), s164.v, s166.v, s168.v]) rfl (hM.seeR m3) hi161 ⟨(Cs.get (i := i142.toNat) (j := 0) (hM.seeR m3) (fun _ => rfl) hi161 rfl), (Cs.get (i := i142.toNat) (j := 1) (hM.seeR m3) (fun _ => rfl) hi161 rfl), (hc165 _ (Rel.refl _)), (hc167 _ (Rel.refl _)), (hc169 _ (Rel.refl _)), trivial⟩) <| bs hx fun r170 h171 hx => w_call rfl rfl (hM.callO (l := []) fun X S oL hS hR hO => ct_laws_toDoc _ X S (el a i142.toNat) s164 s166 s168 hS (hR _ m2) (hR _ m1) (hR _ m0) oL h171) ?_
 rintro _ w172 ⟨⟨s173, s174, s175⟩, rfl, hM⟩
 dsimp only [List.cons_append, List.nil_append] at hM
 refine xgs hx fun hg181 hx => ?_
 have hi180 : i142.toNat < l143.length := by omega
 refine wv rfl (r_ixC u33 sz132 rfl rfl (hM.seeO m3) hg181) ?_
 replace hM := hM.p2.p2.p2.p3
 refine w_exu (x_stE (f := fDDoc) (k := 5) (L := l143) (i := i142.toNat) (j := 0) r170 [cT r170.name, cI r170.from_, cSl 1 fI r170.text, cSl 3 fDEntry r170.list, cSl 3 fDSeen r170.seen] sz132 (fun _ => rfl) rfl rfl hi180 rfl rfl rfl rfl rfl (fun _ => zP (pV _ rfl) (zP (pV _ rfl) (zO (zO (zO zN))))) hM ?_); intro w182 hM
 refine wl_nil <| bk_n <| sq_n <| wc_region <| wmv rfl rfl <| xgs hx fun hg186 hx => wv rfl (r_add rfl rfl hg186) <| was rfl rfl <| wl_nil ?_
 cases hx
 have hM := hM.fewer (rsC m3 rsN)
 replace hM : St ⟨w, X, S⟩ [oC (cSl 5 fDDoc (l143.set i142.toNat r170)) s133.v] [rV s_a.v (cSl 5 fDDoc a)] _ := hM
 exact lp_end (m148, i142 + 1, l143.set i142.toNat r170) (Nat.lt_succ_self _) ⟨rfl, rfl, rfl, trivial⟩ ⟨hM, hx150⟩
 refine wc_exit <| sq_exit <| lp1_exit ?_
 cases hx
 obtain rfl := oi hx150
 replace hx := hx141
 refine bk_here <| sq_n <| wc_sr <| wmv rfl rfl <| was rfl rfl <| wl_sq <| wc_ret ?_
 obtain rfl := oi hx
 refine fin_ret [s133.v] ⟨rfl, trivial⟩ ?_
 replace hM := hM.t1
 exact ⟨s133, rfl, (hM.fewer rsN).gives⟩

noncomputable def x_laws_toRing (a : DRing) : Option DRing :=
  Option.bind (x_laws_toEntryS a.list) fun r30 => some (⟨a.cap, a.next, a.out, r30⟩ : DRing)
theorem ct_laws_toRing (w : World) (X S : Bs) (a : DRing) (s_a_3 : Sv) (hS : SX X S w) (a_a_3 : (cSl 3 fDEntry a.list).rd S w s_a_3.v) (oL : Sep [] X w) {r : DRing} (hx : x_laws_toRing a = some r) :
 Ret Tryz.prog 147 [(.agg #[(iv a.cap), (iv a.next), (bv a.out), s_a_3.v])] w (fun u w' => ∃ y : Sv, u = .agg #[(iv r.cap), (iv r.next), (bv r.out), y.v] ∧ Gives X S w [oC (cSl 3 fDEntry r.list) y.v] [] w') := by
 unfold x_laws_toRing at hx
 refine enter Tryz.func147 rfl Tryz.ntmps147 (by kernel_rfl) rfl ?_
 have hM := (St.enter oL hS).addV a_a_3
 refine wc_sr ?_
 refine w_ex rfl (x_box rfl hM ?_); intro b42 w41 hR43 hM
 refine w_ex rfl (x_alloc sz135 hM ?_); intro b46 w45 hR47 hM
 refine wl_sq <| wc_sr ?_
 refine w_ex rfl (x_alloc sz135 hM ?_); intro b50 w49 hR51 hM
 refine wl_sq <| wc_sr <| wv rfl (r_fld u124 rfl rfl sz3 rfl) <| wv rfl (r_ldB u3 rfl rfl hM m2 rfl) <| wv rfl (r_fld u135 rfl rfl sz3 rfl) ?_
 refine w_exu (x_stB #[(iv a.cap), (iv 0), (bv false), (.slice none 0 0)] sz3 rfl rfl rfl rfl rfl rfl hM ?_); intro w56 hM
 refine wl_sq <| wc_sr <| wv rfl (r_fld u124 rfl rfl sz3 rfl) <| wv rfl (r_ldB u3 rfl rfl hM m2 rfl) <| wv rfl (r_fld u135 rfl rfl sz3 rfl) ?_
 refine w_exu (x_stB #[(iv a.cap), (iv a.next), (bv false), (.slice none 0 0)] sz3 rfl rfl rfl rfl rfl rfl hM ?_); intro w61 hM
 refine wl_sq <| wc_sr <| wv rfl (r_fld u124 rfl rfl sz4 rfl) <| wv rfl (r_ldB u4 rfl rfl hM m2 rfl) <| wv rfl (r_fld u135 rfl rfl sz4 rfl) ?_
 refine w_exu (x_stB #[(iv a.cap), (iv a.next), (bv a.out), (.slice none 0 0)] sz4 rfl rfl rfl rfl rfl rfl hM ?_); intro w66 hM
 refine wl_sq <| wc_sr <| wv rfl (r_fld u124 rfl rfl sz86 rfl) <| wv rfl (r_ldB u86 rfl rfl hM m2 rfl) <| bs hx fun _ h71 hx => w_call rfl rfl (hM.callO (l := []) fun X S oL hS hR hO => ct_laws_toEntryS _ X S a.list s_a_3 hS (hR _ m0) oL h71) ?_
 rintro _ w72 ⟨s73, rfl, hM⟩
 dsimp only [List.cons_append, List.nil_append] at hM
 refine wv rfl (r_fld u135 rfl rfl sz60 rfl) ?_
 replace hM := hM.p1
 refine w_exu (x_stB #[(iv a.cap), (iv a.next), (bv a.out), s73.v] sz60 rfl rfl rfl rfl rfl rfl hM ?_); intro w76 hM
 refine wl_sq <| wc_sr <| wv rfl (r_ldBS u135 sz135 rfl (us := [(iv a.cap), (iv a.next), (bv a.out), s73.v]) rfl hM m0 rfl) ?_
 replace hM := hM.p2
 refine w_exu (x_stB #[(iv a.cap), (iv a.next), (bv a.out), s73.v] sz135 rfl rfl rfl rfl rfl rfl hM ?_); intro w79 hM
 refine wl_sq <| wc_ret ?_
 obtain rfl := oi hx
 refine fin_ret [(.agg #[(iv a.cap), (iv a.next), (bv a.out), s73.v])] ⟨rv_box u135 sz135 rfl rfl hM m0, trivial⟩ ?_
 replace hM := hM.p2
 replace hM := hM.t1
 exact ⟨s73, rfl, (hM.fewer rsN).gives⟩

noncomputable def x_laws_toSub (a : DSub) : Option DSub :=
  Option.bind (x_laws_toRing a.r) fun r25 => some (⟨a.id, a.doc, r25⟩ : DSub)
theorem ct_laws_toSub (w : World) (X S : Bs) (a : DSub) (s_a_5 : Sv) (hS : SX X S w) (a_a_5 : (cSl 3 fDEntry a.r.list).rd S w s_a_5.v) (oL : Sep [] X w) {r : DSub} (hx : x_laws_toSub a = some r) :
 Ret Tryz.prog 104 [(.agg #[(iv a.id), (.string a.doc), (iv a.r.cap), (iv a.r.next), (bv a.r.out), s_a_5.v])] w (fun u w' => ∃ y : Sv, u = .agg #[(iv r.id), (.string r.doc), (iv r.r.cap), (iv r.r.next), (bv r.r.out), y.v] ∧ Gives X S w [oC (cSl 3 fDEntry r.r.list) y.v] [] w') := by
 unfold x_laws_toSub at hx
 refine enter Tryz.func104 rfl Tryz.ntmps104 (by kernel_rfl) rfl ?_
 have hM := (St.enter oL hS).addV a_a_5
 refine wc_sr ?_
 refine w_ex rfl (x_box rfl hM ?_); intro b37 w36 hR38 hM
 refine w_ex rfl (x_alloc sz137 hM ?_); intro b41 w40 hR42 hM
 refine wl_sq <| wc_sr ?_
 refine w_ex rfl (x_alloc sz137 hM ?_); intro b45 w44 hR46 hM
 refine wl_sq <| wc_sr <| wv rfl (r_fld u126 rfl rfl sz3 rfl) <| wv rfl (r_ldB u3 rfl rfl hM m2 rfl) <| wv rfl (r_fld u137 rfl rfl sz3 rfl) ?_
 refine w_exu (x_stB #[(iv a.id), (.string ByteArray.empty), (iv 0), (iv 0), (bv false), (.slice none 0 0)] sz3 rfl rfl rfl rfl rfl rfl hM ?_); intro w51 hM
 refine wl_sq <| wc_sr <| wv rfl (r_fld u126 rfl rfl sz9 rfl) <| wv rfl (r_ldB u9 rfl rfl hM m2 rfl) <| wv rfl (r_fld u137 rfl rfl sz9 rfl) ?_
 refine w_exu (x_stB #[(iv a.id), (.string a.doc), (iv 0), (iv 0), (bv false), (.slice none 0 0)] sz9 rfl rfl rfl rfl rfl rfl hM ?_); intro w56 hM
 refine wl_sq <| wc_sr <| wv rfl (r_fld u126 rfl rfl sz124 rfl) <| wv rfl (r_ldBS u124 sz124 rfl (us := [(iv a.r.cap), (iv a.r.next), (bv a.r.out), s_a_5.v]) rfl hM m2 rfl) <| bs hx fun r60 h61 hx => w_call rfl rfl (hM.callO (l := []) fun X S oL hS hR hO => ct_laws_toRing _ X S a.r s_a_5 hS (hR _ m0) oL h61) ?_
 rintro _ w62 ⟨s63, rfl, hM⟩
 dsimp only [List.cons_append, List.nil_append] at hM
 refine wv rfl (r_fld u137 rfl rfl sz135 rfl) ?_
 replace hM := hM.p1
 refine w_exu (x_stB #[(iv a.id), (.string a.doc), (iv r60.cap), (iv r60.next), (bv r60.out), s63.v] sz135 rfl rfl rfl rfl rfl rfl hM ?_); intro w66 hM
 refine wl_sq <| wc_sr <| wv rfl (r_ldBS u137 sz137 rfl (us := [(iv a.id), (.string a.doc), (iv r60.cap), (iv r60.next), (bv r60.out), s63.v]) rfl hM m0 rfl) ?_
 replace hM := hM.p2
 refine w_exu (x_stB #[(iv a.id), (.string a.doc), (iv r60.cap), (iv r60.next), (bv r60.out), s63.v] sz137 rfl rfl rfl rfl rfl rfl hM ?_); intro w69 hM
 refine wl_sq <| wc_ret ?_
 obtain rfl := oi hx
 refine fin_ret [(.agg #[(iv a.id), (.string a.doc), (iv r60.cap), (iv r60.next), (bv r60.out), s63.v])] ⟨rv_box u137 sz137 rfl rfl hM m0, trivial⟩ ?_
 replace hM := hM.p2
 replace hM := hM.t1
 exact ⟨s63, rfl, (hM.fewer rsN).gives⟩

noncomputable def x_laws_toSubS_b0 (a : List DSub) (i41 : Int) (l42 : List DSub) : Option (Lr (Int × List DSub) (List DSub)) :=
  bif decide (i41 < (a.length : Int)) then (xg (0 ≤ i41 ∧ i41 < (a.length : Int)) <| Option.bind (x_laws_toSub (el a i41.toNat)) fun r86 => xg (0 ≤ i41 ∧ i41 < (l42.length : Int)) <| xg (inI (i41 + 1)) <| some (Lr.go (i41 + 1, l42.set i41.toNat r86))) else (some (Lr.out l42))
noncomputable def x_laws_toSubS_f0 (a : List DSub) (s100 : Int × List DSub) : Option (Lr (Int × List DSub) (List DSub)) := x_laws_toSubS_b0 a s100.1 s100.2
noncomputable def x_laws_toSubS (a : List DSub) : Option (List DSub) :=
  xg (0 ≤ (a.length : Int) ∧ (a.length : Int) ≤ 1099511627776) <| Option.bind (iter (x_laws_toSubS_f0 a) (0, List.replicate ((a.length : Int).toNat) (default : DSub))) fun (y101 : List DSub) => some y101
theorem ct_laws_toSubS (w : World) (X S : Bs) (a : List DSub) (s_a : Sv) (hS : SX X S w) (a_a_0 : (cSl 6 fDSub a).rd S w s_a.v) (oL : Sep [] X w) {r : List DSub} (hx : x_laws_toSubS a = some r) :
 Ret Tryz.prog 55 [s_a.v] w (fun u w' => ∃ y : Sv, u = y.v ∧ Gives X S w [oC (cSl 6 fDSub r) y.v] [] w') := by
 unfold x_laws_toSubS at hx
 refine enter Tryz.func55 rfl Tryz.ntmps55 (by kernel_rfl) rfl ?_
 have hM := (St.enter oL hS).addV a_a_0
 refine wc_sr <| was rfl rfl <| wl_sq <| wc_sr <| wmv rfl rfl <| wv rfl (r_lenC u23 rfl (hM.seeR m0)) <| xgs hx fun _ hx => ?_
 have hk111 : (a.length : Int) = ((a.length : Int).toNat : Int) := by omega
 refine w_ex rfl (x_make (f := fDSub) (k := ((a.length : Int).toNat)) (default : DSub) u34 sz137 (fun _ => rfl) (fun _ => zP (pV _ rfl) (zP (pV _ rfl) (zP (pV _ rfl) (zP (pV _ rfl) (zP (pV _ rfl) (zP (pN _ _) zN)))))) (by rw [← hk111]; rfl) (by omega) rfl hM ?_); intro s109 w108 hR112 hM
 refine was rfl rfl <| wl_sq <| wc_seq <| wc_sr <| was rfl rfl <| wl_sq <| wc_block <| bs hx fun y116 hx hx117 => ?_
 obtain ⟨m122, hx⟩ := iter_run hx
 refine wc_loop (un fun (m120 : Nat) => un fun (i118 : Int) => fun (l119 : List DSub) => [(0, s_a.v), (3, s109.v), (4, (iv i118))]) (un fun (m120 : Nat) => un fun (i118 : Int) => fun (l119 : List DSub) w' => St ⟨w, X, S⟩ [oC (cSl 6 fDSub l119) s109.v] [rV s_a.v (cSl 6 fDSub a)] w' ∧ iterN _ m120 (i118, l119) = some y116) (fun p => p.1) (m122, 0, List.replicate ((a.length : Int).toNat) (default : DSub)) ⟨rfl, rfl, rfl, trivial⟩ ⟨hM, hx⟩ ?_
 rintro ⟨m120, i118, l119⟩ w123 ⟨hM, hx⟩
 obtain ⟨m124, z125, rfl, hx, hx126⟩ := iterN_step hx
 unfold x_laws_toSubS_f0 x_laws_toSubS_b0 at hx
 try dsimp only at hx
 refine wc_seq <| wc_sr <| wmv rfl rfl <| wmv rfl rfl <| wv rfl (r_lenC u23 rfl (hM.seeR m0)) <| wv rfl (r_lss rfl rfl) <| wl_sq ?_
 refine wcx hx rfl (fun hx => ?_) (fun hx => ?_)
 refine wc_skip <| sq_n <| wc_seq <| wc_block <| wc_region <| wmv rfl rfl <| wmv rfl rfl <| wmv rfl rfl <| wmv rfl rfl <| xgs hx fun hg138 hx => ?_
 have hi137 : i118.toNat < a.length := by omega
 refine wv rfl (r_ixC u23 sz126 rfl rfl (hM.seeR m0) hg138) ?_
 obtain ⟨s140, hM, hc141⟩ := hM.leaf (i := i118.toNat) (j := 5) m0 (fun _ => rfl) hi137 rfl
 refine wv rfl (r_ldC (o := i118.toNat * 6) u126 sz126 rfl (us := [(iv ((el a i118.toNat).id)), (.string ((el a i118.toNat).doc)), (iv ((el a i118.toNat).r.cap)), (iv ((el a i118.toNat).r.next)), (bv ((el a i118.toNat).r.out)), s140.v]) rfl (hM.seeR m1) hi137 ⟨(Cs.get (i := i118.toNat) (j := 0) (hM.seeR m1) (fun _ => rfl) hi137 rfl), (Cs.get (i := i118.toNat) (j := 1) (hM.seeR m1) (fun _ => rfl) hi137 rfl), (Cs.get (i := i118.toNat) (j := 2) (hM.seeR m1) (fun _ => rfl) hi137 rfl), (Cs.get (i := i118.toNat) (j := 3) (hM.seeR m1) (fun _ => rfl) hi137 rfl), (Cs.get (i := i118.toNat) (j := 4) (hM.seeR m1) (fun _ => rfl) hi137 rfl), (hc141 _ (Rel.refl _)), trivial⟩) <| bs hx fun r142 h143 hx => w_call rfl rfl (hM.callO (l := []) fun X S oL hS hR hO => ct_laws_toSub _ X S (el a i118.toNat) s140 hS (hR _ m0) oL h143) ?_
 rintro _ w144 ⟨s145, rfl, hM⟩
 dsimp only [List.cons_append, List.nil_append] at hM
 refine xgs hx fun hg149 hx => ?_
 have hi148 : i118.toNat < l119.length := by omega
 refine wv rfl (r_ixC u34 sz137 rfl rfl (hM.seeO m1) hg149) ?_
 replace hM := hM.p1
 refine w_exu (x_stE (f := fDSub) (k := 6) (L := l119) (i := i118.toNat) (j := 0) r142 [cI r142.id, cT r142.doc, cI r142.r.cap, cI r142.r.next, cB r142.r.out, cSl 3 fDEntry r142.r.list] sz137 (fun _ => rfl) rfl rfl hi148 rfl rfl rfl rfl rfl (fun _ => zP (pV _ rfl) (zP (pV _ rfl) (zP (pV _ rfl) (zP (pV _ rfl) (zP (pV _ rfl) (zO zN)))))) hM ?_); intro w150 hM
 refine wl_nil <| bk_n <| sq_n <| wc_region <| wmv rfl rfl <| xgs hx fun hg154 hx => wv rfl (r_add rfl rfl hg154) <| was rfl rfl <| wl_nil ?_
 cases hx
 have hM := hM.fewer (rsC m1 rsN)
 replace hM : St ⟨w, X, S⟩ [oC (cSl 6 fDSub (l119.set i118.toNat r142)) s109.v] [rV s_a.v (cSl 6 fDSub a)] _ := hM
 exact lp_end (m124, i118 + 1, l119.set i118.toNat r142) (Nat.lt_succ_self _) ⟨rfl, rfl, rfl, trivial⟩ ⟨hM, hx126⟩
 refine wc_exit <| sq_exit <| lp1_exit ?_
 cases hx
 obtain rfl := oi hx126
 replace hx := hx117
 refine bk_here <| sq_n <| wc_sr <| wmv rfl rfl <| was rfl rfl <| wl_sq <| wc_ret ?_
 obtain rfl := oi hx
 refine fin_ret [s109.v] ⟨rfl, trivial⟩ ?_
 replace hM := hM.t1
 exact ⟨s109, rfl, (hM.fewer rsN).gives⟩

noncomputable def x_laws_toHub (a : DHub) : Option DHub :=
  Option.bind (x_laws_toDocS a.docs) fun r20 => Option.bind (x_laws_toSubS a.subs) fun r30 => some (⟨a.shut, r20, r30, a.last⟩ : DHub)
theorem ct_laws_toHub (w : World) (X S : Bs) (a : DHub) (s_a_1 : Sv) (s_a_2 : Sv) (hS : SX X S w) (a_a_1 : (cSl 5 fDDoc a.docs).rd S w s_a_1.v) (a_a_2 : (cSl 6 fDSub a.subs).rd S w s_a_2.v) (oL : Sep [] X w) {r : DHub} (hx : x_laws_toHub a = some r) :
 Ret Tryz.prog 23 [(.agg #[(bv a.shut), s_a_1.v, s_a_2.v, (iv a.last)])] w (fun u w' => ∃ y : Sv × Sv, u = .agg #[(bv r.shut), y.1.v, y.2.v, (iv r.last)] ∧ Gives X S w [oC (cSl 5 fDDoc r.docs) y.1.v, oC (cSl 6 fDSub r.subs) y.2.v] [] w') := by
 unfold x_laws_toHub at hx
 refine enter Tryz.func23 rfl Tryz.ntmps23 (by kernel_rfl) rfl ?_
 have hM := ((St.enter oL hS).addV a_a_1).addV a_a_2
 refine wc_sr ?_
 refine w_ex rfl (x_box rfl hM ?_); intro b47 w46 hR48 hM
 refine w_ex rfl (x_alloc sz36 hM ?_); intro b51 w50 hR52 hM
 refine wl_sq <| wc_sr ?_
 refine w_ex rfl (x_alloc sz36 hM ?_); intro b55 w54 hR56 hM
 refine wl_sq <| wc_sr <| wv rfl (r_fld u25 rfl rfl sz4 rfl) <| wv rfl (r_ldB u4 rfl rfl hM m2 rfl) <| wv rfl (r_fld u36 rfl rfl sz4 rfl) ?_
 refine w_exu (x_stB #[(bv a.shut), (.slice none 0 0), (.slice none 0 0), (iv 0)] sz4 rfl rfl rfl rfl rfl rfl hM ?_); intro w61 hM
 refine wl_sq <| wc_sr <| wv rfl (r_fld u25 rfl rfl sz22 rfl) <| wv rfl (r_ldB u22 rfl rfl hM m2 rfl) <| bs hx fun _ h66 hx => w_call rfl rfl (hM.callO (l := []) fun X S oL hS hR hO => ct_laws_toDocS _ X S a.docs s_a_1 hS (hR _ m1) oL h66) ?_
 rintro _ w67 ⟨s68, rfl, hM⟩
 dsimp only [List.cons_append, List.nil_append] at hM
 refine wv rfl (r_fld u36 rfl rfl sz33 rfl) ?_
 replace hM := hM.p1
 refine w_exu (x_stB #[(bv a.shut), s68.v, (.slice none 0 0), (iv 0)] sz33 rfl rfl rfl rfl rfl rfl hM ?_); intro w71 hM
 refine wl_sq <| wc_sr <| wv rfl (r_fld u25 rfl rfl sz23 rfl) <| wv rfl (r_ldB u23 rfl rfl hM m3 rfl) <| bs hx fun _ h76 hx => w_call rfl rfl (hM.callO (l := []) fun X S oL hS hR hO => ct_laws_toSubS _ X S a.subs s_a_2 hS (hR _ m0) oL h76) ?_
 rintro _ w77 ⟨s78, rfl, hM⟩
 dsimp only [List.cons_append, List.nil_append] at hM
 refine wv rfl (r_fld u36 rfl rfl sz34 rfl) ?_
 replace hM := hM.p1
 refine w_exu (x_stB #[(bv a.shut), s68.v, s78.v, (iv 0)] sz34 rfl rfl rfl rfl rfl rfl hM ?_); intro w81 hM
 refine wl_sq <| wc_sr <| wv rfl (r_fld u25 rfl rfl sz3 rfl) <| wv rfl (r_ldB u3 rfl rfl hM m4 rfl) <| wv rfl (r_fld u36 rfl rfl sz3 rfl) ?_
 refine w_exu (x_stB #[(bv a.shut), s68.v, s78.v, (iv a.last)] sz3 rfl rfl rfl rfl rfl rfl hM ?_); intro w86 hM
 refine wl_sq <| wc_sr <| wv rfl (r_ldBS u36 sz36 rfl (us := [(bv a.shut), s68.v, s78.v, (iv a.last)]) rfl hM m0 rfl) ?_
 replace hM := hM.p3
 refine w_exu (x_stB #[(bv a.shut), s68.v, s78.v, (iv a.last)] sz36 rfl rfl rfl rfl rfl rfl hM ?_); intro w89 hM
 refine wl_sq <| wc_ret ?_
 obtain rfl := oi hx
 refine fin_ret [(.agg #[(bv a.shut), s68.v, s78.v, (iv a.last)])] ⟨rv_box u36 sz36 rfl rfl hM m0, trivial⟩ ?_
 replace hM := hM.p2.p3
 replace hM := hM.t2
 exact ⟨(s68, s78), rfl, (hM.fewer rsN).gives⟩

noncomputable def x_laws_toQueue (a : DQueue) : Option DQueue :=
  Option.bind (x_laws_toIntS a.list) fun r20 => some (⟨a.doc, r20⟩ : DQueue)
theorem ct_laws_toQueue (w : World) (X S : Bs) (a : DQueue) (s_a_1 : Sv) (hS : SX X S w) (a_a_1 : (cSl 1 fI a.list).rd S w s_a_1.v) (oL : Sep [] X w) {r : DQueue} (hx : x_laws_toQueue a = some r) :
 Ret Tryz.prog 56 [(.agg #[(.string a.doc), s_a_1.v])] w (fun u w' => ∃ y : Sv, u = .agg #[(.string r.doc), y.v] ∧ Gives X S w [oC (cSl 1 fI r.list) y.v] [] w') := by
 unfold x_laws_toQueue at hx
 refine enter Tryz.func56 rfl Tryz.ntmps56 (by kernel_rfl) rfl ?_
 have hM := (St.enter oL hS).addV a_a_1
 refine wc_sr ?_
 refine w_ex rfl (x_box rfl hM ?_); intro b32 w31 hR33 hM
 refine w_ex rfl (x_alloc sz56 hM ?_); intro b36 w35 hR37 hM
 refine wl_sq <| wc_sr ?_
 refine w_ex rfl (x_alloc sz56 hM ?_); intro b40 w39 hR41 hM
 refine wl_sq <| wc_sr <| wv rfl (r_fld u81 rfl rfl sz9 rfl) <| wv rfl (r_ldB u9 rfl rfl hM m2 rfl) <| wv rfl (r_fld u56 rfl rfl sz9 rfl) ?_
 refine w_exu (x_stB #[(.string a.doc), (.slice none 0 0)] sz9 rfl rfl rfl rfl rfl rfl hM ?_); intro w46 hM
 refine wl_sq <| wc_sr <| wv rfl (r_fld u81 rfl rfl sz26 rfl) <| wv rfl (r_ldB u26 rfl rfl hM m2 rfl) <| bs hx fun _ h51 hx => w_call rfl rfl (hM.callO (l := []) fun X S oL hS hR hO => ct_laws_toIntS _ X S a.list s_a_1 hS (hR _ m0) oL h51) ?_
 rintro _ w52 ⟨s53, rfl, hM⟩
 dsimp only [List.cons_append, List.nil_append] at hM
 refine wv rfl (r_fld u56 rfl rfl sz26 rfl) ?_
 replace hM := hM.p1
 refine w_exu (x_stB #[(.string a.doc), s53.v] sz26 rfl rfl rfl rfl rfl rfl hM ?_); intro w56 hM
 refine wl_sq <| wc_sr <| wv rfl (r_ldBS u56 sz56 rfl (us := [(.string a.doc), s53.v]) rfl hM m0 rfl) ?_
 replace hM := hM.p2
 refine w_exu (x_stB #[(.string a.doc), s53.v] sz56 rfl rfl rfl rfl rfl rfl hM ?_); intro w59 hM
 refine wl_sq <| wc_ret ?_
 obtain rfl := oi hx
 refine fin_ret [(.agg #[(.string a.doc), s53.v])] ⟨rv_box u56 sz56 rfl rfl hM m0, trivial⟩ ?_
 replace hM := hM.p2
 replace hM := hM.t1
 exact ⟨s53, rfl, (hM.fewer rsN).gives⟩

noncomputable def x_laws_toQueueS_b0 (a : List DQueue) (i41 : Int) (l42 : List DQueue) : Option (Lr (Int × List DQueue) (List DQueue)) :=
  bif decide (i41 < (a.length : Int)) then (xg (0 ≤ i41 ∧ i41 < (a.length : Int)) <| Option.bind (x_laws_toQueue (el a i41.toNat)) fun r86 => xg (0 ≤ i41 ∧ i41 < (l42.length : Int)) <| xg (inI (i41 + 1)) <| some (Lr.go (i41 + 1, l42.set i41.toNat r86))) else (some (Lr.out l42))
noncomputable def x_laws_toQueueS_f0 (a : List DQueue) (s100 : Int × List DQueue) : Option (Lr (Int × List DQueue) (List DQueue)) := x_laws_toQueueS_b0 a s100.1 s100.2
noncomputable def x_laws_toQueueS (a : List DQueue) : Option (List DQueue) :=
  xg (0 ≤ (a.length : Int) ∧ (a.length : Int) ≤ 1099511627776) <| Option.bind (iter (x_laws_toQueueS_f0 a) (0, List.replicate ((a.length : Int).toNat) (default : DQueue))) fun (y101 : List DQueue) => some y101
theorem ct_laws_toQueueS (w : World) (X S : Bs) (a : List DQueue) (s_a : Sv) (hS : SX X S w) (a_a_0 : (cSl 2 fDQueue a).rd S w s_a.v) (oL : Sep [] X w) {r : List DQueue} (hx : x_laws_toQueueS a = some r) :
 Ret Tryz.prog 25 [s_a.v] w (fun u w' => ∃ y : Sv, u = y.v ∧ Gives X S w [oC (cSl 2 fDQueue r) y.v] [] w') := by
 unfold x_laws_toQueueS at hx
 refine enter Tryz.func25 rfl Tryz.ntmps25 (by kernel_rfl) rfl ?_
 have hM := (St.enter oL hS).addV a_a_0
 refine wc_sr <| was rfl rfl <| wl_sq <| wc_sr <| wmv rfl rfl <| wv rfl (r_lenC u27 rfl (hM.seeR m0)) <| xgs hx fun _ hx => ?_
 have hk111 : (a.length : Int) = ((a.length : Int).toNat : Int) := by omega
 refine w_ex rfl (x_make (f := fDQueue) (k := ((a.length : Int).toNat)) (default : DQueue) u37 sz56 (fun _ => rfl) (fun _ => zP (pV _ rfl) (zP (pN _ _) zN)) (by rw [← hk111]; rfl) (by omega) rfl hM ?_); intro s109 w108 hR112 hM
 refine was rfl rfl <| wl_sq <| wc_seq <| wc_sr <| was rfl rfl <| wl_sq <| wc_block <| bs hx fun y116 hx hx117 => ?_
 obtain ⟨m122, hx⟩ := iter_run hx
 refine wc_loop (un fun (m120 : Nat) => un fun (i118 : Int) => fun (l119 : List DQueue) => [(0, s_a.v), (3, s109.v), (4, (iv i118))]) (un fun (m120 : Nat) => un fun (i118 : Int) => fun (l119 : List DQueue) w' => St ⟨w, X, S⟩ [oC (cSl 2 fDQueue l119) s109.v] [rV s_a.v (cSl 2 fDQueue a)] w' ∧ iterN _ m120 (i118, l119) = some y116) (fun p => p.1) (m122, 0, List.replicate ((a.length : Int).toNat) (default : DQueue)) ⟨rfl, rfl, rfl, trivial⟩ ⟨hM, hx⟩ ?_
 rintro ⟨m120, i118, l119⟩ w123 ⟨hM, hx⟩
 obtain ⟨m124, z125, rfl, hx, hx126⟩ := iterN_step hx
 unfold x_laws_toQueueS_f0 x_laws_toQueueS_b0 at hx
 try dsimp only at hx
 refine wc_seq <| wc_sr <| wmv rfl rfl <| wmv rfl rfl <| wv rfl (r_lenC u27 rfl (hM.seeR m0)) <| wv rfl (r_lss rfl rfl) <| wl_sq ?_
 refine wcx hx rfl (fun hx => ?_) (fun hx => ?_)
 refine wc_skip <| sq_n <| wc_seq <| wc_block <| wc_region <| wmv rfl rfl <| wmv rfl rfl <| wmv rfl rfl <| wmv rfl rfl <| xgs hx fun hg138 hx => ?_
 have hi137 : i118.toNat < a.length := by omega
 refine wv rfl (r_ixC u27 sz81 rfl rfl (hM.seeR m0) hg138) ?_
 obtain ⟨s140, hM, hc141⟩ := hM.leaf (i := i118.toNat) (j := 1) m0 (fun _ => rfl) hi137 rfl
 refine wv rfl (r_ldC (o := i118.toNat * 2) u81 sz81 rfl (us := [(.string ((el a i118.toNat).doc)), s140.v]) rfl (hM.seeR m1) hi137 ⟨(Cs.get (i := i118.toNat) (j := 0) (hM.seeR m1) (fun _ => rfl) hi137 rfl), (hc141 _ (Rel.refl _)), trivial⟩) <| bs hx fun r142 h143 hx => w_call rfl rfl (hM.callO (l := []) fun X S oL hS hR hO => ct_laws_toQueue _ X S (el a i118.toNat) s140 hS (hR _ m0) oL h143) ?_
 rintro _ w144 ⟨s145, rfl, hM⟩
 dsimp only [List.cons_append, List.nil_append] at hM
 refine xgs hx fun hg149 hx => ?_
 have hi148 : i118.toNat < l119.length := by omega
 refine wv rfl (r_ixC u37 sz56 rfl rfl (hM.seeO m1) hg149) ?_
 replace hM := hM.p1
 refine w_exu (x_stE (f := fDQueue) (k := 2) (L := l119) (i := i118.toNat) (j := 0) r142 [cT r142.doc, cSl 1 fI r142.list] sz56 (fun _ => rfl) rfl rfl hi148 rfl rfl rfl rfl rfl (fun _ => zP (pV _ rfl) (zO zN)) hM ?_); intro w150 hM
 refine wl_nil <| bk_n <| sq_n <| wc_region <| wmv rfl rfl <| xgs hx fun hg154 hx => wv rfl (r_add rfl rfl hg154) <| was rfl rfl <| wl_nil ?_
 cases hx
 have hM := hM.fewer (rsC m1 rsN)
 replace hM : St ⟨w, X, S⟩ [oC (cSl 2 fDQueue (l119.set i118.toNat r142)) s109.v] [rV s_a.v (cSl 2 fDQueue a)] _ := hM
 exact lp_end (m124, i118 + 1, l119.set i118.toNat r142) (Nat.lt_succ_self _) ⟨rfl, rfl, rfl, trivial⟩ ⟨hM, hx126⟩
 refine wc_exit <| sq_exit <| lp1_exit ?_
 cases hx
 obtain rfl := oi hx126
 replace hx := hx117
 refine bk_here <| sq_n <| wc_sr <| wmv rfl rfl <| was rfl rfl <| wl_sq <| wc_ret ?_
 obtain rfl := oi hx
 refine fin_ret [s109.v] ⟨rfl, trivial⟩ ?_
 replace hM := hM.t1
 exact ⟨s109, rfl, (hM.fewer rsN).gives⟩

noncomputable def x_laws_toCall (a : DCall) : Option DCall :=
  Option.bind (x_laws_toPartS a.o) fun r40 => Option.bind (x_laws_toIntS a.text) fun r50 => some (⟨a.kind, a.doc, a.client, a.seq, a.n, r40, r50⟩ : DCall)
theorem ct_laws_toCall (w : World) (X S : Bs) (a : DCall) (s_a_5 : Sv) (s_a_6 : Sv) (hS : SX X S w) (a_a_5 : (cSl 3 fDPart a.o).rd S w s_a_5.v) (a_a_6 : (cSl 1 fI a.text).rd S w s_a_6.v) (oL : Sep [] X w) {r : DCall} (hx : x_laws_toCall a = some r) :
 Ret Tryz.prog 105 [(.agg #[(iv a.kind), (.string a.doc), (iv a.client), (iv a.seq), (iv a.n), s_a_5.v, s_a_6.v])] w (fun u w' => ∃ y : Sv × Sv, u = .agg #[(iv r.kind), (.string r.doc), (iv r.client), (iv r.seq), (iv r.n), y.1.v, y.2.v] ∧ Gives X S w [oC (cSl 3 fDPart r.o) y.1.v, oC (cSl 1 fI r.text) y.2.v] [] w') := by
 unfold x_laws_toCall at hx
 refine enter Tryz.func105 rfl Tryz.ntmps105 (by kernel_rfl) rfl ?_
 have hM := ((St.enter oL hS).addV a_a_5).addV a_a_6
 refine wc_sr ?_
 refine w_ex rfl (x_box rfl hM ?_); intro b62 w61 hR63 hM
 refine w_ex rfl (x_alloc sz59 hM ?_); intro b66 w65 hR67 hM
 refine wl_sq <| wc_sr ?_
 refine w_ex rfl (x_alloc sz59 hM ?_); intro b70 w69 hR71 hM
 refine wl_sq <| wc_sr <| wv rfl (r_fld u85 rfl rfl sz3 rfl) <| wv rfl (r_ldB u3 rfl rfl hM m2 rfl) <| wv rfl (r_fld u59 rfl rfl sz3 rfl) ?_
 refine w_exu (x_stB #[(iv a.kind), (.string ByteArray.empty), (iv 0), (iv 0), (iv 0), (.slice none 0 0), (.slice none 0 0)] sz3 rfl rfl rfl rfl rfl rfl hM ?_); intro w76 hM
 refine wl_sq <| wc_sr <| wv rfl (r_fld u85 rfl rfl sz9 rfl) <| wv rfl (r_ldB u9 rfl rfl hM m2 rfl) <| wv rfl (r_fld u59 rfl rfl sz9 rfl) ?_
 refine w_exu (x_stB #[(iv a.kind), (.string a.doc), (iv 0), (iv 0), (iv 0), (.slice none 0 0), (.slice none 0 0)] sz9 rfl rfl rfl rfl rfl rfl hM ?_); intro w81 hM
 refine wl_sq <| wc_sr <| wv rfl (r_fld u85 rfl rfl sz3 rfl) <| wv rfl (r_ldB u3 rfl rfl hM m2 rfl) <| wv rfl (r_fld u59 rfl rfl sz3 rfl) ?_
 refine w_exu (x_stB #[(iv a.kind), (.string a.doc), (iv a.client), (iv 0), (iv 0), (.slice none 0 0), (.slice none 0 0)] sz3 rfl rfl rfl rfl rfl rfl hM ?_); intro w86 hM
 refine wl_sq <| wc_sr <| wv rfl (r_fld u85 rfl rfl sz3 rfl) <| wv rfl (r_ldB u3 rfl rfl hM m2 rfl) <| wv rfl (r_fld u59 rfl rfl sz3 rfl) ?_
 refine w_exu (x_stB #[(iv a.kind), (.string a.doc), (iv a.client), (iv a.seq), (iv 0), (.slice none 0 0), (.slice none 0 0)] sz3 rfl rfl rfl rfl rfl rfl hM ?_); intro w91 hM
 refine wl_sq <| wc_sr <| wv rfl (r_fld u85 rfl rfl sz3 rfl) <| wv rfl (r_ldB u3 rfl rfl hM m2 rfl) <| wv rfl (r_fld u59 rfl rfl sz3 rfl) ?_
 refine w_exu (x_stB #[(iv a.kind), (.string a.doc), (iv a.client), (iv a.seq), (iv a.n), (.slice none 0 0), (.slice none 0 0)] sz3 rfl rfl rfl rfl rfl rfl hM ?_); intro w96 hM
 refine wl_sq <| wc_sr <| wv rfl (r_fld u85 rfl rfl sz83 rfl) <| wv rfl (r_ldB u83 rfl rfl hM m2 rfl) <| bs hx fun _ h101 hx => w_call rfl rfl (hM.callO (l := []) fun X S oL hS hR hO => ct_laws_toPartS _ X S a.o s_a_5 hS (hR _ m1) oL h101) ?_
 rintro _ w102 ⟨s103, rfl, hM⟩
 dsimp only [List.cons_append, List.nil_append] at hM
 refine wv rfl (r_fld u59 rfl rfl sz57 rfl) ?_
 replace hM := hM.p1
 refine w_exu (x_stB #[(iv a.kind), (.string a.doc), (iv a.client), (iv a.seq), (iv a.n), s103.v, (.slice none 0 0)] sz57 rfl rfl rfl rfl rfl rfl hM ?_); intro w106 hM
 refine wl_sq <| wc_sr <| wv rfl (r_fld u85 rfl rfl sz26 rfl) <| wv rfl (r_ldB u26 rfl rfl hM m3 rfl) <| bs hx fun _ h111 hx => w_call rfl rfl (hM.callO (l := []) fun X S oL hS hR hO => ct_laws_toIntS _ X S a.text s_a_6 hS (hR _ m0) oL h111) ?_
 rintro _ w112 ⟨s113, rfl, hM⟩
 dsimp only [List.cons_append, List.nil_append] at hM
 refine wv rfl (r_fld u59 rfl rfl sz26 rfl) ?_
 replace hM := hM.p1
 refine w_exu (x_stB #[(iv a.kind), (.string a.doc), (iv a.client), (iv a.seq), (iv a.n), s103.v, s113.v] sz26 rfl rfl rfl rfl rfl rfl hM ?_); intro w116 hM
 refine wl_sq <| wc_sr <| wv rfl (r_ldBS u59 sz59 rfl (us := [(iv a.kind), (.string a.doc), (iv a.client), (iv a.seq), (iv a.n), s103.v, s113.v]) rfl hM m0 rfl) ?_
 replace hM := hM.p3
 refine w_exu (x_stB #[(iv a.kind), (.string a.doc), (iv a.client), (iv a.seq), (iv a.n), s103.v, s113.v] sz59 rfl rfl rfl rfl rfl rfl hM ?_); intro w119 hM
 refine wl_sq <| wc_ret ?_
 obtain rfl := oi hx
 refine fin_ret [(.agg #[(iv a.kind), (.string a.doc), (iv a.client), (iv a.seq), (iv a.n), s103.v, s113.v])] ⟨rv_box u59 sz59 rfl rfl hM m0, trivial⟩ ?_
 replace hM := hM.p2.p3
 replace hM := hM.t2
 exact ⟨(s103, s113), rfl, (hM.fewer rsN).gives⟩

noncomputable def x_laws_toAnswer (a : DAnswer) : Option DAnswer :=
  Option.bind (x_laws_toIntS a.text) fun r25 => Option.bind (x_laws_toEntryS a.list) fun r35 => some (⟨a.code, a.rev, r25, r35⟩ : DAnswer)
theorem ct_laws_toAnswer (w : World) (X S : Bs) (a : DAnswer) (s_a_2 : Sv) (s_a_3 : Sv) (hS : SX X S w) (a_a_2 : (cSl 1 fI a.text).rd S w s_a_2.v) (a_a_3 : (cSl 3 fDEntry a.list).rd S w s_a_3.v) (oL : Sep [] X w) {r : DAnswer} (hx : x_laws_toAnswer a = some r) :
 Ret Tryz.prog 106 [(.agg #[(iv a.code), (iv a.rev), s_a_2.v, s_a_3.v])] w (fun u w' => ∃ y : Sv × Sv, u = .agg #[(iv r.code), (iv r.rev), y.1.v, y.2.v] ∧ Gives X S w [oC (cSl 1 fI r.text) y.1.v, oC (cSl 3 fDEntry r.list) y.2.v] [] w') := by
 unfold x_laws_toAnswer at hx
 refine enter Tryz.func106 rfl Tryz.ntmps106 (by kernel_rfl) rfl ?_
 have hM := ((St.enter oL hS).addV a_a_2).addV a_a_3
 refine wc_sr ?_
 refine w_ex rfl (x_box rfl hM ?_); intro b47 w46 hR48 hM
 refine w_ex rfl (x_alloc sz62 hM ?_); intro b51 w50 hR52 hM
 refine wl_sq <| wc_sr ?_
 refine w_ex rfl (x_alloc sz62 hM ?_); intro b55 w54 hR56 hM
 refine wl_sq <| wc_sr <| wv rfl (r_fld u88 rfl rfl sz3 rfl) <| wv rfl (r_ldB u3 rfl rfl hM m2 rfl) <| wv rfl (r_fld u62 rfl rfl sz3 rfl) ?_
 refine w_exu (x_stB #[(iv a.code), (iv 0), (.slice none 0 0), (.slice none 0 0)] sz3 rfl rfl rfl rfl rfl rfl hM ?_); intro w61 hM
 refine wl_sq <| wc_sr <| wv rfl (r_fld u88 rfl rfl sz3 rfl) <| wv rfl (r_ldB u3 rfl rfl hM m2 rfl) <| wv rfl (r_fld u62 rfl rfl sz3 rfl) ?_
 refine w_exu (x_stB #[(iv a.code), (iv a.rev), (.slice none 0 0), (.slice none 0 0)] sz3 rfl rfl rfl rfl rfl rfl hM ?_); intro w66 hM
 refine wl_sq <| wc_sr <| wv rfl (r_fld u88 rfl rfl sz26 rfl) <| wv rfl (r_ldB u26 rfl rfl hM m2 rfl) <| bs hx fun _ h71 hx => w_call rfl rfl (hM.callO (l := []) fun X S oL hS hR hO => ct_laws_toIntS _ X S a.text s_a_2 hS (hR _ m1) oL h71) ?_
 rintro _ w72 ⟨s73, rfl, hM⟩
 dsimp only [List.cons_append, List.nil_append] at hM
 refine wv rfl (r_fld u62 rfl rfl sz26 rfl) ?_
 replace hM := hM.p1
 refine w_exu (x_stB #[(iv a.code), (iv a.rev), s73.v, (.slice none 0 0)] sz26 rfl rfl rfl rfl rfl rfl hM ?_); intro w76 hM
 refine wl_sq <| wc_sr <| wv rfl (r_fld u88 rfl rfl sz86 rfl) <| wv rfl (r_ldB u86 rfl rfl hM m3 rfl) <| bs hx fun _ h81 hx => w_call rfl rfl (hM.callO (l := []) fun X S oL hS hR hO => ct_laws_toEntryS _ X S a.list s_a_3 hS (hR _ m0) oL h81) ?_
 rintro _ w82 ⟨s83, rfl, hM⟩
 dsimp only [List.cons_append, List.nil_append] at hM
 refine wv rfl (r_fld u62 rfl rfl sz60 rfl) ?_
 replace hM := hM.p1
 refine w_exu (x_stB #[(iv a.code), (iv a.rev), s73.v, s83.v] sz60 rfl rfl rfl rfl rfl rfl hM ?_); intro w86 hM
 refine wl_sq <| wc_sr <| wv rfl (r_ldBS u62 sz62 rfl (us := [(iv a.code), (iv a.rev), s73.v, s83.v]) rfl hM m0 rfl) ?_
 replace hM := hM.p3
 refine w_exu (x_stB #[(iv a.code), (iv a.rev), s73.v, s83.v] sz62 rfl rfl rfl rfl rfl rfl hM ?_); intro w89 hM
 refine wl_sq <| wc_ret ?_
 obtain rfl := oi hx
 refine fin_ret [(.agg #[(iv a.code), (iv a.rev), s73.v, s83.v])] ⟨rv_box u62 sz62 rfl rfl hM m0, trivial⟩ ?_
 replace hM := hM.p2.p3
 replace hM := hM.t2
 exact ⟨(s73, s83), rfl, (hM.fewer rsN).gives⟩

noncomputable def x_laws_toTask (a : DTask) : Option DTask :=
  Option.bind (x_laws_toCall a.c) fun r15 => Option.bind (x_laws_toAnswer a.a) fun r47 => some (⟨r15, a.pc, a.inv, a.lin, a.res, r47⟩ : DTask)
theorem ct_laws_toTask (w : World) (X S : Bs) (a : DTask) (s_a_5 : Sv) (s_a_6 : Sv) (s_a_13 : Sv) (s_a_14 : Sv) (hS : SX X S w) (a_a_5 : (cSl 3 fDPart a.c.o).rd S w s_a_5.v) (a_a_6 : (cSl 1 fI a.c.text).rd S w s_a_6.v) (a_a_13 : (cSl 1 fI a.a.text).rd S w s_a_13.v) (a_a_14 : (cSl 3 fDEntry a.a.list).rd S w s_a_14.v) (oL : Sep [] X w) {r : DTask} (hx : x_laws_toTask a = some r) :
 Ret Tryz.prog 57 [(.agg #[(iv a.c.kind), (.string a.c.doc), (iv a.c.client), (iv a.c.seq), (iv a.c.n), s_a_5.v, s_a_6.v, (iv a.pc), (iv a.inv), (iv a.lin), (iv a.res), (iv a.a.code), (iv a.a.rev), s_a_13.v, s_a_14.v])] w (fun u w' => ∃ y : Sv × Sv × Sv × Sv, u = .agg #[(iv r.c.kind), (.string r.c.doc), (iv r.c.client), (iv r.c.seq), (iv r.c.n), y.1.v, y.2.1.v, (iv r.pc), (iv r.inv), (iv r.lin), (iv r.res), (iv r.a.code), (iv r.a.rev), y.2.2.1.v, y.2.2.2.v] ∧ Gives X S w [oC (cSl 3 fDPart r.c.o) y.1.v, oC (cSl 1 fI r.c.text) y.2.1.v, oC (cSl 1 fI r.a.text) y.2.2.1.v, oC (cSl 3 fDEntry r.a.list) y.2.2.2.v] [] w') := by
 unfold x_laws_toTask at hx
 refine enter Tryz.func57 rfl Tryz.ntmps57 (by kernel_rfl) rfl ?_
 have hM := ((((St.enter oL hS).addV a_a_5).addV a_a_6).addV a_a_13).addV a_a_14
 refine wc_sr ?_
 refine w_ex rfl (x_box rfl hM ?_); intro b61 w60 hR62 hM
 refine w_ex rfl (x_alloc sz64 hM ?_); intro b65 w64 hR66 hM
 refine wl_sq <| wc_sr ?_
 refine w_ex rfl (x_alloc sz64 hM ?_); intro b69 w68 hR70 hM
 refine wl_sq <| wc_sr <| wv rfl (r_fld u90 rfl rfl sz85 rfl) <| wv rfl (r_ldBS u85 sz85 rfl (us := [(iv a.c.kind), (.string a.c.doc), (iv a.c.client), (iv a.c.seq), (iv a.c.n), s_a_5.v, s_a_6.v]) rfl hM m2 rfl) <| bs hx fun r74 h75 hx => w_call rfl rfl (hM.callO (l := []) fun X S oL hS hR hO => ct_laws_toCall _ X S a.c s_a_5 s_a_6 hS (hR _ m3) (hR _ m2) oL h75) ?_
 rintro _ w76 ⟨⟨s77, s78⟩, rfl, hM⟩
 dsimp only [List.cons_append, List.nil_append] at hM
 refine wv rfl (r_fld u64 rfl rfl sz59 rfl) ?_
 replace hM := hM.p2
 refine w_exu (x_stB #[(iv r74.kind), (.string r74.doc), (iv r74.client), (iv r74.seq), (iv r74.n), s77.v, s78.v, (iv 0), (iv 0), (iv 0), (iv 0), (iv 0), (iv 0), (.slice none 0 0), (.slice none 0 0)] sz59 rfl rfl rfl rfl rfl rfl hM ?_); intro w82 hM
 refine wl_sq <| wc_sr <| wv rfl (r_fld u90 rfl rfl sz3 rfl) <| wv rfl (r_ldB u3 rfl rfl hM m4 rfl) <| wv rfl (r_fld u64 rfl rfl sz3 rfl) ?_
 refine w_exu (x_stB #[(iv r74.kind), (.string r74.doc), (iv r74.client), (iv r74.seq), (iv r74.n), s77.v, s78.v, (iv a.pc), (iv 0), (iv 0), (iv 0), (iv 0), (iv 0), (.slice none 0 0), (.slice none 0 0)] sz3 rfl rfl rfl rfl rfl rfl hM ?_); intro w87 hM
 refine wl_sq <| wc_sr <| wv rfl (r_fld u90 rfl rfl sz3 rfl) <| wv rfl (r_ldB u3 rfl rfl hM m4 rfl) <| wv rfl (r_fld u64 rfl rfl sz3 rfl) ?_
 refine w_exu (x_stB #[(iv r74.kind), (.string r74.doc), (iv r74.client), (iv r74.seq), (iv r74.n), s77.v, s78.v, (iv a.pc), (iv a.inv), (iv 0), (iv 0), (iv 0), (iv 0), (.slice none 0 0), (.slice none 0 0)] sz3 rfl rfl rfl rfl rfl rfl hM ?_); intro w92 hM
 refine wl_sq <| wc_sr <| wv rfl (r_fld u90 rfl rfl sz3 rfl) <| wv rfl (r_ldB u3 rfl rfl hM m4 rfl) <| wv rfl (r_fld u64 rfl rfl sz3 rfl) ?_
 refine w_exu (x_stB #[(iv r74.kind), (.string r74.doc), (iv r74.client), (iv r74.seq), (iv r74.n), s77.v, s78.v, (iv a.pc), (iv a.inv), (iv a.lin), (iv 0), (iv 0), (iv 0), (.slice none 0 0), (.slice none 0 0)] sz3 rfl rfl rfl rfl rfl rfl hM ?_); intro w97 hM
 refine wl_sq <| wc_sr <| wv rfl (r_fld u90 rfl rfl sz3 rfl) <| wv rfl (r_ldB u3 rfl rfl hM m4 rfl) <| wv rfl (r_fld u64 rfl rfl sz3 rfl) ?_
 refine w_exu (x_stB #[(iv r74.kind), (.string r74.doc), (iv r74.client), (iv r74.seq), (iv r74.n), s77.v, s78.v, (iv a.pc), (iv a.inv), (iv a.lin), (iv a.res), (iv 0), (iv 0), (.slice none 0 0), (.slice none 0 0)] sz3 rfl rfl rfl rfl rfl rfl hM ?_); intro w102 hM
 refine wl_sq <| wc_sr <| wv rfl (r_fld u90 rfl rfl sz88 rfl) <| wv rfl (r_ldBS u88 sz88 rfl (us := [(iv a.a.code), (iv a.a.rev), s_a_13.v, s_a_14.v]) rfl hM m4 rfl) <| bs hx fun r106 h107 hx => w_call rfl rfl (hM.callO (l := []) fun X S oL hS hR hO => ct_laws_toAnswer _ X S a.a s_a_13 s_a_14 hS (hR _ m1) (hR _ m0) oL h107) ?_
 rintro _ w108 ⟨⟨s109, s110⟩, rfl, hM⟩
 dsimp only [List.cons_append, List.nil_append] at hM
 refine wv rfl (r_fld u64 rfl rfl sz62 rfl) ?_
 replace hM := hM.p2
 refine w_exu (x_stB #[(iv r74.kind), (.string r74.doc), (iv r74.client), (iv r74.seq), (iv r74.n), s77.v, s78.v, (iv a.pc), (iv a.inv), (iv a.lin), (iv a.res), (iv r106.code), (iv r106.rev), s109.v, s110.v] sz62 rfl rfl rfl rfl rfl rfl hM ?_); intro w114 hM
 refine wl_sq <| wc_sr <| wv rfl (r_ldBS u64 sz64 rfl (us := [(iv r74.kind), (.string r74.doc), (iv r74.client), (iv r74.seq), (iv r74.n), s77.v, s78.v, (iv a.pc), (iv a.inv), (iv a.lin), (iv a.res), (iv r106.code), (iv r106.rev), s109.v, s110.v]) rfl hM m0 rfl) ?_
 replace hM := hM.p5
 refine w_exu (x_stB #[(iv r74.kind), (.string r74.doc), (iv r74.client), (iv r74.seq), (iv r74.n), s77.v, s78.v, (iv a.pc), (iv a.inv), (iv a.lin), (iv a.res), (iv r106.code), (iv r106.rev), s109.v, s110.v] sz64 rfl rfl rfl rfl rfl rfl hM ?_); intro w117 hM
 refine wl_sq <| wc_ret ?_
 obtain rfl := oi hx
 refine fin_ret [(.agg #[(iv r74.kind), (.string r74.doc), (iv r74.client), (iv r74.seq), (iv r74.n), s77.v, s78.v, (iv a.pc), (iv a.inv), (iv a.lin), (iv a.res), (iv r106.code), (iv r106.rev), s109.v, s110.v])] ⟨rv_box u64 sz64 rfl rfl hM m0, trivial⟩ ?_
 replace hM := hM.p3.p3.p5.p5
 replace hM := hM.t4
 exact ⟨(s77, s78, s109, s110), rfl, (hM.fewer rsN).gives⟩

noncomputable def x_laws_toTaskS_b0 (a : List DTask) (i53 : Int) (l54 : List DTask) : Option (Lr (Int × List DTask) (List DTask)) :=
  bif decide (i53 < (a.length : Int)) then (xg (0 ≤ i53 ∧ i53 < (a.length : Int)) <| Option.bind (x_laws_toTask (el a i53.toNat)) fun r116 => xg (0 ≤ i53 ∧ i53 < (l54.length : Int)) <| xg (inI (i53 + 1)) <| some (Lr.go (i53 + 1, l54.set i53.toNat r116))) else (some (Lr.out l54))
noncomputable def x_laws_toTaskS_f0 (a : List DTask) (s136 : Int × List DTask) : Option (Lr (Int × List DTask) (List DTask)) := x_laws_toTaskS_b0 a s136.1 s136.2
noncomputable def x_laws_toTaskS (a : List DTask) : Option (List DTask) :=
  xg (0 ≤ (a.length : Int) ∧ (a.length : Int) ≤ 1099511627776) <| Option.bind (iter (x_laws_toTaskS_f0 a) (0, List.replicate ((a.length : Int).toNat) (default : DTask))) fun (y137 : List DTask) => some y137
theorem ct_laws_toTaskS (w : World) (X S : Bs) (a : List DTask) (s_a : Sv) (hS : SX X S w) (a_a_0 : (cSl 15 fDTask a).rd S w s_a.v) (oL : Sep [] X w) {r : List DTask} (hx : x_laws_toTaskS a = some r) :
 Ret Tryz.prog 26 [s_a.v] w (fun u w' => ∃ y : Sv, u = y.v ∧ Gives X S w [oC (cSl 15 fDTask r) y.v] [] w') := by
 unfold x_laws_toTaskS at hx
 refine enter Tryz.func26 rfl Tryz.ntmps26 (by kernel_rfl) rfl ?_
 have hM := (St.enter oL hS).addV a_a_0
 refine wc_sr <| was rfl rfl <| wl_sq <| wc_sr <| wmv rfl rfl <| wv rfl (r_lenC u28 rfl (hM.seeR m0)) <| xgs hx fun _ hx => ?_
 have hk147 : (a.length : Int) = ((a.length : Int).toNat : Int) := by omega
 refine w_ex rfl (x_make (f := fDTask) (k := ((a.length : Int).toNat)) (default : DTask) u38 sz64 (fun _ => rfl) (fun _ => zP (pV _ rfl) (zP (pV _ rfl) (zP (pV _ rfl) (zP (pV _ rfl) (zP (pV _ rfl) (zP (pN _ _) (zP (pN _ _) (zP (pV _ rfl) (zP (pV _ rfl) (zP (pV _ rfl) (zP (pV _ rfl) (zP (pV _ rfl) (zP (pV _ rfl) (zP (pN _ _) (zP (pN _ _) zN))))))))))))))) (by rw [← hk147]; rfl) (by omega) rfl hM ?_); intro s145 w144 hR148 hM
 refine was rfl rfl <| wl_sq <| wc_seq <| wc_sr <| was rfl rfl <| wl_sq <| wc_block <| bs hx fun y152 hx hx153 => ?_
 obtain ⟨m158, hx⟩ := iter_run hx
 refine wc_loop (un fun (m156 : Nat) => un fun (i154 : Int) => fun (l155 : List DTask) => [(0, s_a.v), (3, s145.v), (4, (iv i154))]) (un fun (m156 : Nat) => un fun (i154 : Int) => fun (l155 : List DTask) w' => St ⟨w, X, S⟩ [oC (cSl 15 fDTask l155) s145.v] [rV s_a.v (cSl 15 fDTask a)] w' ∧ iterN _ m156 (i154, l155) = some y152) (fun p => p.1) (m158, 0, List.replicate ((a.length : Int).toNat) (default : DTask)) ⟨rfl, rfl, rfl, trivial⟩ ⟨hM, hx⟩ ?_
 rintro ⟨m156, i154, l155⟩ w159 ⟨hM, hx⟩
 obtain ⟨m160, z161, rfl, hx, hx162⟩ := iterN_step hx
 unfold x_laws_toTaskS_f0 x_laws_toTaskS_b0 at hx
 try dsimp only at hx
 refine wc_seq <| wc_sr <| wmv rfl rfl <| wmv rfl rfl <| wv rfl (r_lenC u28 rfl (hM.seeR m0)) <| wv rfl (r_lss rfl rfl) <| wl_sq ?_
 refine wcx hx rfl (fun hx => ?_) (fun hx => ?_)
 refine wc_skip <| sq_n <| wc_seq <| wc_block <| wc_region <| wmv rfl rfl <| wmv rfl rfl <| wmv rfl rfl <| wmv rfl rfl <| xgs hx fun hg174 hx => ?_
 have hi173 : i154.toNat < a.length := by omega
 refine wv rfl (r_ixC u28 sz90 rfl rfl (hM.seeR m0) hg174) ?_
 obtain ⟨s176, hM, hc177⟩ := hM.leaf (i := i154.toNat) (j := 5) m0 (fun _ => rfl) hi173 rfl
 obtain ⟨s178, hM, hc179⟩ := hM.leaf (i := i154.toNat) (j := 6) m1 (fun _ => rfl) hi173 rfl
 obtain ⟨s180, hM, hc181⟩ := hM.leaf (i := i154.toNat) (j := 13) m2 (fun _ => rfl) hi173 rfl
 obtain ⟨s182, hM, hc183⟩ := hM.leaf (i := i154.toNat) (j := 14) m3 (fun _ => rfl) hi173 rfl
 refine wv rfl (r_ldC (o := i154.toNat * 15) u90 sz90 rfl (us := [(iv ((el a i154.toNat).c.kind)), (.string ((el a i154.toNat).c.doc)), (iv ((el a i154.toNat).c.client)), (iv ((el a i154.toNat).c.seq)), (iv ((el a i154.toNat).c.n)), s176.v, s178.v, (iv ((el a i154.toNat).pc)), (iv ((el a i154.toNat).inv)), (iv ((el a i154.toNat).lin)), (iv ((el a i154.toNat).res)), (iv ((el a i154.toNat).a.code)), (iv ((el a i154.toNat).a.rev)), s180.v, s182.v]) rfl (hM.seeR m4) hi173 ⟨(Cs.get (i := i154.toNat) (j := 0) (hM.seeR m4) (fun _ => rfl) hi173 rfl), (Cs.get (i := i154.toNat) (j := 1) (hM.seeR m4) (fun _ => rfl) hi173 rfl), (Cs.get (i := i154.toNat) (j := 2) (hM.seeR m4) (fun _ => rfl) hi173 rfl), (Cs.get (i := i154.toNat) (j := 3) (hM.seeR m4) (fun _ => rfl) hi173 rfl), (Cs.get (i := i154.toNat) (j := 4) (hM.seeR m4) (fun _ => rfl) hi173 rfl), (hc177 _ (Rel.refl _)), (hc179 _ (Rel.refl _)), (Cs.get (i := i154.toNat) (j := 7) (hM.seeR m4) (fun _ => rfl) hi173 rfl), (Cs.get (i := i154.toNat) (j := 8) (hM.seeR m4) (fun _ => rfl) hi173 rfl), (Cs.get (i := i154.toNat) (j := 9) (hM.seeR m4) (fun _ => rfl) hi173 rfl), (Cs.get (i := i154.toNat) (j := 10) (hM.seeR m4) (fun _ => rfl) hi173 rfl), (Cs.get (i := i154.toNat) (j := 11) (hM.seeR m4) (fun _ => rfl) hi173 rfl), (Cs.get (i := i154.toNat) (j := 12) (hM.seeR m4) (fun _ => rfl) hi173 rfl), (hc181 _ (Rel.refl _)), (hc183 _ (Rel.refl _)), trivial⟩) <| bs hx fun r184 h185 hx => w_call rfl rfl (hM.callO (l := []) fun X S oL hS hR hO => ct_laws_toTask _ X S (el a i154.toNat) s176 s178 s180 s182 hS (hR _ m3) (hR _ m2) (hR _ m1) (hR _ m0) oL h185) ?_
 rintro _ w186 ⟨⟨s187, s188, s189, s190⟩, rfl, hM⟩
 dsimp only [List.cons_append, List.nil_append] at hM
 refine xgs hx fun hg197 hx => ?_
 have hi196 : i154.toNat < l155.length := by omega
 refine wv rfl (r_ixC u38 sz64 rfl rfl (hM.seeO m4) hg197) ?_
 replace hM := hM.p3.p3.p3.p3.p4
 refine w_exu (x_stE (f := fDTask) (k := 15) (L := l155) (i := i154.toNat) (j := 0) r184 [cI r184.c.kind, cT r184.c.doc, cI r184.c.client, cI r184.c.seq, cI r184.c.n, cSl 3 fDPart r184.c.o, cSl 1 fI r184.c.text, cI r184.pc, cI r184.inv, cI r184.lin, cI r184.res, cI r184.a.code, cI r184.a.rev, cSl 1 fI r184.a.text, cSl 3 fDEntry r184.a.list] sz64 (fun _ => rfl) rfl rfl hi196 rfl rfl rfl rfl rfl (fun _ => zP (pV _ rfl) (zP (pV _ rfl) (zP (pV _ rfl) (zP (pV _ rfl) (zP (pV _ rfl) (zO (zO (zP (pV _ rfl) (zP (pV _ rfl) (zP (pV _ rfl) (zP (pV _ rfl) (zP (pV _ rfl) (zP (pV _ rfl) (zO (zO zN))))))))))))))) hM ?_); intro w198 hM
 refine wl_nil <| bk_n <| sq_n <| wc_region <| wmv rfl rfl <| xgs hx fun hg202 hx => wv rfl (r_add rfl rfl hg202) <| was rfl rfl <| wl_nil ?_
 cases hx
 have hM := hM.fewer (rsC m4 rsN)
 replace hM : St ⟨w, X, S⟩ [oC (cSl 15 fDTask (l155.set i154.toNat r184)) s145.v] [rV s_a.v (cSl 15 fDTask a)] _ := hM
 exact lp_end (m160, i154 + 1, l155.set i154.toNat r184) (Nat.lt_succ_self _) ⟨rfl, rfl, rfl, trivial⟩ ⟨hM, hx162⟩
 refine wc_exit <| sq_exit <| lp1_exit ?_
 cases hx
 obtain rfl := oi hx162
 replace hx := hx153
 refine bk_here <| sq_n <| wc_sr <| wmv rfl rfl <| was rfl rfl <| wl_sq <| wc_ret ?_
 obtain rfl := oi hx
 refine fin_ret [s145.v] ⟨rfl, trivial⟩ ?_
 replace hM := hM.t1
 exact ⟨s145, rfl, (hM.fewer rsN).gives⟩

noncomputable def x_laws_toWorld (a : DWorld) : Option DWorld :=
  Option.bind (x_laws_toHub a.h) fun r15 => Option.bind (x_laws_toIntS a.locks) fun r27 => Option.bind (x_laws_toQueueS a.queues) fun r37 => Option.bind (x_laws_toTaskS a.tasks) fun r47 => some (⟨r15, r27, r37, r47, a.step⟩ : DWorld)
theorem ct_laws_toWorld (w : World) (X S : Bs) (a : DWorld) (s_a_1 : Sv) (s_a_2 : Sv) (s_a_4 : Sv) (s_a_5 : Sv) (s_a_6 : Sv) (hS : SX X S w) (a_a_1 : (cSl 5 fDDoc a.h.docs).rd S w s_a_1.v) (a_a_2 : (cSl 6 fDSub a.h.subs).rd S w s_a_2.v) (a_a_4 : (cSl 1 fI a.locks).rd S w s_a_4.v) (a_a_5 : (cSl 2 fDQueue a.queues).rd S w s_a_5.v) (a_a_6 : (cSl 15 fDTask a.tasks).rd S w s_a_6.v) (oL : Sep [] X w) {r : DWorld} (hx : x_laws_toWorld a = some r) :
 Ret Tryz.prog 7 [(.agg #[(bv a.h.shut), s_a_1.v, s_a_2.v, (iv a.h.last), s_a_4.v, s_a_5.v, s_a_6.v, (iv a.step)])] w (fun u w' => ∃ y : Sv × Sv × Sv × Sv × Sv, u = .agg #[(bv r.h.shut), y.1.v, y.2.1.v, (iv r.h.last), y.2.2.1.v, y.2.2.2.1.v, y.2.2.2.2.v, (iv r.step)] ∧ Gives X S w [oC (cSl 5 fDDoc r.h.docs) y.1.v, oC (cSl 6 fDSub r.h.subs) y.2.1.v, oC (cSl 1 fI r.locks) y.2.2.1.v, oC (cSl 2 fDQueue r.queues) y.2.2.2.1.v, oC (cSl 15 fDTask r.tasks) y.2.2.2.2.v] [] w') := by
 unfold x_laws_toWorld at hx
 refine enter Tryz.func7 rfl Tryz.ntmps7 (by kernel_rfl) rfl ?_
 have hM := (((((St.enter oL hS).addV a_a_1).addV a_a_2).addV a_a_4).addV a_a_5).addV a_a_6
 refine wc_sr ?_
 refine w_ex rfl (x_box rfl hM ?_); intro b64 w63 hR65 hM
 refine w_ex rfl (x_alloc sz40 hM ?_); intro b68 w67 hR69 hM
 refine wl_sq <| wc_sr ?_
 refine w_ex rfl (x_alloc sz40 hM ?_); intro b72 w71 hR73 hM
 refine wl_sq <| wc_sr <| wv rfl (r_fld u30 rfl rfl sz25 rfl) <| wv rfl (r_ldBS u25 sz25 rfl (us := [(bv a.h.shut), s_a_1.v, s_a_2.v, (iv a.h.last)]) rfl hM m2 rfl) <| bs hx fun r77 h78 hx => w_call rfl rfl (hM.callO (l := []) fun X S oL hS hR hO => ct_laws_toHub _ X S a.h s_a_1 s_a_2 hS (hR _ m4) (hR _ m3) oL h78) ?_
 rintro _ w79 ⟨⟨s80, s81⟩, rfl, hM⟩
 dsimp only [List.cons_append, List.nil_append] at hM
 refine wv rfl (r_fld u40 rfl rfl sz36 rfl) ?_
 replace hM := hM.p2
 refine w_exu (x_stB #[(bv r77.shut), s80.v, s81.v, (iv r77.last), (.slice none 0 0), (.slice none 0 0), (.slice none 0 0), (iv 0)] sz36 rfl rfl rfl rfl rfl rfl hM ?_); intro w85 hM
 refine wl_sq <| wc_sr <| wv rfl (r_fld u30 rfl rfl sz26 rfl) <| wv rfl (r_ldB u26 rfl rfl hM m4 rfl) <| bs hx fun _ h90 hx => w_call rfl rfl (hM.callO (l := []) fun X S oL hS hR hO => ct_laws_toIntS _ X S a.locks s_a_4 hS (hR _ m2) oL h90) ?_
 rintro _ w91 ⟨s92, rfl, hM⟩
 dsimp only [List.cons_append, List.nil_append] at hM
 refine wv rfl (r_fld u40 rfl rfl sz26 rfl) ?_
 replace hM := hM.p1
 refine w_exu (x_stB #[(bv r77.shut), s80.v, s81.v, (iv r77.last), s92.v, (.slice none 0 0), (.slice none 0 0), (iv 0)] sz26 rfl rfl rfl rfl rfl rfl hM ?_); intro w95 hM
 refine wl_sq <| wc_sr <| wv rfl (r_fld u30 rfl rfl sz27 rfl) <| wv rfl (r_ldB u27 rfl rfl hM m5 rfl) <| bs hx fun _ h100 hx => w_call rfl rfl (hM.callO (l := []) fun X S oL hS hR hO => ct_laws_toQueueS _ X S a.queues s_a_5 hS (hR _ m1) oL h100) ?_
 rintro _ w101 ⟨s102, rfl, hM⟩
 dsimp only [List.cons_append, List.nil_append] at hM
 refine wv rfl (r_fld u40 rfl rfl sz37 rfl) ?_
 replace hM := hM.p1
 refine w_exu (x_stB #[(bv r77.shut), s80.v, s81.v, (iv r77.last), s92.v, s102.v, (.slice none 0 0), (iv 0)] sz37 rfl rfl rfl rfl rfl rfl hM ?_); intro w105 hM
 refine wl_sq <| wc_sr <| wv rfl (r_fld u30 rfl rfl sz28 rfl) <| wv rfl (r_ldB u28 rfl rfl hM m6 rfl) <| bs hx fun _ h110 hx => w_call rfl rfl (hM.callO (l := []) fun X S oL hS hR hO => ct_laws_toTaskS _ X S a.tasks s_a_6 hS (hR _ m0) oL h110) ?_
 rintro _ w111 ⟨s112, rfl, hM⟩
 dsimp only [List.cons_append, List.nil_append] at hM
 refine wv rfl (r_fld u40 rfl rfl sz38 rfl) ?_
 replace hM := hM.p1
 refine w_exu (x_stB #[(bv r77.shut), s80.v, s81.v, (iv r77.last), s92.v, s102.v, s112.v, (iv 0)] sz38 rfl rfl rfl rfl rfl rfl hM ?_); intro w115 hM
 refine wl_sq <| wc_sr <| wv rfl (r_fld u30 rfl rfl sz3 rfl) <| wv rfl (r_ldB u3 rfl rfl hM m7 rfl) <| wv rfl (r_fld u40 rfl rfl sz3 rfl) ?_
 refine w_exu (x_stB #[(bv r77.shut), s80.v, s81.v, (iv r77.last), s92.v, s102.v, s112.v, (iv a.step)] sz3 rfl rfl rfl rfl rfl rfl hM ?_); intro w120 hM
 refine wl_sq <| wc_sr <| wv rfl (r_ldBS u40 sz40 rfl (us := [(bv r77.shut), s80.v, s81.v, (iv r77.last), s92.v, s102.v, s112.v, (iv a.step)]) rfl hM m0 rfl) ?_
 replace hM := hM.p6
 refine w_exu (x_stB #[(bv r77.shut), s80.v, s81.v, (iv r77.last), s92.v, s102.v, s112.v, (iv a.step)] sz40 rfl rfl rfl rfl rfl rfl hM ?_); intro w123 hM
 refine wl_sq <| wc_ret ?_
 obtain rfl := oi hx
 refine fin_ret [(.agg #[(bv r77.shut), s80.v, s81.v, (iv r77.last), s92.v, s102.v, s112.v, (iv a.step)])] ⟨rv_box u40 sz40 rfl rfl hM m0, trivial⟩ ?_
 replace hM := hM.p2.p3.p4.p6.p6
 replace hM := hM.t5
 exact ⟨(s80, s81, s92, s102, s112), rfl, (hM.fewer rsN).gives⟩

noncomputable def x_laws_eqIntS_b0 (a : List Int) (b : List Int) (i9 : Int) : Option (Lr Int (Sum Unit Unit)) :=
  bif decide (i9 < (a.length : Int)) then (xg (0 ≤ i9 ∧ i9 < (a.length : Int)) <| xg (0 ≤ i9 ∧ i9 < (b.length : Int)) <| bif !decide ((el a i9.toNat) = (el b i9.toNat)) then (some (Lr.out (Sum.inr (())))) else (xg (inI (i9 + 1)) <| some (Lr.go (i9 + 1)))) else (some (Lr.out (Sum.inl ())))
noncomputable def x_laws_eqIntS_f0 (a : List Int) (b : List Int) (s58 : Int) : Option (Lr Int (Sum Unit Unit)) := x_laws_eqIntS_b0 a b s58
noncomputable def x_laws_eqIntS (a : List Int) (b : List Int) : Option Bool :=
  bif !decide ((a.length : Int) = (b.length : Int)) then (some false) else (Option.bind (iter (x_laws_eqIntS_f0 a b) 0) fun (y59 : Sum Unit Unit) => Sum.elim (fun _y60 => some true) (fun _y61 => some false) y59)
theorem ct_laws_eqIntS (w : World) (X S : Bs) (a : List Int) (s_a : Sv) (b : List Int) (s_b : Sv) (hS : SX X S w) (a_a_0 : (cSl 1 fI a).rd S w s_a.v) (a_b_0 : (cSl 1 fI b).rd S w s_b.v) (oL : Sep [] X w) {r : Bool} (hx : x_laws_eqIntS a b = some r) :
 Ret Tryz.prog 31 [s_a.v, s_b.v] w (KV X S w (bv r)) := by
 unfold x_laws_eqIntS at hx
 refine enter Tryz.func31 rfl Tryz.ntmps31 (by kernel_rfl) rfl ?_
 have hM := ((St.enter oL hS).addV a_a_0).addV a_b_0
 refine wc_sr <| was rfl rfl <| wl_sq <| wc_seq <| wc_sr <| wmv rfl rfl <| wv rfl (r_lenC u26 rfl (hM.seeR m1)) <| wmv rfl rfl <| wv rfl (r_lenC u26 rfl (hM.seeR m0)) <| wv rfl (r_neq rfl rfl) <| wl_sq ?_
 refine wcx hx rfl (fun hx => ?_) (fun hx => ?_)
 refine wc_sr <| was rfl rfl <| wl_sq <| wc_ret <| sq_ret ?_
 obtain rfl := oi hx
 exact fin_u [(bv false)] hM ⟨rfl, trivial⟩ rfl
 refine wc_skip <| sq_n <| wc_seq <| wc_sr <| was rfl rfl <| wl_sq <| wc_block <| bs hx fun y72 hx hx73 => ?_
 have hM := hM.fewer (rsC m1 (rsC m0 rsN))
 replace hM : St ⟨w, X, S⟩ [] [rV s_a.v (cSl 1 fI a), rV s_b.v (cSl 1 fI b)] _ := hM
 obtain ⟨m77, hx⟩ := iter_run hx
 refine wc_loop (un fun (m75 : Nat) => fun (i74 : Int) => [(0, s_a.v), (1, s_b.v), (5, (iv i74))]) (un fun (m75 : Nat) => fun (i74 : Int) w' => St ⟨w, X, S⟩ [] [rV s_a.v (cSl 1 fI a), rV s_b.v (cSl 1 fI b)] w' ∧ iterN _ m75 i74 = some y72) (fun p => p.1) (m77, 0) ⟨rfl, rfl, rfl, trivial⟩ ⟨hM, hx⟩ ?_
 rintro ⟨m75, i74⟩ w78 ⟨hM, hx⟩
 obtain ⟨m79, z80, rfl, hx, hx81⟩ := iterN_step hx
 unfold x_laws_eqIntS_f0 x_laws_eqIntS_b0 at hx
 try dsimp only at hx
 refine wc_seq <| wc_sr <| wmv rfl rfl <| wmv rfl rfl <| wv rfl (r_lenC u26 rfl (hM.seeR m0)) <| wv rfl (r_lss rfl rfl) <| wl_sq ?_
 refine wcx hx rfl (fun hx => ?_) (fun hx => ?_)
 refine wc_skip <| sq_n <| wc_seq <| wc_block <| wc_seq <| wc_draw [(0, 0), (1, 0), (2, 0), (3, 0), (4, 0), (5, 0), (6, 0), (7, 0), (8, 0)] Tryz_mixed (by kernel_rfl) rfl (by kernel_rfl) rfl <| omv rfl rfl <| omv rfl rfl <| xgs hx fun hg91 hx => ?_
 have hi90 : i74.toNat < a.length := by omega
 refine ov rfl (fun w' h' => r_ixC u26 sz3 rfl rfl ((hM.call h').seeR m0) hg91) <| ov rfl (fun w' h' => r_ld u3 rfl rfl (Cs.get (i := i74.toNat) (j := 0) ((hM.call h').seeR m0) (fun _ => rfl) hi90 rfl)) <| omv rfl rfl <| omv rfl rfl <| xgs hx fun hg97 hx => ?_
 have hi96 : i74.toNat < b.length := by omega
 refine ov rfl (fun w' h' => r_ixC u26 sz3 rfl rfl ((hM.call h').seeR m1) hg97) <| ov rfl (fun w' h' => r_ld u3 rfl rfl (Cs.get (i := i74.toNat) (j := 0) ((hM.call h').seeR m1) (fun _ => rfl) hi96 rfl)) <| ov rfl (fun w' h' => r_neq rfl rfl) <| o_nilM hM fun _ hM => sq_n ?_
 refine wcx hx rfl (fun hx => ?_) (fun hx => ?_)
 refine wc_sr <| was rfl rfl <| wl_sq <| wc_ret <| bk_ret <| sq_ret <| lp1_ret ?_
 cases hx
 obtain rfl := oi hx81
 replace hx := hx73
 refine bk_ret <| sq_ret ?_
 obtain rfl := oi hx
 exact fin_u [(bv false)] hM ⟨rfl, trivial⟩ rfl
 refine wc_skip <| bk_n <| sq_n <| wc_region <| wmv rfl rfl <| xgs hx fun hg106 hx => wv rfl (r_add rfl rfl hg106) <| was rfl rfl <| wl_nil ?_
 cases hx
 exact lp_end (m79, i74 + 1) (Nat.lt_succ_self _) ⟨rfl, rfl, rfl, trivial⟩ ⟨hM, hx81⟩
 refine wc_exit <| sq_exit <| lp1_exit ?_
 cases hx
 obtain rfl := oi hx81
 replace hx := hx73
 refine bk_here <| sq_n <| wc_sr <| was rfl rfl <| wl_sq <| wc_ret ?_
 obtain rfl := oi hx
 exact fin_u [(bv true)] hM ⟨rfl, trivial⟩ rfl

noncomputable def x_laws_eqPart (a : DPart) (b : DPart) : Option Bool :=
  bif !decide (a.kind = b.kind) then (some false) else (bif !decide (a.n = b.n) then (some false) else (Option.bind (x_laws_eqIntS a.signs b.signs) fun r26 => bif !r26 then (some false) else (some true)))
theorem ct_laws_eqPart (w : World) (X S : Bs) (a : DPart) (s_a_2 : Sv) (b : DPart) (s_b_2 : Sv) (hS : SX X S w) (a_a_2 : (cSl 1 fI a.signs).rd S w s_a_2.v) (a_b_2 : (cSl 1 fI b.signs).rd S w s_b_2.v) (oL : Sep [] X w) {r : Bool} (hx : x_laws_eqPart a b = some r) :
 Ret Tryz.prog 191 [(.agg #[(iv a.kind), (iv a.n), s_a_2.v]), (.agg #[(iv b.kind), (iv b.n), s_b_2.v])] w (KV X S w (bv r)) := by
 unfold x_laws_eqPart at hx
 refine enter Tryz.func191 rfl Tryz.ntmps191 (by kernel_rfl) rfl ?_
 have hM := ((St.enter oL hS).addV a_a_2).addV a_b_2
 refine wc_sr ?_
 refine w_ex rfl (x_box rfl hM ?_); intro b33 w32 hR34 hM
 refine w_ex rfl (x_box rfl hM ?_); intro b37 w36 hR38 hM
 refine was rfl rfl <| wl_sq <| wc_seq <| wc_sr <| wv rfl (r_fld u156 rfl rfl sz3 rfl) <| wv rfl (r_ldB u3 rfl rfl hM m1 rfl) <| wv rfl (r_fld u156 rfl rfl sz3 rfl) <| wv rfl (r_ldB u3 rfl rfl hM m0 rfl) <| wv rfl (r_neq rfl rfl) <| wl_sq ?_
 refine wcx hx rfl (fun hx => ?_) (fun hx => ?_)
 refine wc_sr <| was rfl rfl <| wl_sq <| wc_ret <| sq_ret ?_
 obtain rfl := oi hx
 exact fin_u [(bv false)] hM ⟨rfl, trivial⟩ rfl
 refine wc_skip <| sq_n <| wc_seq <| wc_sr <| wv rfl (r_fld u156 rfl rfl sz3 rfl) <| wv rfl (r_ldB u3 rfl rfl hM m1 rfl) <| wv rfl (r_fld u156 rfl rfl sz3 rfl) <| wv rfl (r_ldB u3 rfl rfl hM m0 rfl) <| wv rfl (r_neq rfl rfl) <| wl_sq ?_
 refine wcx hx rfl (fun hx => ?_) (fun hx => ?_)
 refine wc_sr <| was rfl rfl <| wl_sq <| wc_ret <| sq_ret ?_
 obtain rfl := oi hx
 exact fin_u [(bv false)] hM ⟨rfl, trivial⟩ rfl
 refine wc_skip <| sq_n <| wc_seq <| wc_sr <| wv rfl (r_fld u156 rfl rfl sz26 rfl) <| wv rfl (r_ldB u26 rfl rfl hM m1 rfl) <| wv rfl (r_fld u156 rfl rfl sz26 rfl) <| wv rfl (r_ldB u26 rfl rfl hM m0 rfl) <| bs hx fun _ h60 hx => w_cv hM rfl rfl (fun X S oL hS hR hO => ct_laws_eqIntS _ X S a.signs s_a_2 b.signs s_b_2 hS (hR _ m1) (hR _ m0) oL h60) fun _ hM => wv rfl (r_not rfl) <| wl_sq ?_
 refine wcx hx rfl (fun hx => ?_) (fun hx => ?_)
 refine wc_sr <| was rfl rfl <| wl_sq <| wc_ret <| sq_ret ?_
 obtain rfl := oi hx
 exact fin_u [(bv false)] hM ⟨rfl, trivial⟩ rfl
 refine wc_skip <| sq_n <| wc_sr <| was rfl rfl <| wl_sq <| wc_ret ?_
 obtain rfl := oi hx
 exact fin_u [(bv true)] hM ⟨rfl, trivial⟩ rfl

noncomputable def x_laws_eqPartS_b0 (a : List DPart) (b : List DPart) (i9 : Int) : Option (Lr Int (Sum Unit Unit)) :=
  bif decide (i9 < (a.length : Int)) then (xg (0 ≤ i9 ∧ i9 < (a.length : Int)) <| xg (0 ≤ i9 ∧ i9 < (b.length : Int)) <| Option.bind (x_laws_eqPart (el a i9.toNat) (el b i9.toNat)) fun r61 => bif !r61 then (some (Lr.out (Sum.inr (())))) else (xg (inI (i9 + 1)) <| some (Lr.go (i9 + 1)))) else (some (Lr.out (Sum.inl ())))
noncomputable def x_laws_eqPartS_f0 (a : List DPart) (b : List DPart) (s72 : Int) : Option (Lr Int (Sum Unit Unit)) := x_laws_eqPartS_b0 a b s72
noncomputable def x_laws_eqPartS (a : List DPart) (b : List DPart) : Option Bool :=
  bif !decide ((a.length : Int) = (b.length : Int)) then (some false) else (Option.bind (iter (x_laws_eqPartS_f0 a b) 0) fun (y73 : Sum Unit Unit) => Sum.elim (fun _y74 => some true) (fun _y75 => some false) y73)
theorem ct_laws_eqPartS (w : World) (X S : Bs) (a : List DPart) (s_a : Sv) (b : List DPart) (s_b : Sv) (hS : SX X S w) (a_a_0 : (cSl 3 fDPart a).rd S w s_a.v) (a_b_0 : (cSl 3 fDPart b).rd S w s_b.v) (oL : Sep [] X w) {r : Bool} (hx : x_laws_eqPartS a b = some r) :
 Ret Tryz.prog 161 [s_a.v, s_b.v] w (KV X S w (bv r)) := by
 unfold x_laws_eqPartS at hx
 refine enter Tryz.func161 rfl Tryz.ntmps161 (by kernel_rfl) rfl ?_
 have hM := ((St.enter oL hS).addV a_a_0).addV a_b_0
 refine wc_sr <| was rfl rfl <| wl_sq <| wc_seq <| wc_sr <| wmv rfl rfl <| wv rfl (r_lenC u57 rfl (hM.seeR m1)) <| wmv rfl rfl <| wv rfl (r_lenC u57 rfl (hM.seeR m0)) <| wv rfl (r_neq rfl rfl) <| wl_sq ?_
 refine wcx hx rfl (fun hx => ?_) (fun hx => ?_)
 refine wc_sr <| was rfl rfl <| wl_sq <| wc_ret <| sq_ret ?_
 obtain rfl := oi hx
 exact fin_u [(bv false)] hM ⟨rfl, trivial⟩ rfl
 refine wc_skip <| sq_n <| wc_seq <| wc_sr <| was rfl rfl <| wl_sq <| wc_block <| bs hx fun y86 hx hx87 => ?_
 have hM := hM.fewer (rsC m1 (rsC m0 rsN))
 replace hM : St ⟨w, X, S⟩ [] [rV s_a.v (cSl 3 fDPart a), rV s_b.v (cSl 3 fDPart b)] _ := hM
 obtain ⟨m91, hx⟩ := iter_run hx
 refine wc_loop (un fun (m89 : Nat) => fun (i88 : Int) => [(0, s_a.v), (1, s_b.v), (5, (iv i88))]) (un fun (m89 : Nat) => fun (i88 : Int) w' => St ⟨w, X, S⟩ [] [rV s_a.v (cSl 3 fDPart a), rV s_b.v (cSl 3 fDPart b)] w' ∧ iterN _ m89 i88 = some y86) (fun p => p.1) (m91, 0) ⟨rfl, rfl, rfl, trivial⟩ ⟨hM, hx⟩ ?_
 rintro ⟨m89, i88⟩ w92 ⟨hM, hx⟩
 obtain ⟨m93, z94, rfl, hx, hx95⟩ := iterN_step hx
 unfold x_laws_eqPartS_f0 x_laws_eqPartS_b0 at hx
 try dsimp only at hx
 refine wc_seq <| wc_sr <| wmv rfl rfl <| wmv rfl rfl <| wv rfl (r_lenC u57 rfl (hM.seeR m0)) <| wv rfl (r_lss rfl rfl) <| wl_sq ?_
 refine wcx hx rfl (fun hx => ?_) (fun hx => ?_)
 refine wc_skip <| sq_n <| wc_seq <| wc_block <| wc_seq <| wc_draw [(0, 0), (1, 0), (2, 0), (3, 0), (4, 0), (5, 0), (6, 0), (7, 0), (8, 0), (9, 0)] Tryz_mixed (by kernel_rfl) rfl (by kernel_rfl) rfl <| omv rfl rfl <| omv rfl rfl <| xgs hx fun hg105 hx => ?_
 have hi104 : i88.toNat < a.length := by omega
 refine ov rfl (fun w' h' => r_ixC u57 sz156 rfl rfl ((hM.call h').seeR m0) hg105) ?_
 obtain ⟨s107, hM, hc108⟩ := hM.leaf (i := i88.toNat) (j := 2) m0 (fun _ => rfl) hi104 rfl
 refine ov rfl (fun w' h' => r_ldC (o := i88.toNat * 3) u156 sz156 rfl (us := [(iv ((el a i88.toNat).kind)), (iv ((el a i88.toNat).n)), s107.v]) rfl ((hM.call h').seeR m1) hi104 ⟨(Cs.get (i := i88.toNat) (j := 0) ((hM.call h').seeR m1) (fun _ => rfl) hi104 rfl), (Cs.get (i := i88.toNat) (j := 1) ((hM.call h').seeR m1) (fun _ => rfl) hi104 rfl), (hc108 w' h'), trivial⟩) <| omv rfl rfl <| omv rfl rfl <| xgs hx fun hg113 hx => ?_
 have hi112 : i88.toNat < b.length := by omega
 refine ov rfl (fun w' h' => r_ixC u57 sz156 rfl rfl ((hM.call h').seeR m2) hg113) ?_
 obtain ⟨s115, hM, hc116⟩ := hM.leaf (i := i88.toNat) (j := 2) m2 (fun _ => rfl) hi112 rfl
 refine ov rfl (fun w' h' => r_ldC (o := i88.toNat * 3) u156 sz156 rfl (us := [(iv ((el b i88.toNat).kind)), (iv ((el b i88.toNat).n)), s115.v]) rfl ((hM.call h').seeR m3) hi112 ⟨(Cs.get (i := i88.toNat) (j := 0) ((hM.call h').seeR m3) (fun _ => rfl) hi112 rfl), (Cs.get (i := i88.toNat) (j := 1) ((hM.call h').seeR m3) (fun _ => rfl) hi112 rfl), (hc116 w' h'), trivial⟩) <| bs hx fun _ h118 hx => oc rfl rfl (fun w' h' => (hM.call h').callV fun X S oL hS hR hO => ct_laws_eqPart _ X S (el a i88.toNat) s107 (el b i88.toNat) s115 hS (hR _ m1) (hR _ m0) oL h118) <| ov rfl (fun w' h' => r_not rfl) <| o_nilM hM fun _ hM => sq_n ?_
 refine wcx hx rfl (fun hx => ?_) (fun hx => ?_)
 refine wc_sr <| was rfl rfl <| wl_sq <| wc_ret <| bk_ret <| sq_ret <| lp1_ret ?_
 cases hx
 obtain rfl := oi hx95
 replace hx := hx87
 refine bk_ret <| sq_ret ?_
 obtain rfl := oi hx
 exact fin_u [(bv false)] hM ⟨rfl, trivial⟩ rfl
 refine wc_skip <| bk_n <| sq_n <| wc_region <| wmv rfl rfl <| xgs hx fun hg127 hx => wv rfl (r_add rfl rfl hg127) <| was rfl rfl <| wl_nil ?_
 cases hx
 have hM := hM.fewer (rsC m2 (rsC m3 rsN))
 replace hM : St ⟨w, X, S⟩ [] [rV s_a.v (cSl 3 fDPart a), rV s_b.v (cSl 3 fDPart b)] _ := hM
 exact lp_end (m93, i88 + 1) (Nat.lt_succ_self _) ⟨rfl, rfl, rfl, trivial⟩ ⟨hM, hx95⟩
 refine wc_exit <| sq_exit <| lp1_exit ?_
 cases hx
 obtain rfl := oi hx95
 replace hx := hx87
 refine bk_here <| sq_n <| wc_sr <| was rfl rfl <| wl_sq <| wc_ret ?_
 obtain rfl := oi hx
 exact fin_u [(bv true)] hM ⟨rfl, trivial⟩ rfl

noncomputable def x_laws_eqEntry (a : DEntry) (b : DEntry) : Option Bool :=
  bif !decide (a.client = b.client) then (some false) else (bif !decide (a.seq = b.seq) then (some false) else (Option.bind (x_laws_eqPartS a.o b.o) fun r26 => bif !r26 then (some false) else (some true)))
theorem ct_laws_eqEntry (w : World) (X S : Bs) (a : DEntry) (s_a_2 : Sv) (b : DEntry) (s_b_2 : Sv) (hS : SX X S w) (a_a_2 : (cSl 3 fDPart a.o).rd S w s_a_2.v) (a_b_2 : (cSl 3 fDPart b.o).rd S w s_b_2.v) (oL : Sep [] X w) {r : Bool} (hx : x_laws_eqEntry a b = some r) :
 Ret Tryz.prog 189 [(.agg #[(iv a.client), (iv a.seq), s_a_2.v]), (.agg #[(iv b.client), (iv b.seq), s_b_2.v])] w (KV X S w (bv r)) := by
 unfold x_laws_eqEntry at hx
 refine enter Tryz.func189 rfl Tryz.ntmps189 (by kernel_rfl) rfl ?_
 have hM := ((St.enter oL hS).addV a_a_2).addV a_b_2
 refine wc_sr ?_
 refine w_ex rfl (x_box rfl hM ?_); intro b33 w32 hR34 hM
 refine w_ex rfl (x_box rfl hM ?_); intro b37 w36 hR38 hM
 refine was rfl rfl <| wl_sq <| wc_seq <| wc_sr <| wv rfl (r_fld u158 rfl rfl sz3 rfl) <| wv rfl (r_ldB u3 rfl rfl hM m1 rfl) <| wv rfl (r_fld u158 rfl rfl sz3 rfl) <| wv rfl (r_ldB u3 rfl rfl hM m0 rfl) <| wv rfl (r_neq rfl rfl) <| wl_sq ?_
 refine wcx hx rfl (fun hx => ?_) (fun hx => ?_)
 refine wc_sr <| was rfl rfl <| wl_sq <| wc_ret <| sq_ret ?_
 obtain rfl := oi hx
 exact fin_u [(bv false)] hM ⟨rfl, trivial⟩ rfl
 refine wc_skip <| sq_n <| wc_seq <| wc_sr <| wv rfl (r_fld u158 rfl rfl sz3 rfl) <| wv rfl (r_ldB u3 rfl rfl hM m1 rfl) <| wv rfl (r_fld u158 rfl rfl sz3 rfl) <| wv rfl (r_ldB u3 rfl rfl hM m0 rfl) <| wv rfl (r_neq rfl rfl) <| wl_sq ?_
 refine wcx hx rfl (fun hx => ?_) (fun hx => ?_)
 refine wc_sr <| was rfl rfl <| wl_sq <| wc_ret <| sq_ret ?_
 obtain rfl := oi hx
 exact fin_u [(bv false)] hM ⟨rfl, trivial⟩ rfl
 refine wc_skip <| sq_n <| wc_seq <| wc_sr <| wv rfl (r_fld u158 rfl rfl sz57 rfl) <| wv rfl (r_ldB u57 rfl rfl hM m1 rfl) <| wv rfl (r_fld u158 rfl rfl sz57 rfl) <| wv rfl (r_ldB u57 rfl rfl hM m0 rfl) <| bs hx fun _ h60 hx => w_cv hM rfl rfl (fun X S oL hS hR hO => ct_laws_eqPartS _ X S a.o s_a_2 b.o s_b_2 hS (hR _ m1) (hR _ m0) oL h60) fun _ hM => wv rfl (r_not rfl) <| wl_sq ?_
 refine wcx hx rfl (fun hx => ?_) (fun hx => ?_)
 refine wc_sr <| was rfl rfl <| wl_sq <| wc_ret <| sq_ret ?_
 obtain rfl := oi hx
 exact fin_u [(bv false)] hM ⟨rfl, trivial⟩ rfl
 refine wc_skip <| sq_n <| wc_sr <| was rfl rfl <| wl_sq <| wc_ret ?_
 obtain rfl := oi hx
 exact fin_u [(bv true)] hM ⟨rfl, trivial⟩ rfl

noncomputable def x_laws_eqEntryS_b0 (a : List DEntry) (b : List DEntry) (i9 : Int) : Option (Lr Int (Sum Unit Unit)) :=
  bif decide (i9 < (a.length : Int)) then (xg (0 ≤ i9 ∧ i9 < (a.length : Int)) <| xg (0 ≤ i9 ∧ i9 < (b.length : Int)) <| Option.bind (x_laws_eqEntry (el a i9.toNat) (el b i9.toNat)) fun r61 => bif !r61 then (some (Lr.out (Sum.inr (())))) else (xg (inI (i9 + 1)) <| some (Lr.go (i9 + 1)))) else (some (Lr.out (Sum.inl ())))
noncomputable def x_laws_eqEntryS_f0 (a : List DEntry) (b : List DEntry) (s72 : Int) : Option (Lr Int (Sum Unit Unit)) := x_laws_eqEntryS_b0 a b s72
noncomputable def x_laws_eqEntryS (a : List DEntry) (b : List DEntry) : Option Bool :=
  bif !decide ((a.length : Int) = (b.length : Int)) then (some false) else (Option.bind (iter (x_laws_eqEntryS_f0 a b) 0) fun (y73 : Sum Unit Unit) => Sum.elim (fun _y74 => some true) (fun _y75 => some false) y73)
theorem ct_laws_eqEntryS (w : World) (X S : Bs) (a : List DEntry) (s_a : Sv) (b : List DEntry) (s_b : Sv) (hS : SX X S w) (a_a_0 : (cSl 3 fDEntry a).rd S w s_a.v) (a_b_0 : (cSl 3 fDEntry b).rd S w s_b.v) (oL : Sep [] X w) {r : Bool} (hx : x_laws_eqEntryS a b = some r) :
 Ret Tryz.prog 158 [s_a.v, s_b.v] w (KV X S w (bv r)) := by
 unfold x_laws_eqEntryS at hx
 refine enter Tryz.func158 rfl Tryz.ntmps158 (by kernel_rfl) rfl ?_
 have hM := ((St.enter oL hS).addV a_a_0).addV a_b_0
 refine wc_sr <| was rfl rfl <| wl_sq <| wc_seq <| wc_sr <| wmv rfl rfl <| wv rfl (r_lenC u60 rfl (hM.seeR m1)) <| wmv rfl rfl <| wv rfl (r_lenC u60 rfl (hM.seeR m0)) <| wv rfl (r_neq rfl rfl) <| wl_sq ?_
 refine wcx hx rfl (fun hx => ?_) (fun hx => ?_)
 refine wc_sr <| was rfl rfl <| wl_sq <| wc_ret <| sq_ret ?_
 obtain rfl := oi hx
 exact fin_u [(bv false)] hM ⟨rfl, trivial⟩ rfl
 refine wc_skip <| sq_n <| wc_seq <| wc_sr <| was rfl rfl <| wl_sq <| wc_block <| bs hx fun y86 hx hx87 => ?_
 have hM := hM.fewer (rsC m1 (rsC m0 rsN))
 replace hM : St ⟨w, X, S⟩ [] [rV s_a.v (cSl 3 fDEntry a), rV s_b.v (cSl 3 fDEntry b)] _ := hM
 obtain ⟨m91, hx⟩ := iter_run hx
 refine wc_loop (un fun (m89 : Nat) => fun (i88 : Int) => [(0, s_a.v), (1, s_b.v), (5, (iv i88))]) (un fun (m89 : Nat) => fun (i88 : Int) w' => St ⟨w, X, S⟩ [] [rV s_a.v (cSl 3 fDEntry a), rV s_b.v (cSl 3 fDEntry b)] w' ∧ iterN _ m89 i88 = some y86) (fun p => p.1) (m91, 0) ⟨rfl, rfl, rfl, trivial⟩ ⟨hM, hx⟩ ?_
 rintro ⟨m89, i88⟩ w92 ⟨hM, hx⟩
 obtain ⟨m93, z94, rfl, hx, hx95⟩ := iterN_step hx
 unfold x_laws_eqEntryS_f0 x_laws_eqEntryS_b0 at hx
 try dsimp only at hx
 refine wc_seq <| wc_sr <| wmv rfl rfl <| wmv rfl rfl <| wv rfl (r_lenC u60 rfl (hM.seeR m0)) <| wv rfl (r_lss rfl rfl) <| wl_sq ?_
 refine wcx hx rfl (fun hx => ?_) (fun hx => ?_)
 refine wc_skip <| sq_n <| wc_seq <| wc_block <| wc_seq <| wc_draw [(0, 0), (1, 0), (2, 0), (3, 0), (4, 0), (5, 0), (6, 0), (7, 0), (8, 0), (9, 0)] Tryz_mixed (by kernel_rfl) rfl (by kernel_rfl) rfl <| omv rfl rfl <| omv rfl rfl <| xgs hx fun hg105 hx => ?_
 have hi104 : i88.toNat < a.length := by omega
 refine ov rfl (fun w' h' => r_ixC u60 sz158 rfl rfl ((hM.call h').seeR m0) hg105) ?_
 obtain ⟨s107, hM, hc108⟩ := hM.leaf (i := i88.toNat) (j := 2) m0 (fun _ => rfl) hi104 rfl
 refine ov rfl (fun w' h' => r_ldC (o := i88.toNat * 3) u158 sz158 rfl (us := [(iv ((el a i88.toNat).client)), (iv ((el a i88.toNat).seq)), s107.v]) rfl ((hM.call h').seeR m1) hi104 ⟨(Cs.get (i := i88.toNat) (j := 0) ((hM.call h').seeR m1) (fun _ => rfl) hi104 rfl), (Cs.get (i := i88.toNat) (j := 1) ((hM.call h').seeR m1) (fun _ => rfl) hi104 rfl), (hc108 w' h'), trivial⟩) <| omv rfl rfl <| omv rfl rfl <| xgs hx fun hg113 hx => ?_
 have hi112 : i88.toNat < b.length := by omega
 refine ov rfl (fun w' h' => r_ixC u60 sz158 rfl rfl ((hM.call h').seeR m2) hg113) ?_
 obtain ⟨s115, hM, hc116⟩ := hM.leaf (i := i88.toNat) (j := 2) m2 (fun _ => rfl) hi112 rfl
 refine ov rfl (fun w' h' => r_ldC (o := i88.toNat * 3) u158 sz158 rfl (us := [(iv ((el b i88.toNat).client)), (iv ((el b i88.toNat).seq)), s115.v]) rfl ((hM.call h').seeR m3) hi112 ⟨(Cs.get (i := i88.toNat) (j := 0) ((hM.call h').seeR m3) (fun _ => rfl) hi112 rfl), (Cs.get (i := i88.toNat) (j := 1) ((hM.call h').seeR m3) (fun _ => rfl) hi112 rfl), (hc116 w' h'), trivial⟩) <| bs hx fun _ h118 hx => oc rfl rfl (fun w' h' => (hM.call h').callV fun X S oL hS hR hO => ct_laws_eqEntry _ X S (el a i88.toNat) s107 (el b i88.toNat) s115 hS (hR _ m1) (hR _ m0) oL h118) <| ov rfl (fun w' h' => r_not rfl) <| o_nilM hM fun _ hM => sq_n ?_
 refine wcx hx rfl (fun hx => ?_) (fun hx => ?_)
 refine wc_sr <| was rfl rfl <| wl_sq <| wc_ret <| bk_ret <| sq_ret <| lp1_ret ?_
 cases hx
 obtain rfl := oi hx95
 replace hx := hx87
 refine bk_ret <| sq_ret ?_
 obtain rfl := oi hx
 exact fin_u [(bv false)] hM ⟨rfl, trivial⟩ rfl
 refine wc_skip <| bk_n <| sq_n <| wc_region <| wmv rfl rfl <| xgs hx fun hg127 hx => wv rfl (r_add rfl rfl hg127) <| was rfl rfl <| wl_nil ?_
 cases hx
 have hM := hM.fewer (rsC m2 (rsC m3 rsN))
 replace hM : St ⟨w, X, S⟩ [] [rV s_a.v (cSl 3 fDEntry a), rV s_b.v (cSl 3 fDEntry b)] _ := hM
 exact lp_end (m93, i88 + 1) (Nat.lt_succ_self _) ⟨rfl, rfl, rfl, trivial⟩ ⟨hM, hx95⟩
 refine wc_exit <| sq_exit <| lp1_exit ?_
 cases hx
 obtain rfl := oi hx95
 replace hx := hx87
 refine bk_here <| sq_n <| wc_sr <| was rfl rfl <| wl_sq <| wc_ret ?_
 obtain rfl := oi hx
 exact fin_u [(bv true)] hM ⟨rfl, trivial⟩ rfl

noncomputable def x_laws_eqSeen (a : DSeen) (b : DSeen) : Option Bool :=
  bif !decide (a.client = b.client) then (some false) else (bif !decide (a.seq = b.seq) then (some false) else (bif !decide (a.rev = b.rev) then (some false) else (some true)))
theorem ct_laws_eqSeen (w : World) (X S : Bs) (a : DSeen) (b : DSeen) (hS : SX X S w)  (oL : Sep [] X w) {r : Bool} (hx : x_laws_eqSeen a b = some r) :
 Ret Tryz.prog 190 [(.agg #[(iv a.client), (iv a.seq), (iv a.rev)]), (.agg #[(iv b.client), (iv b.seq), (iv b.rev)])] w (KV X S w (bv r)) := by
 unfold x_laws_eqSeen at hx
 refine enter Tryz.func190 rfl Tryz.ntmps190 (by kernel_rfl) rfl ?_
 have hM := St.enter oL hS
 refine wc_sr ?_
 refine w_ex rfl (x_box rfl hM ?_); intro b30 w29 hR31 hM
 refine w_ex rfl (x_box rfl hM ?_); intro b34 w33 hR35 hM
 refine was rfl rfl <| wl_sq <| wc_seq <| wc_sr <| wv rfl (r_fld u168 rfl rfl sz3 rfl) <| wv rfl (r_ldB u3 rfl rfl hM m1 rfl) <| wv rfl (r_fld u168 rfl rfl sz3 rfl) <| wv rfl (r_ldB u3 rfl rfl hM m0 rfl) <| wv rfl (r_neq rfl rfl) <| wl_sq ?_
 refine wcx hx rfl (fun hx => ?_) (fun hx => ?_)
 refine wc_sr <| was rfl rfl <| wl_sq <| wc_ret <| sq_ret ?_
 obtain rfl := oi hx
 exact fin_u [(bv false)] hM ⟨rfl, trivial⟩ rfl
 refine wc_skip <| sq_n <| wc_seq <| wc_sr <| wv rfl (r_fld u168 rfl rfl sz3 rfl) <| wv rfl (r_ldB u3 rfl rfl hM m1 rfl) <| wv rfl (r_fld u168 rfl rfl sz3 rfl) <| wv rfl (r_ldB u3 rfl rfl hM m0 rfl) <| wv rfl (r_neq rfl rfl) <| wl_sq ?_
 refine wcx hx rfl (fun hx => ?_) (fun hx => ?_)
 refine wc_sr <| was rfl rfl <| wl_sq <| wc_ret <| sq_ret ?_
 obtain rfl := oi hx
 exact fin_u [(bv false)] hM ⟨rfl, trivial⟩ rfl
 refine wc_skip <| sq_n <| wc_seq <| wc_sr <| wv rfl (r_fld u168 rfl rfl sz3 rfl) <| wv rfl (r_ldB u3 rfl rfl hM m1 rfl) <| wv rfl (r_fld u168 rfl rfl sz3 rfl) <| wv rfl (r_ldB u3 rfl rfl hM m0 rfl) <| wv rfl (r_neq rfl rfl) <| wl_sq ?_
 refine wcx hx rfl (fun hx => ?_) (fun hx => ?_)
 refine wc_sr <| was rfl rfl <| wl_sq <| wc_ret <| sq_ret ?_
 obtain rfl := oi hx
 exact fin_u [(bv false)] hM ⟨rfl, trivial⟩ rfl
 refine wc_skip <| sq_n <| wc_sr <| was rfl rfl <| wl_sq <| wc_ret ?_
 obtain rfl := oi hx
 exact fin_u [(bv true)] hM ⟨rfl, trivial⟩ rfl

noncomputable def x_laws_eqSeenS_b0 (a : List DSeen) (b : List DSeen) (i9 : Int) : Option (Lr Int (Sum Unit Unit)) :=
  bif decide (i9 < (a.length : Int)) then (xg (0 ≤ i9 ∧ i9 < (a.length : Int)) <| xg (0 ≤ i9 ∧ i9 < (b.length : Int)) <| Option.bind (x_laws_eqSeen (el a i9.toNat) (el b i9.toNat)) fun r53 => bif !r53 then (some (Lr.out (Sum.inr (())))) else (xg (inI (i9 + 1)) <| some (Lr.go (i9 + 1)))) else (some (Lr.out (Sum.inl ())))
noncomputable def x_laws_eqSeenS_f0 (a : List DSeen) (b : List DSeen) (s64 : Int) : Option (Lr Int (Sum Unit Unit)) := x_laws_eqSeenS_b0 a b s64
noncomputable def x_laws_eqSeenS (a : List DSeen) (b : List DSeen) : Option Bool :=
  bif !decide ((a.length : Int) = (b.length : Int)) then (some false) else (Option.bind (iter (x_laws_eqSeenS_f0 a b) 0) fun (y65 : Sum Unit Unit) => Sum.elim (fun _y66 => some true) (fun _y67 => some false) y65)
theorem ct_laws_eqSeenS (w : World) (X S : Bs) (a : List DSeen) (s_a : Sv) (b : List DSeen) (s_b : Sv) (hS : SX X S w) (a_a_0 : (cSl 3 fDSeen a).rd S w s_a.v) (a_b_0 : (cSl 3 fDSeen b).rd S w s_b.v) (oL : Sep [] X w) {r : Bool} (hx : x_laws_eqSeenS a b = some r) :
 Ret Tryz.prog 159 [s_a.v, s_b.v] w (KV X S w (bv r)) := by
 unfold x_laws_eqSeenS at hx
 refine enter Tryz.func159 rfl Tryz.ntmps159 (by kernel_rfl) rfl ?_
 have hM := ((St.enter oL hS).addV a_a_0).addV a_b_0
 refine wc_sr <| was rfl rfl <| wl_sq <| wc_seq <| wc_sr <| wmv rfl rfl <| wv rfl (r_lenC u130 rfl (hM.seeR m1)) <| wmv rfl rfl <| wv rfl (r_lenC u130 rfl (hM.seeR m0)) <| wv rfl (r_neq rfl rfl) <| wl_sq ?_
 refine wcx hx rfl (fun hx => ?_) (fun hx => ?_)
 refine wc_sr <| was rfl rfl <| wl_sq <| wc_ret <| sq_ret ?_
 obtain rfl := oi hx
 exact fin_u [(bv false)] hM ⟨rfl, trivial⟩ rfl
 refine wc_skip <| sq_n <| wc_seq <| wc_sr <| was rfl rfl <| wl_sq <| wc_block <| bs hx fun y78 hx hx79 => ?_
 have hM := hM.fewer (rsC m1 (rsC m0 rsN))
 replace hM : St ⟨w, X, S⟩ [] [rV s_a.v (cSl 3 fDSeen a), rV s_b.v (cSl 3 fDSeen b)] _ := hM
 obtain ⟨m83, hx⟩ := iter_run hx
 refine wc_loop (un fun (m81 : Nat) => fun (i80 : Int) => [(0, s_a.v), (1, s_b.v), (5, (iv i80))]) (un fun (m81 : Nat) => fun (i80 : Int) w' => St ⟨w, X, S⟩ [] [rV s_a.v (cSl 3 fDSeen a), rV s_b.v (cSl 3 fDSeen b)] w' ∧ iterN _ m81 i80 = some y78) (fun p => p.1) (m83, 0) ⟨rfl, rfl, rfl, trivial⟩ ⟨hM, hx⟩ ?_
 rintro ⟨m81, i80⟩ w84 ⟨hM, hx⟩
 obtain ⟨m85, z86, rfl, hx, hx87⟩ := iterN_step hx
 unfold x_laws_eqSeenS_f0 x_laws_eqSeenS_b0 at hx
 try dsimp only at hx
 refine wc_seq <| wc_sr <| wmv rfl rfl <| wmv rfl rfl <| wv rfl (r_lenC u130 rfl (hM.seeR m0)) <| wv rfl (r_lss rfl rfl) <| wl_sq ?_
 refine wcx hx rfl (fun hx => ?_) (fun hx => ?_)
 refine wc_skip <| sq_n <| wc_seq <| wc_block <| wc_seq <| wc_draw [(0, 0), (1, 0), (2, 0), (3, 0), (4, 0), (5, 0), (6, 0), (7, 0), (8, 0), (9, 0)] Tryz_mixed (by kernel_rfl) rfl (by kernel_rfl) rfl <| omv rfl rfl <| omv rfl rfl <| xgs hx fun hg97 hx => ?_
 have hi96 : i80.toNat < a.length := by omega
 refine ov rfl (fun w' h' => r_ixC u130 sz168 rfl rfl ((hM.call h').seeR m0) hg97) <| ov rfl (fun w' h' => r_ldC (o := i80.toNat * 3) u168 sz168 rfl (us := [(iv ((el a i80.toNat).client)), (iv ((el a i80.toNat).seq)), (iv ((el a i80.toNat).rev))]) rfl ((hM.call h').seeR m0) hi96 ⟨(Cs.get (i := i80.toNat) (j := 0) ((hM.call h').seeR m0) (fun _ => rfl) hi96 rfl), (Cs.get (i := i80.toNat) (j := 1) ((hM.call h').seeR m0) (fun _ => rfl) hi96 rfl), (Cs.get (i := i80.toNat) (j := 2) ((hM.call h').seeR m0) (fun _ => rfl) hi96 rfl), trivial⟩) <| omv rfl rfl <| omv rfl rfl <| xgs hx fun hg103 hx => ?_
 have hi102 : i80.toNat < b.length := by omega
 refine ov rfl (fun w' h' => r_ixC u130 sz168 rfl rfl ((hM.call h').seeR m1) hg103) <| ov rfl (fun w' h' => r_ldC (o := i80.toNat * 3) u168 sz168 rfl (us := [(iv ((el b i80.toNat).client)), (iv ((el b i80.toNat).seq)), (iv ((el b i80.toNat).rev))]) rfl ((hM.call h').seeR m1) hi102 ⟨(Cs.get (i := i80.toNat) (j := 0) ((hM.call h').seeR m1) (fun _ => rfl) hi102 rfl), (Cs.get (i := i80.toNat) (j := 1) ((hM.call h').seeR m1) (fun _ => rfl) hi102 rfl), (Cs.get (i := i80.toNat) (j := 2) ((hM.call h').seeR m1) (fun _ => rfl) hi102 rfl), trivial⟩) <| bs hx fun _ h106 hx => oc rfl rfl (fun w' h' => (hM.call h').callV fun X S oL hS hR hO => ct_laws_eqSeen _ X S (el a i80.toNat) (el b i80.toNat) hS  oL h106) <| ov rfl (fun w' h' => r_not rfl) <| o_nilM hM fun _ hM => sq_n ?_
 refine wcx hx rfl (fun hx => ?_) (fun hx => ?_)
 refine wc_sr <| was rfl rfl <| wl_sq <| wc_ret <| bk_ret <| sq_ret <| lp1_ret ?_
 cases hx
 obtain rfl := oi hx87
 replace hx := hx79
 refine bk_ret <| sq_ret ?_
 obtain rfl := oi hx
 exact fin_u [(bv false)] hM ⟨rfl, trivial⟩ rfl
 refine wc_skip <| bk_n <| sq_n <| wc_region <| wmv rfl rfl <| xgs hx fun hg115 hx => wv rfl (r_add rfl rfl hg115) <| was rfl rfl <| wl_nil ?_
 cases hx
 exact lp_end (m85, i80 + 1) (Nat.lt_succ_self _) ⟨rfl, rfl, rfl, trivial⟩ ⟨hM, hx87⟩
 refine wc_exit <| sq_exit <| lp1_exit ?_
 cases hx
 obtain rfl := oi hx87
 replace hx := hx79
 refine bk_here <| sq_n <| wc_sr <| was rfl rfl <| wl_sq <| wc_ret ?_
 obtain rfl := oi hx
 exact fin_u [(bv true)] hM ⟨rfl, trivial⟩ rfl

noncomputable def x_laws_eqDoc (a : DDoc) (b : DDoc) : Option Bool :=
  bif !decide (a.name = b.name) then (some false) else (bif !decide (a.from_ = b.from_) then (some false) else (Option.bind (x_laws_eqIntS a.text b.text) fun r26 => bif !r26 then (some false) else (Option.bind (x_laws_eqEntryS a.list b.list) fun r35 => bif !r35 then (some false) else (Option.bind (x_laws_eqSeenS a.seen b.seen) fun r44 => bif !r44 then (some false) else (some true)))))
theorem ct_laws_eqDoc (w : World) (X S : Bs) (a : DDoc) (s_a_2 : Sv) (s_a_3 : Sv) (s_a_4 : Sv) (b : DDoc) (s_b_2 : Sv) (s_b_3 : Sv) (s_b_4 : Sv) (hS : SX X S w) (a_a_2 : (cSl 1 fI a.text).rd S w s_a_2.v) (a_a_3 : (cSl 3 fDEntry a.list).rd S w s_a_3.v) (a_a_4 : (cSl 3 fDSeen a.seen).rd S w s_a_4.v) (a_b_2 : (cSl 1 fI b.text).rd S w s_b_2.v) (a_b_3 : (cSl 3 fDEntry b.list).rd S w s_b_3.v) (a_b_4 : (cSl 3 fDSeen b.seen).rd S w s_b_4.v) (oL : Sep [] X w) {r : Bool} (hx : x_laws_eqDoc a b = some r) :
 Ret Tryz.prog 115 [(.agg #[(.string a.name), (iv a.from_), s_a_2.v, s_a_3.v, s_a_4.v]), (.agg #[(.string b.name), (iv b.from_), s_b_2.v, s_b_3.v, s_b_4.v])] w (KV X S w (bv r)) := by
 unfold x_laws_eqDoc at hx
 refine enter Tryz.func115 rfl Tryz.ntmps115 (by kernel_rfl) rfl ?_
 have hM := ((((((St.enter oL hS).addV a_a_2).addV a_a_3).addV a_a_4).addV a_b_2).addV a_b_3).addV a_b_4
 refine wc_sr ?_
 refine w_ex rfl (x_box rfl hM ?_); intro b51 w50 hR52 hM
 refine w_ex rfl (x_box rfl hM ?_); intro b55 w54 hR56 hM
 refine was rfl rfl <| wl_sq <| wc_seq <| wc_sr <| wv rfl (r_fld u132 rfl rfl sz9 rfl) <| wv rfl (r_ldB u9 rfl rfl hM m1 rfl) <| wv rfl (r_fld u132 rfl rfl sz9 rfl) <| wv rfl (r_ldB u9 rfl rfl hM m0 rfl) <| wv rfl (r_neqs rfl rfl) <| wl_sq ?_
 refine wcx hx rfl (fun hx => ?_) (fun hx => ?_)
 refine wc_sr <| was rfl rfl <| wl_sq <| wc_ret <| sq_ret ?_
 obtain rfl := oi hx
 exact fin_u [(bv false)] hM ⟨rfl, trivial⟩ rfl
 refine wc_skip <| sq_n <| wc_seq <| wc_sr <| wv rfl (r_fld u132 rfl rfl sz3 rfl) <| wv rfl (r_ldB u3 rfl rfl hM m1 rfl) <| wv rfl (r_fld u132 rfl rfl sz3 rfl) <| wv rfl (r_ldB u3 rfl rfl hM m0 rfl) <| wv rfl (r_neq rfl rfl) <| wl_sq ?_
 refine wcx hx rfl (fun hx => ?_) (fun hx => ?_)
 refine wc_sr <| was rfl rfl <| wl_sq <| wc_ret <| sq_ret ?_
 obtain rfl := oi hx
 exact fin_u [(bv false)] hM ⟨rfl, trivial⟩ rfl
 refine wc_skip <| sq_n <| wc_seq <| wc_sr <| wv rfl (r_fld u132 rfl rfl sz26 rfl) <| wv rfl (r_ldB u26 rfl rfl hM m1 rfl) <| wv rfl (r_fld u132 rfl rfl sz26 rfl) <| wv rfl (r_ldB u26 rfl rfl hM m0 rfl) <| bs hx fun _ h78 hx => w_cv hM rfl rfl (fun X S oL hS hR hO => ct_laws_eqIntS _ X S a.text s_a_2 b.text s_b_2 hS (hR _ m5) (hR _ m2) oL h78) fun _ hM => wv rfl (r_not rfl) <| wl_sq ?_
 refine wcx hx rfl (fun hx => ?_) (fun hx => ?_)
 refine wc_sr <| was rfl rfl <| wl_sq <| wc_ret <| sq_ret ?_
 obtain rfl := oi hx
 exact fin_u [(bv false)] hM ⟨rfl, trivial⟩ rfl
 refine wc_skip <| sq_n <| wc_seq <| wc_sr <| wv rfl (r_fld u132 rfl rfl sz60 rfl) <| wv rfl (r_ldB u60 rfl rfl hM m1 rfl) <| wv rfl (r_fld u132 rfl rfl sz60 rfl) <| wv rfl (r_ldB u60 rfl rfl hM m0 rfl) <| bs hx fun _ h88 hx => w_cv hM rfl rfl (fun X S oL hS hR hO => ct_laws_eqEntryS _ X S a.list s_a_3 b.list s_b_3 hS (hR _ m4) (hR _ m1) oL h88) fun _ hM => wv rfl (r_not rfl) <| wl_sq ?_
 refine wcx hx rfl (fun hx => ?_) (fun hx => ?_)
 refine wc_sr <| was rfl rfl <| wl_sq <| wc_ret <| sq_ret ?_
 obtain rfl := oi hx
 exact fin_u [(bv false)] hM ⟨rfl, trivial⟩ rfl
 refine wc_skip <| sq_n <| wc_seq <| wc_sr <| wv rfl (r_fld u132 rfl rfl sz130 rfl) <| wv rfl (r_ldB u130 rfl rfl hM m1 rfl) <| wv rfl (r_fld u132 rfl rfl sz130 rfl) <| wv rfl (r_ldB u130 rfl rfl hM m0 rfl) <| bs hx fun _ h98 hx => w_cv hM rfl rfl (fun X S oL hS hR hO => ct_laws_eqSeenS _ X S a.seen s_a_4 b.seen s_b_4 hS (hR _ m3) (hR _ m0) oL h98) fun _ hM => wv rfl (r_not rfl) <| wl_sq ?_
 refine wcx hx rfl (fun hx => ?_) (fun hx => ?_)
 refine wc_sr <| was rfl rfl <| wl_sq <| wc_ret <| sq_ret ?_
 obtain rfl := oi hx
 exact fin_u [(bv false)] hM ⟨rfl, trivial⟩ rfl
 refine wc_skip <| sq_n <| wc_sr <| was rfl rfl <| wl_sq <| wc_ret ?_
 obtain rfl := oi hx
 exact fin_u [(bv true)] hM ⟨rfl, trivial⟩ rfl

noncomputable def x_laws_eqDocS_b0 (a : List DDoc) (b : List DDoc) (i9 : Int) : Option (Lr Int (Sum Unit Unit)) :=
  bif decide (i9 < (a.length : Int)) then (xg (0 ≤ i9 ∧ i9 < (a.length : Int)) <| xg (0 ≤ i9 ∧ i9 < (b.length : Int)) <| Option.bind (x_laws_eqDoc (el a i9.toNat) (el b i9.toNat)) fun r77 => bif !r77 then (some (Lr.out (Sum.inr (())))) else (xg (inI (i9 + 1)) <| some (Lr.go (i9 + 1)))) else (some (Lr.out (Sum.inl ())))
noncomputable def x_laws_eqDocS_f0 (a : List DDoc) (b : List DDoc) (s88 : Int) : Option (Lr Int (Sum Unit Unit)) := x_laws_eqDocS_b0 a b s88
noncomputable def x_laws_eqDocS (a : List DDoc) (b : List DDoc) : Option Bool :=
  bif !decide ((a.length : Int) = (b.length : Int)) then (some false) else (Option.bind (iter (x_laws_eqDocS_f0 a b) 0) fun (y89 : Sum Unit Unit) => Sum.elim (fun _y90 => some true) (fun _y91 => some false) y89)
theorem ct_laws_eqDocS (w : World) (X S : Bs) (a : List DDoc) (s_a : Sv) (b : List DDoc) (s_b : Sv) (hS : SX X S w) (a_a_0 : (cSl 5 fDDoc a).rd S w s_a.v) (a_b_0 : (cSl 5 fDDoc b).rd S w s_b.v) (oL : Sep [] X w) {r : Bool} (hx : x_laws_eqDocS a b = some r) :
 Ret Tryz.prog 69 [s_a.v, s_b.v] w (KV X S w (bv r)) := by
 unfold x_laws_eqDocS at hx
 refine enter Tryz.func69 rfl Tryz.ntmps69 (by kernel_rfl) rfl ?_
 have hM := ((St.enter oL hS).addV a_a_0).addV a_b_0
 refine wc_sr <| was rfl rfl <| wl_sq <| wc_seq <| wc_sr <| wmv rfl rfl <| wv rfl (r_lenC u33 rfl (hM.seeR m1)) <| wmv rfl rfl <| wv rfl (r_lenC u33 rfl (hM.seeR m0)) <| wv rfl (r_neq rfl rfl) <| wl_sq ?_
 refine wcx hx rfl (fun hx => ?_) (fun hx => ?_)
 refine wc_sr <| was rfl rfl <| wl_sq <| wc_ret <| sq_ret ?_
 obtain rfl := oi hx
 exact fin_u [(bv false)] hM ⟨rfl, trivial⟩ rfl
 refine wc_skip <| sq_n <| wc_seq <| wc_sr <| was rfl rfl <| wl_sq <| wc_block <| bs hx fun y102 hx hx103 => ?_
 have hM := hM.fewer (rsC m1 (rsC m0 rsN))
 replace hM : St ⟨w, X, S⟩ [] [rV s_a.v (cSl 5 fDDoc a), rV s_b.v (cSl 5 fDDoc b)] _ := hM
 obtain ⟨m107, hx⟩ := iter_run hx
 refine wc_loop (un fun (m105 : Nat) => fun (i104 : Int) => [(0, s_a.v), (1, s_b.v), (5, (iv i104))]) (un fun (m105 : Nat) => fun (i104 : Int) w' => St ⟨w, X, S⟩ [] [rV s_a.v (cSl 5 fDDoc a), rV s_b.v (cSl 5 fDDoc b)] w' ∧ iterN _ m105 i104 = some y102) (fun p => p.1) (m107, 0) ⟨rfl, rfl, rfl, trivial⟩ ⟨hM, hx⟩ ?_
 rintro ⟨m105, i104⟩ w108 ⟨hM, hx⟩
 obtain ⟨m109, z110, rfl, hx, hx111⟩ := iterN_step hx
 unfold x_laws_eqDocS_f0 x_laws_eqDocS_b0 at hx
 try dsimp only at hx
 refine wc_seq <| wc_sr <| wmv rfl rfl <| wmv rfl rfl <| wv rfl (r_lenC u33 rfl (hM.seeR m0)) <| wv rfl (r_lss rfl rfl) <| wl_sq ?_
 refine wcx hx rfl (fun hx => ?_) (fun hx => ?_)
 refine wc_skip <| sq_n <| wc_seq <| wc_block <| wc_seq <| wc_draw [(0, 0), (1, 0), (2, 0), (3, 0), (4, 0), (5, 0), (6, 0), (7, 0), (8, 0), (9, 0)] Tryz_mixed (by kernel_rfl) rfl (by kernel_rfl) rfl <| omv rfl rfl <| omv rfl rfl <| xgs hx fun hg121 hx => ?_
 have hi120 : i104.toNat < a.length := by omega
 refine ov rfl (fun w' h' => r_ixC u33 sz132 rfl rfl ((hM.call h').seeR m0) hg121) ?_
 obtain ⟨s123, hM, hc124⟩ := hM.leaf (i := i104.toNat) (j := 2) m0 (fun _ => rfl) hi120 rfl
 obtain ⟨s125, hM, hc126⟩ := hM.leaf (i := i104.toNat) (j := 3) m1 (fun _ => rfl) hi120 rfl
 obtain ⟨s127, hM, hc128⟩ := hM.leaf (i := i104.toNat) (j := 4) m2 (fun _ => rfl) hi120 rfl
 refine ov rfl (fun w' h' => r_ldC (o := i104.toNat * 5) u132 sz132 rfl (us := [(.string ((el a i104.toNat).name)), (iv ((el a i104.toNat).from_)), s123.v, s125.v, s127.v]) rfl ((hM.call h').seeR m3) hi120 ⟨(Cs.get (i := i104.toNat) (j := 0) ((hM.call h').seeR m3) (fun _ => rfl) hi120 rfl), (Cs.get (i := i104.toNat) (j := 1) ((hM.call h').seeR m3) (fun _ => rfl) hi120 rfl), (hc124 w' h'), (hc126 w' h'), (hc128 w' h'), trivial⟩) <| omv rfl rfl <| omv rfl rfl <| xgs hx fun hg133 hx => ?_
 have hi132 : i104.toNat < b.length := by omega
 refine ov rfl (fun w' h' => r_ixC u33 sz132 rfl rfl ((hM.call h').seeR m4) hg133) ?_
 obtain ⟨s135, hM, hc136⟩ := hM.leaf (i := i104.toNat) (j := 2) m4 (fun _ => rfl) hi132 rfl
 obtain ⟨s137, hM, hc138⟩ := hM.leaf (i := i104.toNat) (j := 3) m5 (fun _ => rfl) hi132 rfl
 obtain ⟨s139, hM, hc140⟩ := hM.leaf (i := i104.toNat) (j := 4) m6 (fun _ => rfl) hi132 rfl
 refine ov rfl (fun w' h' => r_ldC (o := i104.toNat * 5) u132 sz132 rfl (us := [(.string ((el b i104.toNat).name)), (iv ((el b i104.toNat).from_)), s135.v, s137.v, s139.v]) rfl ((hM.call h').seeR m7) hi132 ⟨(Cs.get (i := i104.toNat) (j := 0) ((hM.call h').seeR m7) (fun _ => rfl) hi132 rfl), (Cs.get (i := i104.toNat) (j := 1) ((hM.call h').seeR m7) (fun _ => rfl) hi132 rfl), (hc136 w' h'), (hc138 w' h'), (hc140 w' h'), trivial⟩) <| bs hx fun _ h142 hx => oc rfl rfl (fun w' h' => (hM.call h').callV fun X S oL hS hR hO => ct_laws_eqDoc _ X S (el a i104.toNat) s123 s125 s127 (el b i104.toNat) s135 s137 s139 hS (hR _ m5) (hR _ m4) (hR _ m3) (hR _ m2) (hR _ m1) (hR _ m0) oL h142) <| ov rfl (fun w' h' => r_not rfl) <| o_nilM hM fun _ hM => sq_n ?_
 refine wcx hx rfl (fun hx => ?_) (fun hx => ?_)
 refine wc_sr <| was rfl rfl <| wl_sq <| wc_ret <| bk_ret <| sq_ret <| lp1_ret ?_
 cases hx
 obtain rfl := oi hx111
 replace hx := hx103
 refine bk_ret <| sq_ret ?_
 obtain rfl := oi hx
 exact fin_u [(bv false)] hM ⟨rfl, trivial⟩ rfl
 refine wc_skip <| bk_n <| sq_n <| wc_region <| wmv rfl rfl <| xgs hx fun hg151 hx => wv rfl (r_add rfl rfl hg151) <| was rfl rfl <| wl_nil ?_
 cases hx
 have hM := hM.fewer (rsC m6 (rsC m7 rsN))
 replace hM : St ⟨w, X, S⟩ [] [rV s_a.v (cSl 5 fDDoc a), rV s_b.v (cSl 5 fDDoc b)] _ := hM
 exact lp_end (m109, i104 + 1) (Nat.lt_succ_self _) ⟨rfl, rfl, rfl, trivial⟩ ⟨hM, hx111⟩
 refine wc_exit <| sq_exit <| lp1_exit ?_
 cases hx
 obtain rfl := oi hx111
 replace hx := hx103
 refine bk_here <| sq_n <| wc_sr <| was rfl rfl <| wl_sq <| wc_ret ?_
 obtain rfl := oi hx
 exact fin_u [(bv true)] hM ⟨rfl, trivial⟩ rfl

noncomputable def x_laws_eqRing (a : DRing) (b : DRing) : Option Bool :=
  bif !decide (a.cap = b.cap) then (some false) else (bif !decide (a.next = b.next) then (some false) else (bif !(a.out == b.out) then (some false) else (Option.bind (x_laws_eqEntryS a.list b.list) fun r32 => bif !r32 then (some false) else (some true))))
theorem ct_laws_eqRing (w : World) (X S : Bs) (a : DRing) (s_a_3 : Sv) (b : DRing) (s_b_3 : Sv) (hS : SX X S w) (a_a_3 : (cSl 3 fDEntry a.list).rd S w s_a_3.v) (a_b_3 : (cSl 3 fDEntry b.list).rd S w s_b_3.v) (oL : Sep [] X w) {r : Bool} (hx : x_laws_eqRing a b = some r) :
 Ret Tryz.prog 160 [(.agg #[(iv a.cap), (iv a.next), (bv a.out), s_a_3.v]), (.agg #[(iv b.cap), (iv b.next), (bv b.out), s_b_3.v])] w (KV X S w (bv r)) := by
 unfold x_laws_eqRing at hx
 refine enter Tryz.func160 rfl Tryz.ntmps160 (by kernel_rfl) rfl ?_
 have hM := ((St.enter oL hS).addV a_a_3).addV a_b_3
 refine wc_sr ?_
 refine w_ex rfl (x_box rfl hM ?_); intro b39 w38 hR40 hM
 refine w_ex rfl (x_box rfl hM ?_); intro b43 w42 hR44 hM
 refine was rfl rfl <| wl_sq <| wc_seq <| wc_sr <| wv rfl (r_fld u135 rfl rfl sz3 rfl) <| wv rfl (r_ldB u3 rfl rfl hM m1 rfl) <| wv rfl (r_fld u135 rfl rfl sz3 rfl) <| wv rfl (r_ldB u3 rfl rfl hM m0 rfl) <| wv rfl (r_neq rfl rfl) <| wl_sq ?_
 refine wcx hx rfl (fun hx => ?_) (fun hx => ?_)
 refine wc_sr <| was rfl rfl <| wl_sq <| wc_ret <| sq_ret ?_
 obtain rfl := oi hx
 exact fin_u [(bv false)] hM ⟨rfl, trivial⟩ rfl
 refine wc_skip <| sq_n <| wc_seq <| wc_sr <| wv rfl (r_fld u135 rfl rfl sz3 rfl) <| wv rfl (r_ldB u3 rfl rfl hM m1 rfl) <| wv rfl (r_fld u135 rfl rfl sz3 rfl) <| wv rfl (r_ldB u3 rfl rfl hM m0 rfl) <| wv rfl (r_neq rfl rfl) <| wl_sq ?_
 refine wcx hx rfl (fun hx => ?_) (fun hx => ?_)
 refine wc_sr <| was rfl rfl <| wl_sq <| wc_ret <| sq_ret ?_
 obtain rfl := oi hx
 exact fin_u [(bv false)] hM ⟨rfl, trivial⟩ rfl
 refine wc_skip <| sq_n <| wc_seq <| wc_sr <| wv rfl (r_fld u135 rfl rfl sz4 rfl) <| wv rfl (r_ldB u4 rfl rfl hM m1 rfl) <| wv rfl (r_fld u135 rfl rfl sz4 rfl) <| wv rfl (r_ldB u4 rfl rfl hM m0 rfl) <| wv rfl (r_neqb u4 rfl rfl) <| wl_sq ?_
 refine wcx hx rfl (fun hx => ?_) (fun hx => ?_)
 refine wc_sr <| was rfl rfl <| wl_sq <| wc_ret <| sq_ret ?_
 obtain rfl := oi hx
 exact fin_u [(bv false)] hM ⟨rfl, trivial⟩ rfl
 refine wc_skip <| sq_n <| wc_seq <| wc_sr <| wv rfl (r_fld u135 rfl rfl sz60 rfl) <| wv rfl (r_ldB u60 rfl rfl hM m1 rfl) <| wv rfl (r_fld u135 rfl rfl sz60 rfl) <| wv rfl (r_ldB u60 rfl rfl hM m0 rfl) <| bs hx fun _ h73 hx => w_cv hM rfl rfl (fun X S oL hS hR hO => ct_laws_eqEntryS _ X S a.list s_a_3 b.list s_b_3 hS (hR _ m1) (hR _ m0) oL h73) fun _ hM => wv rfl (r_not rfl) <| wl_sq ?_
 refine wcx hx rfl (fun hx => ?_) (fun hx => ?_)
 refine wc_sr <| was rfl rfl <| wl_sq <| wc_ret <| sq_ret ?_
 obtain rfl := oi hx
 exact fin_u [(bv false)] hM ⟨rfl, trivial⟩ rfl
 refine wc_skip <| sq_n <| wc_sr <| was rfl rfl <| wl_sq <| wc_ret ?_
 obtain rfl := oi hx
 exact fin_u [(bv true)] hM ⟨rfl, trivial⟩ rfl

noncomputable def x_laws_eqSub (a : DSub) (b : DSub) : Option Bool :=
  bif !decide (a.id = b.id) then (some false) else (bif !decide (a.doc = b.doc) then (some false) else (Option.bind (x_laws_eqRing a.r b.r) fun r26 => bif !r26 then (some false) else (some true)))
theorem ct_laws_eqSub (w : World) (X S : Bs) (a : DSub) (s_a_5 : Sv) (b : DSub) (s_b_5 : Sv) (hS : SX X S w) (a_a_5 : (cSl 3 fDEntry a.r.list).rd S w s_a_5.v) (a_b_5 : (cSl 3 fDEntry b.r.list).rd S w s_b_5.v) (oL : Sep [] X w) {r : Bool} (hx : x_laws_eqSub a b = some r) :
 Ret Tryz.prog 116 [(.agg #[(iv a.id), (.string a.doc), (iv a.r.cap), (iv a.r.next), (bv a.r.out), s_a_5.v]), (.agg #[(iv b.id), (.string b.doc), (iv b.r.cap), (iv b.r.next), (bv b.r.out), s_b_5.v])] w (KV X S w (bv r)) := by
 unfold x_laws_eqSub at hx
 refine enter Tryz.func116 rfl Tryz.ntmps116 (by kernel_rfl) rfl ?_
 have hM := ((St.enter oL hS).addV a_a_5).addV a_b_5
 refine wc_sr ?_
 refine w_ex rfl (x_box rfl hM ?_); intro b33 w32 hR34 hM
 refine w_ex rfl (x_box rfl hM ?_); intro b37 w36 hR38 hM
 refine was rfl rfl <| wl_sq <| wc_seq <| wc_sr <| wv rfl (r_fld u137 rfl rfl sz3 rfl) <| wv rfl (r_ldB u3 rfl rfl hM m1 rfl) <| wv rfl (r_fld u137 rfl rfl sz3 rfl) <| wv rfl (r_ldB u3 rfl rfl hM m0 rfl) <| wv rfl (r_neq rfl rfl) <| wl_sq ?_
 refine wcx hx rfl (fun hx => ?_) (fun hx => ?_)
 refine wc_sr <| was rfl rfl <| wl_sq <| wc_ret <| sq_ret ?_
 obtain rfl := oi hx
 exact fin_u [(bv false)] hM ⟨rfl, trivial⟩ rfl
 refine wc_skip <| sq_n <| wc_seq <| wc_sr <| wv rfl (r_fld u137 rfl rfl sz9 rfl) <| wv rfl (r_ldB u9 rfl rfl hM m1 rfl) <| wv rfl (r_fld u137 rfl rfl sz9 rfl) <| wv rfl (r_ldB u9 rfl rfl hM m0 rfl) <| wv rfl (r_neqs rfl rfl) <| wl_sq ?_
 refine wcx hx rfl (fun hx => ?_) (fun hx => ?_)
 refine wc_sr <| was rfl rfl <| wl_sq <| wc_ret <| sq_ret ?_
 obtain rfl := oi hx
 exact fin_u [(bv false)] hM ⟨rfl, trivial⟩ rfl
 refine wc_skip <| sq_n <| wc_seq <| wc_sr <| wv rfl (r_fld u137 rfl rfl sz135 rfl) <| wv rfl (r_ldBS u135 sz135 rfl (us := [(iv a.r.cap), (iv a.r.next), (bv a.r.out), s_a_5.v]) rfl hM m1 rfl) <| wv rfl (r_fld u137 rfl rfl sz135 rfl) <| wv rfl (r_ldBS u135 sz135 rfl (us := [(iv b.r.cap), (iv b.r.next), (bv b.r.out), s_b_5.v]) rfl hM m0 rfl) <| bs hx fun _ h60 hx => w_cv hM rfl rfl (fun X S oL hS hR hO => ct_laws_eqRing _ X S a.r s_a_5 b.r s_b_5 hS (hR _ m1) (hR _ m0) oL h60) fun _ hM => wv rfl (r_not rfl) <| wl_sq ?_
 refine wcx hx rfl (fun hx => ?_) (fun hx => ?_)
 refine wc_sr <| was rfl rfl <| wl_sq <| wc_ret <| sq_ret ?_
 obtain rfl := oi hx
 exact fin_u [(bv false)] hM ⟨rfl, trivial⟩ rfl
 refine wc_skip <| sq_n <| wc_sr <| was rfl rfl <| wl_sq <| wc_ret ?_
 obtain rfl := oi hx
 exact fin_u [(bv true)] hM ⟨rfl, trivial⟩ rfl

noncomputable def x_laws_eqSubS_b0 (a : List DSub) (b : List DSub) (i9 : Int) : Option (Lr Int (Sum Unit Unit)) :=
  bif decide (i9 < (a.length : Int)) then (xg (0 ≤ i9 ∧ i9 < (a.length : Int)) <| xg (0 ≤ i9 ∧ i9 < (b.length : Int)) <| Option.bind (x_laws_eqSub (el a i9.toNat) (el b i9.toNat)) fun r61 => bif !r61 then (some (Lr.out (Sum.inr (())))) else (xg (inI (i9 + 1)) <| some (Lr.go (i9 + 1)))) else (some (Lr.out (Sum.inl ())))
noncomputable def x_laws_eqSubS_f0 (a : List DSub) (b : List DSub) (s72 : Int) : Option (Lr Int (Sum Unit Unit)) := x_laws_eqSubS_b0 a b s72
noncomputable def x_laws_eqSubS (a : List DSub) (b : List DSub) : Option Bool :=
  bif !decide ((a.length : Int) = (b.length : Int)) then (some false) else (Option.bind (iter (x_laws_eqSubS_f0 a b) 0) fun (y73 : Sum Unit Unit) => Sum.elim (fun _y74 => some true) (fun _y75 => some false) y73)
theorem ct_laws_eqSubS (w : World) (X S : Bs) (a : List DSub) (s_a : Sv) (b : List DSub) (s_b : Sv) (hS : SX X S w) (a_a_0 : (cSl 6 fDSub a).rd S w s_a.v) (a_b_0 : (cSl 6 fDSub b).rd S w s_b.v) (oL : Sep [] X w) {r : Bool} (hx : x_laws_eqSubS a b = some r) :
 Ret Tryz.prog 70 [s_a.v, s_b.v] w (KV X S w (bv r)) := by
 unfold x_laws_eqSubS at hx
 refine enter Tryz.func70 rfl Tryz.ntmps70 (by kernel_rfl) rfl ?_
 have hM := ((St.enter oL hS).addV a_a_0).addV a_b_0
 refine wc_sr <| was rfl rfl <| wl_sq <| wc_seq <| wc_sr <| wmv rfl rfl <| wv rfl (r_lenC u34 rfl (hM.seeR m1)) <| wmv rfl rfl <| wv rfl (r_lenC u34 rfl (hM.seeR m0)) <| wv rfl (r_neq rfl rfl) <| wl_sq ?_
 refine wcx hx rfl (fun hx => ?_) (fun hx => ?_)
 refine wc_sr <| was rfl rfl <| wl_sq <| wc_ret <| sq_ret ?_
 obtain rfl := oi hx
 exact fin_u [(bv false)] hM ⟨rfl, trivial⟩ rfl
 refine wc_skip <| sq_n <| wc_seq <| wc_sr <| was rfl rfl <| wl_sq <| wc_block <| bs hx fun y86 hx hx87 => ?_
 have hM := hM.fewer (rsC m1 (rsC m0 rsN))
 replace hM : St ⟨w, X, S⟩ [] [rV s_a.v (cSl 6 fDSub a), rV s_b.v (cSl 6 fDSub b)] _ := hM
 obtain ⟨m91, hx⟩ := iter_run hx
 refine wc_loop (un fun (m89 : Nat) => fun (i88 : Int) => [(0, s_a.v), (1, s_b.v), (5, (iv i88))]) (un fun (m89 : Nat) => fun (i88 : Int) w' => St ⟨w, X, S⟩ [] [rV s_a.v (cSl 6 fDSub a), rV s_b.v (cSl 6 fDSub b)] w' ∧ iterN _ m89 i88 = some y86) (fun p => p.1) (m91, 0) ⟨rfl, rfl, rfl, trivial⟩ ⟨hM, hx⟩ ?_
 rintro ⟨m89, i88⟩ w92 ⟨hM, hx⟩
 obtain ⟨m93, z94, rfl, hx, hx95⟩ := iterN_step hx
 unfold x_laws_eqSubS_f0 x_laws_eqSubS_b0 at hx
 try dsimp only at hx
 refine wc_seq <| wc_sr <| wmv rfl rfl <| wmv rfl rfl <| wv rfl (r_lenC u34 rfl (hM.seeR m0)) <| wv rfl (r_lss rfl rfl) <| wl_sq ?_
 refine wcx hx rfl (fun hx => ?_) (fun hx => ?_)
 refine wc_skip <| sq_n <| wc_seq <| wc_block <| wc_seq <| wc_draw [(0, 0), (1, 0), (2, 0), (3, 0), (4, 0), (5, 0), (6, 0), (7, 0), (8, 0), (9, 0)] Tryz_mixed (by kernel_rfl) rfl (by kernel_rfl) rfl <| omv rfl rfl <| omv rfl rfl <| xgs hx fun hg105 hx => ?_
 have hi104 : i88.toNat < a.length := by omega
 refine ov rfl (fun w' h' => r_ixC u34 sz137 rfl rfl ((hM.call h').seeR m0) hg105) ?_
 obtain ⟨s107, hM, hc108⟩ := hM.leaf (i := i88.toNat) (j := 5) m0 (fun _ => rfl) hi104 rfl
 refine ov rfl (fun w' h' => r_ldC (o := i88.toNat * 6) u137 sz137 rfl (us := [(iv ((el a i88.toNat).id)), (.string ((el a i88.toNat).doc)), (iv ((el a i88.toNat).r.cap)), (iv ((el a i88.toNat).r.next)), (bv ((el a i88.toNat).r.out)), s107.v]) rfl ((hM.call h').seeR m1) hi104 ⟨(Cs.get (i := i88.toNat) (j := 0) ((hM.call h').seeR m1) (fun _ => rfl) hi104 rfl), (Cs.get (i := i88.toNat) (j := 1) ((hM.call h').seeR m1) (fun _ => rfl) hi104 rfl), (Cs.get (i := i88.toNat) (j := 2) ((hM.call h').seeR m1) (fun _ => rfl) hi104 rfl), (Cs.get (i := i88.toNat) (j := 3) ((hM.call h').seeR m1) (fun _ => rfl) hi104 rfl), (Cs.get (i := i88.toNat) (j := 4) ((hM.call h').seeR m1) (fun _ => rfl) hi104 rfl), (hc108 w' h'), trivial⟩) <| omv rfl rfl <| omv rfl rfl <| xgs hx fun hg113 hx => ?_
 have hi112 : i88.toNat < b.length := by omega
 refine ov rfl (fun w' h' => r_ixC u34 sz137 rfl rfl ((hM.call h').seeR m2) hg113) ?_
 obtain ⟨s115, hM, hc116⟩ := hM.leaf (i := i88.toNat) (j := 5) m2 (fun _ => rfl) hi112 rfl
 refine ov rfl (fun w' h' => r_ldC (o := i88.toNat * 6) u137 sz137 rfl (us := [(iv ((el b i88.toNat).id)), (.string ((el b i88.toNat).doc)), (iv ((el b i88.toNat).r.cap)), (iv ((el b i88.toNat).r.next)), (bv ((el b i88.toNat).r.out)), s115.v]) rfl ((hM.call h').seeR m3) hi112 ⟨(Cs.get (i := i88.toNat) (j := 0) ((hM.call h').seeR m3) (fun _ => rfl) hi112 rfl), (Cs.get (i := i88.toNat) (j := 1) ((hM.call h').seeR m3) (fun _ => rfl) hi112 rfl), (Cs.get (i := i88.toNat) (j := 2) ((hM.call h').seeR m3) (fun _ => rfl) hi112 rfl), (Cs.get (i := i88.toNat) (j := 3) ((hM.call h').seeR m3) (fun _ => rfl) hi112 rfl), (Cs.get (i := i88.toNat) (j := 4) ((hM.call h').seeR m3) (fun _ => rfl) hi112 rfl), (hc116 w' h'), trivial⟩) <| bs hx fun _ h118 hx => oc rfl rfl (fun w' h' => (hM.call h').callV fun X S oL hS hR hO => ct_laws_eqSub _ X S (el a i88.toNat) s107 (el b i88.toNat) s115 hS (hR _ m1) (hR _ m0) oL h118) <| ov rfl (fun w' h' => r_not rfl) <| o_nilM hM fun _ hM => sq_n ?_
 refine wcx hx rfl (fun hx => ?_) (fun hx => ?_)
 refine wc_sr <| was rfl rfl <| wl_sq <| wc_ret <| bk_ret <| sq_ret <| lp1_ret ?_
 cases hx
 obtain rfl := oi hx95
 replace hx := hx87
 refine bk_ret <| sq_ret ?_
 obtain rfl := oi hx
 exact fin_u [(bv false)] hM ⟨rfl, trivial⟩ rfl
 refine wc_skip <| bk_n <| sq_n <| wc_region <| wmv rfl rfl <| xgs hx fun hg127 hx => wv rfl (r_add rfl rfl hg127) <| was rfl rfl <| wl_nil ?_
 cases hx
 have hM := hM.fewer (rsC m2 (rsC m3 rsN))
 replace hM : St ⟨w, X, S⟩ [] [rV s_a.v (cSl 6 fDSub a), rV s_b.v (cSl 6 fDSub b)] _ := hM
 exact lp_end (m93, i88 + 1) (Nat.lt_succ_self _) ⟨rfl, rfl, rfl, trivial⟩ ⟨hM, hx95⟩
 refine wc_exit <| sq_exit <| lp1_exit ?_
 cases hx
 obtain rfl := oi hx95
 replace hx := hx87
 refine bk_here <| sq_n <| wc_sr <| was rfl rfl <| wl_sq <| wc_ret ?_
 obtain rfl := oi hx
 exact fin_u [(bv true)] hM ⟨rfl, trivial⟩ rfl

noncomputable def x_laws_eqHub (a : DHub) (b : DHub) : Option Bool :=
  bif !(a.shut == b.shut) then (some false) else (Option.bind (x_laws_eqDocS a.docs b.docs) fun r20 => bif !r20 then (some false) else (Option.bind (x_laws_eqSubS a.subs b.subs) fun r29 => bif !r29 then (some false) else (bif !decide (a.last = b.last) then (some false) else (some true))))
theorem ct_laws_eqHub (w : World) (X S : Bs) (a : DHub) (s_a_1 : Sv) (s_a_2 : Sv) (b : DHub) (s_b_1 : Sv) (s_b_2 : Sv) (hS : SX X S w) (a_a_1 : (cSl 5 fDDoc a.docs).rd S w s_a_1.v) (a_a_2 : (cSl 6 fDSub a.subs).rd S w s_a_2.v) (a_b_1 : (cSl 5 fDDoc b.docs).rd S w s_b_1.v) (a_b_2 : (cSl 6 fDSub b.subs).rd S w s_b_2.v) (oL : Sep [] X w) {r : Bool} (hx : x_laws_eqHub a b = some r) :
 Ret Tryz.prog 30 [(.agg #[(bv a.shut), s_a_1.v, s_a_2.v, (iv a.last)]), (.agg #[(bv b.shut), s_b_1.v, s_b_2.v, (iv b.last)])] w (KV X S w (bv r)) := by
 unfold x_laws_eqHub at hx
 refine enter Tryz.func30 rfl Tryz.ntmps30 (by kernel_rfl) rfl ?_
 have hM := ((((St.enter oL hS).addV a_a_1).addV a_a_2).addV a_b_1).addV a_b_2
 refine wc_sr ?_
 refine w_ex rfl (x_box rfl hM ?_); intro b42 w41 hR43 hM
 refine w_ex rfl (x_box rfl hM ?_); intro b46 w45 hR47 hM
 refine was rfl rfl <| wl_sq <| wc_seq <| wc_sr <| wv rfl (r_fld u36 rfl rfl sz4 rfl) <| wv rfl (r_ldB u4 rfl rfl hM m1 rfl) <| wv rfl (r_fld u36 rfl rfl sz4 rfl) <| wv rfl (r_ldB u4 rfl rfl hM m0 rfl) <| wv rfl (r_neqb u4 rfl rfl) <| wl_sq ?_
 refine wcx hx rfl (fun hx => ?_) (fun hx => ?_)
 refine wc_sr <| was rfl rfl <| wl_sq <| wc_ret <| sq_ret ?_
 obtain rfl := oi hx
 exact fin_u [(bv false)] hM ⟨rfl, trivial⟩ rfl
 refine wc_skip <| sq_n <| wc_seq <| wc_sr <| wv rfl (r_fld u36 rfl rfl sz33 rfl) <| wv rfl (r_ldB u33 rfl rfl hM m1 rfl) <| wv rfl (r_fld u36 rfl rfl sz33 rfl) <| wv rfl (r_ldB u33 rfl rfl hM m0 rfl) <| bs hx fun _ h62 hx => w_cv hM rfl rfl (fun X S oL hS hR hO => ct_laws_eqDocS _ X S a.docs s_a_1 b.docs s_b_1 hS (hR _ m3) (hR _ m1) oL h62) fun _ hM => wv rfl (r_not rfl) <| wl_sq ?_
 refine wcx hx rfl (fun hx => ?_) (fun hx => ?_)
 refine wc_sr <| was rfl rfl <| wl_sq <| wc_ret <| sq_ret ?_
 obtain rfl := oi hx
 exact fin_u [(bv false)] hM ⟨rfl, trivial⟩ rfl
 refine wc_skip <| sq_n <| wc_seq <| wc_sr <| wv rfl (r_fld u36 rfl rfl sz34 rfl) <| wv rfl (r_ldB u34 rfl rfl hM m1 rfl) <| wv rfl (r_fld u36 rfl rfl sz34 rfl) <| wv rfl (r_ldB u34 rfl rfl hM m0 rfl) <| bs hx fun _ h72 hx => w_cv hM rfl rfl (fun X S oL hS hR hO => ct_laws_eqSubS _ X S a.subs s_a_2 b.subs s_b_2 hS (hR _ m2) (hR _ m0) oL h72) fun _ hM => wv rfl (r_not rfl) <| wl_sq ?_
 refine wcx hx rfl (fun hx => ?_) (fun hx => ?_)
 refine wc_sr <| was rfl rfl <| wl_sq <| wc_ret <| sq_ret ?_
 obtain rfl := oi hx
 exact fin_u [(bv false)] hM ⟨rfl, trivial⟩ rfl
 refine wc_skip <| sq_n <| wc_seq <| wc_sr <| wv rfl (r_fld u36 rfl rfl sz3 rfl) <| wv rfl (r_ldB u3 rfl rfl hM m1 rfl) <| wv rfl (r_fld u36 rfl rfl sz3 rfl) <| wv rfl (r_ldB u3 rfl rfl hM m0 rfl) <| wv rfl (r_neq rfl rfl) <| wl_sq ?_
 refine wcx hx rfl (fun hx => ?_) (fun hx => ?_)
 refine wc_sr <| was rfl rfl <| wl_sq <| wc_ret <| sq_ret ?_
 obtain rfl := oi hx
 exact fin_u [(bv false)] hM ⟨rfl, trivial⟩ rfl
 refine wc_skip <| sq_n <| wc_sr <| was rfl rfl <| wl_sq <| wc_ret ?_
 obtain rfl := oi hx
 exact fin_u [(bv true)] hM ⟨rfl, trivial⟩ rfl

noncomputable def x_laws_eqQueue (a : DQueue) (b : DQueue) : Option Bool :=
  bif !decide (a.doc = b.doc) then (some false) else (Option.bind (x_laws_eqIntS a.list b.list) fun r20 => bif !r20 then (some false) else (some true))
theorem ct_laws_eqQueue (w : World) (X S : Bs) (a : DQueue) (s_a_1 : Sv) (b : DQueue) (s_b_1 : Sv) (hS : SX X S w) (a_a_1 : (cSl 1 fI a.list).rd S w s_a_1.v) (a_b_1 : (cSl 1 fI b.list).rd S w s_b_1.v) (oL : Sep [] X w) {r : Bool} (hx : x_laws_eqQueue a b = some r) :
 Ret Tryz.prog 71 [(.agg #[(.string a.doc), s_a_1.v]), (.agg #[(.string b.doc), s_b_1.v])] w (KV X S w (bv r)) := by
 unfold x_laws_eqQueue at hx
 refine enter Tryz.func71 rfl Tryz.ntmps71 (by kernel_rfl) rfl ?_
 have hM := ((St.enter oL hS).addV a_a_1).addV a_b_1
 refine wc_sr ?_
 refine w_ex rfl (x_box rfl hM ?_); intro b27 w26 hR28 hM
 refine w_ex rfl (x_box rfl hM ?_); intro b31 w30 hR32 hM
 refine was rfl rfl <| wl_sq <| wc_seq <| wc_sr <| wv rfl (r_fld u56 rfl rfl sz9 rfl) <| wv rfl (r_ldB u9 rfl rfl hM m1 rfl) <| wv rfl (r_fld u56 rfl rfl sz9 rfl) <| wv rfl (r_ldB u9 rfl rfl hM m0 rfl) <| wv rfl (r_neqs rfl rfl) <| wl_sq ?_
 refine wcx hx rfl (fun hx => ?_) (fun hx => ?_)
 refine wc_sr <| was rfl rfl <| wl_sq <| wc_ret <| sq_ret ?_
 obtain rfl := oi hx
 exact fin_u [(bv false)] hM ⟨rfl, trivial⟩ rfl
 refine wc_skip <| sq_n <| wc_seq <| wc_sr <| wv rfl (r_fld u56 rfl rfl sz26 rfl) <| wv rfl (r_ldB u26 rfl rfl hM m1 rfl) <| wv rfl (r_fld u56 rfl rfl sz26 rfl) <| wv rfl (r_ldB u26 rfl rfl hM m0 rfl) <| bs hx fun _ h47 hx => w_cv hM rfl rfl (fun X S oL hS hR hO => ct_laws_eqIntS _ X S a.list s_a_1 b.list s_b_1 hS (hR _ m1) (hR _ m0) oL h47) fun _ hM => wv rfl (r_not rfl) <| wl_sq ?_
 refine wcx hx rfl (fun hx => ?_) (fun hx => ?_)
 refine wc_sr <| was rfl rfl <| wl_sq <| wc_ret <| sq_ret ?_
 obtain rfl := oi hx
 exact fin_u [(bv false)] hM ⟨rfl, trivial⟩ rfl
 refine wc_skip <| sq_n <| wc_sr <| was rfl rfl <| wl_sq <| wc_ret ?_
 obtain rfl := oi hx
 exact fin_u [(bv true)] hM ⟨rfl, trivial⟩ rfl

noncomputable def x_laws_eqQueueS_b0 (a : List DQueue) (b : List DQueue) (i9 : Int) : Option (Lr Int (Sum Unit Unit)) :=
  bif decide (i9 < (a.length : Int)) then (xg (0 ≤ i9 ∧ i9 < (a.length : Int)) <| xg (0 ≤ i9 ∧ i9 < (b.length : Int)) <| Option.bind (x_laws_eqQueue (el a i9.toNat) (el b i9.toNat)) fun r61 => bif !r61 then (some (Lr.out (Sum.inr (())))) else (xg (inI (i9 + 1)) <| some (Lr.go (i9 + 1)))) else (some (Lr.out (Sum.inl ())))
noncomputable def x_laws_eqQueueS_f0 (a : List DQueue) (b : List DQueue) (s72 : Int) : Option (Lr Int (Sum Unit Unit)) := x_laws_eqQueueS_b0 a b s72
noncomputable def x_laws_eqQueueS (a : List DQueue) (b : List DQueue) : Option Bool :=
  bif !decide ((a.length : Int) = (b.length : Int)) then (some false) else (Option.bind (iter (x_laws_eqQueueS_f0 a b) 0) fun (y73 : Sum Unit Unit) => Sum.elim (fun _y74 => some true) (fun _y75 => some false) y73)
theorem ct_laws_eqQueueS (w : World) (X S : Bs) (a : List DQueue) (s_a : Sv) (b : List DQueue) (s_b : Sv) (hS : SX X S w) (a_a_0 : (cSl 2 fDQueue a).rd S w s_a.v) (a_b_0 : (cSl 2 fDQueue b).rd S w s_b.v) (oL : Sep [] X w) {r : Bool} (hx : x_laws_eqQueueS a b = some r) :
 Ret Tryz.prog 32 [s_a.v, s_b.v] w (KV X S w (bv r)) := by
 unfold x_laws_eqQueueS at hx
 refine enter Tryz.func32 rfl Tryz.ntmps32 (by kernel_rfl) rfl ?_
 have hM := ((St.enter oL hS).addV a_a_0).addV a_b_0
 refine wc_sr <| was rfl rfl <| wl_sq <| wc_seq <| wc_sr <| wmv rfl rfl <| wv rfl (r_lenC u37 rfl (hM.seeR m1)) <| wmv rfl rfl <| wv rfl (r_lenC u37 rfl (hM.seeR m0)) <| wv rfl (r_neq rfl rfl) <| wl_sq ?_
 refine wcx hx rfl (fun hx => ?_) (fun hx => ?_)
 refine wc_sr <| was rfl rfl <| wl_sq <| wc_ret <| sq_ret ?_
 obtain rfl := oi hx
 exact fin_u [(bv false)] hM ⟨rfl, trivial⟩ rfl
 refine wc_skip <| sq_n <| wc_seq <| wc_sr <| was rfl rfl <| wl_sq <| wc_block <| bs hx fun y86 hx hx87 => ?_
 have hM := hM.fewer (rsC m1 (rsC m0 rsN))
 replace hM : St ⟨w, X, S⟩ [] [rV s_a.v (cSl 2 fDQueue a), rV s_b.v (cSl 2 fDQueue b)] _ := hM
 obtain ⟨m91, hx⟩ := iter_run hx
 refine wc_loop (un fun (m89 : Nat) => fun (i88 : Int) => [(0, s_a.v), (1, s_b.v), (5, (iv i88))]) (un fun (m89 : Nat) => fun (i88 : Int) w' => St ⟨w, X, S⟩ [] [rV s_a.v (cSl 2 fDQueue a), rV s_b.v (cSl 2 fDQueue b)] w' ∧ iterN _ m89 i88 = some y86) (fun p => p.1) (m91, 0) ⟨rfl, rfl, rfl, trivial⟩ ⟨hM, hx⟩ ?_
 rintro ⟨m89, i88⟩ w92 ⟨hM, hx⟩
 obtain ⟨m93, z94, rfl, hx, hx95⟩ := iterN_step hx
 unfold x_laws_eqQueueS_f0 x_laws_eqQueueS_b0 at hx
 try dsimp only at hx
 refine wc_seq <| wc_sr <| wmv rfl rfl <| wmv rfl rfl <| wv rfl (r_lenC u37 rfl (hM.seeR m0)) <| wv rfl (r_lss rfl rfl) <| wl_sq ?_
 refine wcx hx rfl (fun hx => ?_) (fun hx => ?_)
 refine wc_skip <| sq_n <| wc_seq <| wc_block <| wc_seq <| wc_draw [(0, 0), (1, 0), (2, 0), (3, 0), (4, 0), (5, 0), (6, 0), (7, 0), (8, 0), (9, 0)] Tryz_mixed (by kernel_rfl) rfl (by kernel_rfl) rfl <| omv rfl rfl <| omv rfl rfl <| xgs hx fun hg105 hx => ?_
 have hi104 : i88.toNat < a.length := by omega
 refine ov rfl (fun w' h' => r_ixC u37 sz56 rfl rfl ((hM.call h').seeR m0) hg105) ?_
 obtain ⟨s107, hM, hc108⟩ := hM.leaf (i := i88.toNat) (j := 1) m0 (fun _ => rfl) hi104 rfl
 refine ov rfl (fun w' h' => r_ldC (o := i88.toNat * 2) u56 sz56 rfl (us := [(.string ((el a i88.toNat).doc)), s107.v]) rfl ((hM.call h').seeR m1) hi104 ⟨(Cs.get (i := i88.toNat) (j := 0) ((hM.call h').seeR m1) (fun _ => rfl) hi104 rfl), (hc108 w' h'), trivial⟩) <| omv rfl rfl <| omv rfl rfl <| xgs hx fun hg113 hx => ?_
 have hi112 : i88.toNat < b.length := by omega
 refine ov rfl (fun w' h' => r_ixC u37 sz56 rfl rfl ((hM.call h').seeR m2) hg113) ?_
 obtain ⟨s115, hM, hc116⟩ := hM.leaf (i := i88.toNat) (j := 1) m2 (fun _ => rfl) hi112 rfl
 refine ov rfl (fun w' h' => r_ldC (o := i88.toNat * 2) u56 sz56 rfl (us := [(.string ((el b i88.toNat).doc)), s115.v]) rfl ((hM.call h').seeR m3) hi112 ⟨(Cs.get (i := i88.toNat) (j := 0) ((hM.call h').seeR m3) (fun _ => rfl) hi112 rfl), (hc116 w' h'), trivial⟩) <| bs hx fun _ h118 hx => oc rfl rfl (fun w' h' => (hM.call h').callV fun X S oL hS hR hO => ct_laws_eqQueue _ X S (el a i88.toNat) s107 (el b i88.toNat) s115 hS (hR _ m1) (hR _ m0) oL h118) <| ov rfl (fun w' h' => r_not rfl) <| o_nilM hM fun _ hM => sq_n ?_
 refine wcx hx rfl (fun hx => ?_) (fun hx => ?_)
 refine wc_sr <| was rfl rfl <| wl_sq <| wc_ret <| bk_ret <| sq_ret <| lp1_ret ?_
 cases hx
 obtain rfl := oi hx95
 replace hx := hx87
 refine bk_ret <| sq_ret ?_
 obtain rfl := oi hx
 exact fin_u [(bv false)] hM ⟨rfl, trivial⟩ rfl
 refine wc_skip <| bk_n <| sq_n <| wc_region <| wmv rfl rfl <| xgs hx fun hg127 hx => wv rfl (r_add rfl rfl hg127) <| was rfl rfl <| wl_nil ?_
 cases hx
 have hM := hM.fewer (rsC m2 (rsC m3 rsN))
 replace hM : St ⟨w, X, S⟩ [] [rV s_a.v (cSl 2 fDQueue a), rV s_b.v (cSl 2 fDQueue b)] _ := hM
 exact lp_end (m93, i88 + 1) (Nat.lt_succ_self _) ⟨rfl, rfl, rfl, trivial⟩ ⟨hM, hx95⟩
 refine wc_exit <| sq_exit <| lp1_exit ?_
 cases hx
 obtain rfl := oi hx95
 replace hx := hx87
 refine bk_here <| sq_n <| wc_sr <| was rfl rfl <| wl_sq <| wc_ret ?_
 obtain rfl := oi hx
 exact fin_u [(bv true)] hM ⟨rfl, trivial⟩ rfl

noncomputable def x_laws_eqCall (a : DCall) (b : DCall) : Option Bool :=
  bif !decide (a.kind = b.kind) then (some false) else (bif !decide (a.doc = b.doc) then (some false) else (bif !decide (a.client = b.client) then (some false) else (bif !decide (a.seq = b.seq) then (some false) else (bif !decide (a.n = b.n) then (some false) else (Option.bind (x_laws_eqPartS a.o b.o) fun r44 => bif !r44 then (some false) else (Option.bind (x_laws_eqIntS a.text b.text) fun r53 => bif !r53 then (some false) else (some true)))))))
theorem ct_laws_eqCall (w : World) (X S : Bs) (a : DCall) (s_a_5 : Sv) (s_a_6 : Sv) (b : DCall) (s_b_5 : Sv) (s_b_6 : Sv) (hS : SX X S w) (a_a_5 : (cSl 3 fDPart a.o).rd S w s_a_5.v) (a_a_6 : (cSl 1 fI a.text).rd S w s_a_6.v) (a_b_5 : (cSl 3 fDPart b.o).rd S w s_b_5.v) (a_b_6 : (cSl 1 fI b.text).rd S w s_b_6.v) (oL : Sep [] X w) {r : Bool} (hx : x_laws_eqCall a b = some r) :
 Ret Tryz.prog 117 [(.agg #[(iv a.kind), (.string a.doc), (iv a.client), (iv a.seq), (iv a.n), s_a_5.v, s_a_6.v]), (.agg #[(iv b.kind), (.string b.doc), (iv b.client), (iv b.seq), (iv b.n), s_b_5.v, s_b_6.v])] w (KV X S w (bv r)) := by
 unfold x_laws_eqCall at hx
 refine enter Tryz.func117 rfl Tryz.ntmps117 (by kernel_rfl) rfl ?_
 have hM := ((((St.enter oL hS).addV a_a_5).addV a_a_6).addV a_b_5).addV a_b_6
 refine wc_sr ?_
 refine w_ex rfl (x_box rfl hM ?_); intro b60 w59 hR61 hM
 refine w_ex rfl (x_box rfl hM ?_); intro b64 w63 hR65 hM
 refine was rfl rfl <| wl_sq <| wc_seq <| wc_sr <| wv rfl (r_fld u59 rfl rfl sz3 rfl) <| wv rfl (r_ldB u3 rfl rfl hM m1 rfl) <| wv rfl (r_fld u59 rfl rfl sz3 rfl) <| wv rfl (r_ldB u3 rfl rfl hM m0 rfl) <| wv rfl (r_neq rfl rfl) <| wl_sq ?_
 refine wcx hx rfl (fun hx => ?_) (fun hx => ?_)
 refine wc_sr <| was rfl rfl <| wl_sq <| wc_ret <| sq_ret ?_
 obtain rfl := oi hx
 exact fin_u [(bv false)] hM ⟨rfl, trivial⟩ rfl
 refine wc_skip <| sq_n <| wc_seq <| wc_sr <| wv rfl (r_fld u59 rfl rfl sz9 rfl) <| wv rfl (r_ldB u9 rfl rfl hM m1 rfl) <| wv rfl (r_fld u59 rfl rfl sz9 rfl) <| wv rfl (r_ldB u9 rfl rfl hM m0 rfl) <| wv rfl (r_neqs rfl rfl) <| wl_sq ?_
 refine wcx hx rfl (fun hx => ?_) (fun hx => ?_)
 refine wc_sr <| was rfl rfl <| wl_sq <| wc_ret <| sq_ret ?_
 obtain rfl := oi hx
 exact fin_u [(bv false)] hM ⟨rfl, trivial⟩ rfl
 refine wc_skip <| sq_n <| wc_seq <| wc_sr <| wv rfl (r_fld u59 rfl rfl sz3 rfl) <| wv rfl (r_ldB u3 rfl rfl hM m1 rfl) <| wv rfl (r_fld u59 rfl rfl sz3 rfl) <| wv rfl (r_ldB u3 rfl rfl hM m0 rfl) <| wv rfl (r_neq rfl rfl) <| wl_sq ?_
 refine wcx hx rfl (fun hx => ?_) (fun hx => ?_)
 refine wc_sr <| was rfl rfl <| wl_sq <| wc_ret <| sq_ret ?_
 obtain rfl := oi hx
 exact fin_u [(bv false)] hM ⟨rfl, trivial⟩ rfl
 refine wc_skip <| sq_n <| wc_seq <| wc_sr <| wv rfl (r_fld u59 rfl rfl sz3 rfl) <| wv rfl (r_ldB u3 rfl rfl hM m1 rfl) <| wv rfl (r_fld u59 rfl rfl sz3 rfl) <| wv rfl (r_ldB u3 rfl rfl hM m0 rfl) <| wv rfl (r_neq rfl rfl) <| wl_sq ?_
 refine wcx hx rfl (fun hx => ?_) (fun hx => ?_)
 refine wc_sr <| was rfl rfl <| wl_sq <| wc_ret <| sq_ret ?_
 obtain rfl := oi hx
 exact fin_u [(bv false)] hM ⟨rfl, trivial⟩ rfl
 refine wc_skip <| sq_n <| wc_seq <| wc_sr <| wv rfl (r_fld u59 rfl rfl sz3 rfl) <| wv rfl (r_ldB u3 rfl rfl hM m1 rfl) <| wv rfl (r_fld u59 rfl rfl sz3 rfl) <| wv rfl (r_ldB u3 rfl rfl hM m0 rfl) <| wv rfl (r_neq rfl rfl) <| wl_sq ?_
 refine wcx hx rfl (fun hx => ?_) (fun hx => ?_)
 refine wc_sr <| was rfl rfl <| wl_sq <| wc_ret <| sq_ret ?_
 obtain rfl := oi hx
 exact fin_u [(bv false)] hM ⟨rfl, trivial⟩ rfl
 refine wc_skip <| sq_n <| wc_seq <| wc_sr <| wv rfl (r_fld u59 rfl rfl sz57 rfl) <| wv rfl (r_ldB u57 rfl rfl hM m1 rfl) <| wv rfl (r_fld u59 rfl rfl sz57 rfl) <| wv rfl (r_ldB u57 rfl rfl hM m0 rfl) <| bs hx fun _ h108 hx => w_cv hM rfl rfl (fun X S oL hS hR hO => ct_laws_eqPartS _ X S a.o s_a_5 b.o s_b_5 hS (hR _ m3) (hR _ m1) oL h108) fun _ hM => wv rfl (r_not rfl) <| wl_sq ?_
 refine wcx hx rfl (fun hx => ?_) (fun hx => ?_)
 refine wc_sr <| was rfl rfl <| wl_sq <| wc_ret <| sq_ret ?_
 obtain rfl := oi hx
 exact fin_u [(bv false)] hM ⟨rfl, trivial⟩ rfl
 refine wc_skip <| sq_n <| wc_seq <| wc_sr <| wv rfl (r_fld u59 rfl rfl sz26 rfl) <| wv rfl (r_ldB u26 rfl rfl hM m1 rfl) <| wv rfl (r_fld u59 rfl rfl sz26 rfl) <| wv rfl (r_ldB u26 rfl rfl hM m0 rfl) <| bs hx fun _ h118 hx => w_cv hM rfl rfl (fun X S oL hS hR hO => ct_laws_eqIntS _ X S a.text s_a_6 b.text s_b_6 hS (hR _ m2) (hR _ m0) oL h118) fun _ hM => wv rfl (r_not rfl) <| wl_sq ?_
 refine wcx hx rfl (fun hx => ?_) (fun hx => ?_)
 refine wc_sr <| was rfl rfl <| wl_sq <| wc_ret <| sq_ret ?_
 obtain rfl := oi hx
 exact fin_u [(bv false)] hM ⟨rfl, trivial⟩ rfl
 refine wc_skip <| sq_n <| wc_sr <| was rfl rfl <| wl_sq <| wc_ret ?_
 obtain rfl := oi hx
 exact fin_u [(bv true)] hM ⟨rfl, trivial⟩ rfl

noncomputable def x_laws_eqAnswer (a : DAnswer) (b : DAnswer) : Option Bool :=
  bif !decide (a.code = b.code) then (some false) else (bif !decide (a.rev = b.rev) then (some false) else (Option.bind (x_laws_eqIntS a.text b.text) fun r26 => bif !r26 then (some false) else (Option.bind (x_laws_eqEntryS a.list b.list) fun r35 => bif !r35 then (some false) else (some true))))
theorem ct_laws_eqAnswer (w : World) (X S : Bs) (a : DAnswer) (s_a_2 : Sv) (s_a_3 : Sv) (b : DAnswer) (s_b_2 : Sv) (s_b_3 : Sv) (hS : SX X S w) (a_a_2 : (cSl 1 fI a.text).rd S w s_a_2.v) (a_a_3 : (cSl 3 fDEntry a.list).rd S w s_a_3.v) (a_b_2 : (cSl 1 fI b.text).rd S w s_b_2.v) (a_b_3 : (cSl 3 fDEntry b.list).rd S w s_b_3.v) (oL : Sep [] X w) {r : Bool} (hx : x_laws_eqAnswer a b = some r) :
 Ret Tryz.prog 118 [(.agg #[(iv a.code), (iv a.rev), s_a_2.v, s_a_3.v]), (.agg #[(iv b.code), (iv b.rev), s_b_2.v, s_b_3.v])] w (KV X S w (bv r)) := by
 unfold x_laws_eqAnswer at hx
 refine enter Tryz.func118 rfl Tryz.ntmps118 (by kernel_rfl) rfl ?_
 have hM := ((((St.enter oL hS).addV a_a_2).addV a_a_3).addV a_b_2).addV a_b_3
 refine wc_sr ?_
 refine w_ex rfl (x_box rfl hM ?_); intro b42 w41 hR43 hM
 refine w_ex rfl (x_box rfl hM ?_); intro b46 w45 hR47 hM
 refine was rfl rfl <| wl_sq <| wc_seq <| wc_sr <| wv rfl (r_fld u62 rfl rfl sz3 rfl) <| wv rfl (r_ldB u3 rfl rfl hM m1 rfl) <| wv rfl (r_fld u62 rfl rfl sz3 rfl) <| wv rfl (r_ldB u3 rfl rfl hM m0 rfl) <| wv rfl (r_neq rfl rfl) <| wl_sq ?_
 refine wcx hx rfl (fun hx => ?_) (fun hx => ?_)
 refine wc_sr <| was rfl rfl <| wl_sq <| wc_ret <| sq_ret ?_
 obtain rfl := oi hx
 exact fin_u [(bv false)] hM ⟨rfl, trivial⟩ rfl
 refine wc_skip <| sq_n <| wc_seq <| wc_sr <| wv rfl (r_fld u62 rfl rfl sz3 rfl) <| wv rfl (r_ldB u3 rfl rfl hM m1 rfl) <| wv rfl (r_fld u62 rfl rfl sz3 rfl) <| wv rfl (r_ldB u3 rfl rfl hM m0 rfl) <| wv rfl (r_neq rfl rfl) <| wl_sq ?_
 refine wcx hx rfl (fun hx => ?_) (fun hx => ?_)
 refine wc_sr <| was rfl rfl <| wl_sq <| wc_ret <| sq_ret ?_
 obtain rfl := oi hx
 exact fin_u [(bv false)] hM ⟨rfl, trivial⟩ rfl
 refine wc_skip <| sq_n <| wc_seq <| wc_sr <| wv rfl (r_fld u62 rfl rfl sz26 rfl) <| wv rfl (r_ldB u26 rfl rfl hM m1 rfl) <| wv rfl (r_fld u62 rfl rfl sz26 rfl) <| wv rfl (r_ldB u26 rfl rfl hM m0 rfl) <| bs hx fun _ h69 hx => w_cv hM rfl rfl (fun X S oL hS hR hO => ct_laws_eqIntS _ X S a.text s_a_2 b.text s_b_2 hS (hR _ m3) (hR _ m1) oL h69) fun _ hM => wv rfl (r_not rfl) <| wl_sq ?_
 refine wcx hx rfl (fun hx => ?_) (fun hx => ?_)
 refine wc_sr <| was rfl rfl <| wl_sq <| wc_ret <| sq_ret ?_
 obtain rfl := oi hx
 exact fin_u [(bv false)] hM ⟨rfl, trivial⟩ rfl
 refine wc_skip <| sq_n <| wc_seq <| wc_sr <| wv rfl (r_fld u62 rfl rfl sz60 rfl) <| wv rfl (r_ldB u60 rfl rfl hM m1 rfl) <| wv rfl (r_fld u62 rfl rfl sz60 rfl) <| wv rfl (r_ldB u60 rfl rfl hM m0 rfl) <| bs hx fun _ h79 hx => w_cv hM rfl rfl (fun X S oL hS hR hO => ct_laws_eqEntryS _ X S a.list s_a_3 b.list s_b_3 hS (hR _ m2) (hR _ m0) oL h79) fun _ hM => wv rfl (r_not rfl) <| wl_sq ?_
 refine wcx hx rfl (fun hx => ?_) (fun hx => ?_)
 refine wc_sr <| was rfl rfl <| wl_sq <| wc_ret <| sq_ret ?_
 obtain rfl := oi hx
 exact fin_u [(bv false)] hM ⟨rfl, trivial⟩ rfl
 refine wc_skip <| sq_n <| wc_sr <| was rfl rfl <| wl_sq <| wc_ret ?_
 obtain rfl := oi hx
 exact fin_u [(bv true)] hM ⟨rfl, trivial⟩ rfl

noncomputable def x_laws_eqTask (a : DTask) (b : DTask) : Option Bool :=
  Option.bind (x_laws_eqCall a.c b.c) fun r14 => bif !r14 then (some false) else (bif !decide (a.pc = b.pc) then (some false) else (bif !decide (a.inv = b.inv) then (some false) else (bif !decide (a.lin = b.lin) then (some false) else (bif !decide (a.res = b.res) then (some false) else (Option.bind (x_laws_eqAnswer a.a b.a) fun r47 => bif !r47 then (some false) else (some true))))))
theorem ct_laws_eqTask (w : World) (X S : Bs) (a : DTask) (s_a_5 : Sv) (s_a_6 : Sv) (s_a_13 : Sv) (s_a_14 : Sv) (b : DTask) (s_b_5 : Sv) (s_b_6 : Sv) (s_b_13 : Sv) (s_b_14 : Sv) (hS : SX X S w) (a_a_5 : (cSl 3 fDPart a.c.o).rd S w s_a_5.v) (a_a_6 : (cSl 1 fI a.c.text).rd S w s_a_6.v) (a_a_13 : (cSl 1 fI a.a.text).rd S w s_a_13.v) (a_a_14 : (cSl 3 fDEntry a.a.list).rd S w s_a_14.v) (a_b_5 : (cSl 3 fDPart b.c.o).rd S w s_b_5.v) (a_b_6 : (cSl 1 fI b.c.text).rd S w s_b_6.v) (a_b_13 : (cSl 1 fI b.a.text).rd S w s_b_13.v) (a_b_14 : (cSl 3 fDEntry b.a.list).rd S w s_b_14.v) (oL : Sep [] X w) {r : Bool} (hx : x_laws_eqTask a b = some r) :
 Ret Tryz.prog 72 [(.agg #[(iv a.c.kind), (.string a.c.doc), (iv a.c.client), (iv a.c.seq), (iv a.c.n), s_a_5.v, s_a_6.v, (iv a.pc), (iv a.inv), (iv a.lin), (iv a.res), (iv a.a.code), (iv a.a.rev), s_a_13.v, s_a_14.v]), (.agg #[(iv b.c.kind), (.string b.c.doc), (iv b.c.client), (iv b.c.seq), (iv b.c.n), s_b_5.v, s_b_6.v, (iv b.pc), (iv b.inv), (iv b.lin), (iv b.res), (iv b.a.code), (iv b.a.rev), s_b_13.v, s_b_14.v])] w (KV X S w (bv r)) := by
 unfold x_laws_eqTask at hx
 refine enter Tryz.func72 rfl Tryz.ntmps72 (by kernel_rfl) rfl ?_
 have hM := ((((((((St.enter oL hS).addV a_a_5).addV a_a_6).addV a_a_13).addV a_a_14).addV a_b_5).addV a_b_6).addV a_b_13).addV a_b_14
 refine wc_sr ?_
 refine w_ex rfl (x_box rfl hM ?_); intro b54 w53 hR55 hM
 refine w_ex rfl (x_box rfl hM ?_); intro b58 w57 hR59 hM
 refine was rfl rfl <| wl_sq <| wc_seq <| wc_sr <| wv rfl (r_fld u64 rfl rfl sz59 rfl) <| wv rfl (r_ldBS u59 sz59 rfl (us := [(iv a.c.kind), (.string a.c.doc), (iv a.c.client), (iv a.c.seq), (iv a.c.n), s_a_5.v, s_a_6.v]) rfl hM m1 rfl) <| wv rfl (r_fld u64 rfl rfl sz59 rfl) <| wv rfl (r_ldBS u59 sz59 rfl (us := [(iv b.c.kind), (.string b.c.doc), (iv b.c.client), (iv b.c.seq), (iv b.c.n), s_b_5.v, s_b_6.v]) rfl hM m0 rfl) <| bs hx fun _ h67 hx => w_cv hM rfl rfl (fun X S oL hS hR hO => ct_laws_eqCall _ X S a.c s_a_5 s_a_6 b.c s_b_5 s_b_6 hS (hR _ m7) (hR _ m6) (hR _ m3) (hR _ m2) oL h67) fun _ hM => wv rfl (r_not rfl) <| wl_sq ?_
 refine wcx hx rfl (fun hx => ?_) (fun hx => ?_)
 refine wc_sr <| was rfl rfl <| wl_sq <| wc_ret <| sq_ret ?_
 obtain rfl := oi hx
 exact fin_u [(bv false)] hM ⟨rfl, trivial⟩ rfl
 refine wc_skip <| sq_n <| wc_seq <| wc_sr <| wv rfl (r_fld u64 rfl rfl sz3 rfl) <| wv rfl (r_ldB u3 rfl rfl hM m1 rfl) <| wv rfl (r_fld u64 rfl rfl sz3 rfl) <| wv rfl (r_ldB u3 rfl rfl hM m0 rfl) <| wv rfl (r_neq rfl rfl) <| wl_sq ?_
 refine wcx hx rfl (fun hx => ?_) (fun hx => ?_)
 refine wc_sr <| was rfl rfl <| wl_sq <| wc_ret <| sq_ret ?_
 obtain rfl := oi hx
 exact fin_u [(bv false)] hM ⟨rfl, trivial⟩ rfl
 refine wc_skip <| sq_n <| wc_seq <| wc_sr <| wv rfl (r_fld u64 rfl rfl sz3 rfl) <| wv rfl (r_ldB u3 rfl rfl hM m1 rfl) <| wv rfl (r_fld u64 rfl rfl sz3 rfl) <| wv rfl (r_ldB u3 rfl rfl hM m0 rfl) <| wv rfl (r_neq rfl rfl) <| wl_sq ?_
 refine wcx hx rfl (fun hx => ?_) (fun hx => ?_)
 refine wc_sr <| was rfl rfl <| wl_sq <| wc_ret <| sq_ret ?_
 obtain rfl := oi hx
 exact fin_u [(bv false)] hM ⟨rfl, trivial⟩ rfl
 refine wc_skip <| sq_n <| wc_seq <| wc_sr <| wv rfl (r_fld u64 rfl rfl sz3 rfl) <| wv rfl (r_ldB u3 rfl rfl hM m1 rfl) <| wv rfl (r_fld u64 rfl rfl sz3 rfl) <| wv rfl (r_ldB u3 rfl rfl hM m0 rfl) <| wv rfl (r_neq rfl rfl) <| wl_sq ?_
 refine wcx hx rfl (fun hx => ?_) (fun hx => ?_)
 refine wc_sr <| was rfl rfl <| wl_sq <| wc_ret <| sq_ret ?_
 obtain rfl := oi hx
 exact fin_u [(bv false)] hM ⟨rfl, trivial⟩ rfl
 refine wc_skip <| sq_n <| wc_seq <| wc_sr <| wv rfl (r_fld u64 rfl rfl sz3 rfl) <| wv rfl (r_ldB u3 rfl rfl hM m1 rfl) <| wv rfl (r_fld u64 rfl rfl sz3 rfl) <| wv rfl (r_ldB u3 rfl rfl hM m0 rfl) <| wv rfl (r_neq rfl rfl) <| wl_sq ?_
 refine wcx hx rfl (fun hx => ?_) (fun hx => ?_)
 refine wc_sr <| was rfl rfl <| wl_sq <| wc_ret <| sq_ret ?_
 obtain rfl := oi hx
 exact fin_u [(bv false)] hM ⟨rfl, trivial⟩ rfl
 refine wc_skip <| sq_n <| wc_seq <| wc_sr <| wv rfl (r_fld u64 rfl rfl sz62 rfl) <| wv rfl (r_ldBS u62 sz62 rfl (us := [(iv a.a.code), (iv a.a.rev), s_a_13.v, s_a_14.v]) rfl hM m1 rfl) <| wv rfl (r_fld u64 rfl rfl sz62 rfl) <| wv rfl (r_ldBS u62 sz62 rfl (us := [(iv b.a.code), (iv b.a.rev), s_b_13.v, s_b_14.v]) rfl hM m0 rfl) <| bs hx fun _ h105 hx => w_cv hM rfl rfl (fun X S oL hS hR hO => ct_laws_eqAnswer _ X S a.a s_a_13 s_a_14 b.a s_b_13 s_b_14 hS (hR _ m5) (hR _ m4) (hR _ m1) (hR _ m0) oL h105) fun _ hM => wv rfl (r_not rfl) <| wl_sq ?_
 refine wcx hx rfl (fun hx => ?_) (fun hx => ?_)
 refine wc_sr <| was rfl rfl <| wl_sq <| wc_ret <| sq_ret ?_
 obtain rfl := oi hx
 exact fin_u [(bv false)] hM ⟨rfl, trivial⟩ rfl
 refine wc_skip <| sq_n <| wc_sr <| was rfl rfl <| wl_sq <| wc_ret ?_
 obtain rfl := oi hx
 exact fin_u [(bv true)] hM ⟨rfl, trivial⟩ rfl

noncomputable def x_laws_eqTaskS_b0 (a : List DTask) (b : List DTask) (i9 : Int) : Option (Lr Int (Sum Unit Unit)) :=
  bif decide (i9 < (a.length : Int)) then (xg (0 ≤ i9 ∧ i9 < (a.length : Int)) <| xg (0 ≤ i9 ∧ i9 < (b.length : Int)) <| Option.bind (x_laws_eqTask (el a i9.toNat) (el b i9.toNat)) fun r85 => bif !r85 then (some (Lr.out (Sum.inr (())))) else (xg (inI (i9 + 1)) <| some (Lr.go (i9 + 1)))) else (some (Lr.out (Sum.inl ())))
noncomputable def x_laws_eqTaskS_f0 (a : List DTask) (b : List DTask) (s96 : Int) : Option (Lr Int (Sum Unit Unit)) := x_laws_eqTaskS_b0 a b s96
noncomputable def x_laws_eqTaskS (a : List DTask) (b : List DTask) : Option Bool :=
  bif !decide ((a.length : Int) = (b.length : Int)) then (some false) else (Option.bind (iter (x_laws_eqTaskS_f0 a b) 0) fun (y97 : Sum Unit Unit) => Sum.elim (fun _y98 => some true) (fun _y99 => some false) y97)
theorem ct_laws_eqTaskS (w : World) (X S : Bs) (a : List DTask) (s_a : Sv) (b : List DTask) (s_b : Sv) (hS : SX X S w) (a_a_0 : (cSl 15 fDTask a).rd S w s_a.v) (a_b_0 : (cSl 15 fDTask b).rd S w s_b.v) (oL : Sep [] X w) {r : Bool} (hx : x_laws_eqTaskS a b = some r) :
 Ret Tryz.prog 33 [s_a.v, s_b.v] w (KV X S w (bv r)) := by
 unfold x_laws_eqTaskS at hx
 refine enter Tryz.func33 rfl Tryz.ntmps33 (by kernel_rfl) rfl ?_
 have hM := ((St.enter oL hS).addV a_a_0).addV a_b_0
 refine wc_sr <| was rfl rfl <| wl_sq <| wc_seq <| wc_sr <| wmv rfl rfl <| wv rfl (r_lenC u38 rfl (hM.seeR m1)) <| wmv rfl rfl <| wv rfl (r_lenC u38 rfl (hM.seeR m0)) <| wv rfl (r_neq rfl rfl) <| wl_sq ?_
 refine wcx hx rfl (fun hx => ?_) (fun hx => ?_)
 refine wc_sr <| was rfl rfl <| wl_sq <| wc_ret <| sq_ret ?_
 obtain rfl := oi hx
 exact fin_u [(bv false)] hM ⟨rfl, trivial⟩ rfl
 refine wc_skip <| sq_n <| wc_seq <| wc_sr <| was rfl rfl <| wl_sq <| wc_block <| bs hx fun y110 hx hx111 => ?_
 have hM := hM.fewer (rsC m1 (rsC m0 rsN))
 replace hM : St ⟨w, X, S⟩ [] [rV s_a.v (cSl 15 fDTask a), rV s_b.v (cSl 15 fDTask b)] _ := hM
 obtain ⟨m115, hx⟩ := iter_run hx
 refine wc_loop (un fun (m113 : Nat) => fun (i112 : Int) => [(0, s_a.v), (1, s_b.v), (5, (iv i112))]) (un fun (m113 : Nat) => fun (i112 : Int) w' => St ⟨w, X, S⟩ [] [rV s_a.v (cSl 15 fDTask a), rV s_b.v (cSl 15 fDTask b)] w' ∧ iterN _ m113 i112 = some y110) (fun p => p.1) (m115, 0) ⟨rfl, rfl, rfl, trivial⟩ ⟨hM, hx⟩ ?_
 rintro ⟨m113, i112⟩ w116 ⟨hM, hx⟩
 obtain ⟨m117, z118, rfl, hx, hx119⟩ := iterN_step hx
 unfold x_laws_eqTaskS_f0 x_laws_eqTaskS_b0 at hx
 try dsimp only at hx
 refine wc_seq <| wc_sr <| wmv rfl rfl <| wmv rfl rfl <| wv rfl (r_lenC u38 rfl (hM.seeR m0)) <| wv rfl (r_lss rfl rfl) <| wl_sq ?_
 refine wcx hx rfl (fun hx => ?_) (fun hx => ?_)
 refine wc_skip <| sq_n <| wc_seq <| wc_block <| wc_seq <| wc_draw [(0, 0), (1, 0), (2, 0), (3, 0), (4, 0), (5, 0), (6, 0), (7, 0), (8, 0), (9, 0)] Tryz_mixed (by kernel_rfl) rfl (by kernel_rfl) rfl <| omv rfl rfl <| omv rfl rfl <| xgs hx fun hg129 hx => ?_
 have hi128 : i112.toNat < a.length := by omega
 refine ov rfl (fun w' h' => r_ixC u38 sz64 rfl rfl ((hM.call h').seeR m0) hg129) ?_
 obtain ⟨s131, hM, hc132⟩ := hM.leaf (i := i112.toNat) (j := 5) m0 (fun _ => rfl) hi128 rfl
 obtain ⟨s133, hM, hc134⟩ := hM.leaf (i := i112.toNat) (j := 6) m1 (fun _ => rfl) hi128 rfl
 obtain ⟨s135, hM, hc136⟩ := hM.leaf (i := i112.toNat) (j := 13) m2 (fun _ => rfl) hi128 rfl
 obtain ⟨s137, hM, hc138⟩ := hM.leaf (i := i112.toNat) (j := 14) m3 (fun _ => rfl) hi128 rfl
 refine ov rfl (fun w' h' => r_ldC (o := i112.toNat * 15) u64 sz64 rfl (us := [(iv ((el a i112.toNat).c.kind)), (.string ((el a i112.toNat).c.doc)), (iv ((el a i112.toNat).c.client)), (iv ((el a i112.toNat).c.seq)), (iv ((el a i112.toNat).c.n)), s131.v, s133.v, (iv ((el a i112.toNat).pc)), (iv ((el a i112.toNat).inv)), (iv ((el a i112.toNat).lin)), (iv ((el a i112.toNat).res)), (iv ((el a i112.toNat).a.code)), (iv ((el a i112.toNat).a.rev)), s135.v, s137.v]) rfl ((hM.call h').seeR m4) hi128 ⟨(Cs.get (i := i112.toNat) (j := 0) ((hM.call h').seeR m4) (fun _ => rfl) hi128 rfl), (Cs.get (i := i112.toNat) (j := 1) ((hM.call h').seeR m4) (fun _ => rfl) hi128 rfl), (Cs.get (i := i112.toNat) (j := 2) ((hM.call h').seeR m4) (fun _ => rfl) hi128 rfl), (Cs.get (i := i112.toNat) (j := 3) ((hM.call h').seeR m4) (fun _ => rfl) hi128 rfl), (Cs.get (i := i112.toNat) (j := 4) ((hM.call h').seeR m4) (fun _ => rfl) hi128 rfl), (hc132 w' h'), (hc134 w' h'), (Cs.get (i := i112.toNat) (j := 7) ((hM.call h').seeR m4) (fun _ => rfl) hi128 rfl), (Cs.get (i := i112.toNat) (j := 8) ((hM.call h').seeR m4) (fun _ => rfl) hi128 rfl), (Cs.get (i := i112.toNat) (j := 9) ((hM.call h').seeR m4) (fun _ => rfl) hi128 rfl), (Cs.get (i := i112.toNat) (j := 10) ((hM.call h').seeR m4) (fun _ => rfl) hi128 rfl), (Cs.get (i := i112.toNat) (j := 11) ((hM.call h').seeR m4) (fun _ => rfl) hi128 rfl), (Cs.get (i := i112.toNat) (j := 12) ((hM.call h').seeR m4) (fun _ => rfl) hi128 rfl), (hc136 w' h'), (hc138 w' h'), trivial⟩) <| omv rfl rfl <| omv rfl rfl <| xgs hx fun hg143 hx => ?_
 have hi142 : i112.toNat < b.length := by omega
 refine ov rfl (fun w' h' => r_ixC u38 sz64 rfl rfl ((hM.call h').seeR m5) hg143) ?_
 obtain ⟨s145, hM, hc146⟩ := hM.leaf (i := i112.toNat) (j := 5) m5 (fun _ => rfl) hi142 rfl
 obtain ⟨s147, hM, hc148⟩ := hM.leaf (i := i112.toNat) (j := 6) m6 (fun _ => rfl) hi142 rfl
 obtain ⟨s149, hM, hc150⟩ := hM.leaf (i := i112.toNat) (j := 13) m7 (fun _ => rfl) hi142 rfl
 obtain ⟨s151, hM, hc152⟩ := hM.leaf (i := i112.toNat) (j := 14) m8 (fun _ => rfl) hi142 rfl
 refine ov rfl (fun w' h' => r_ldC (o := i112.toNat * 15) u64 sz64 rfl (us := [(iv ((el b i112.toNat).c.kind)), (.string ((el b i112.toNat).c.doc)), (iv ((el b i112.toNat).c.client)), (iv ((el b i112.toNat).c.seq)), (iv ((el b i112.toNat).c.n)), s145.v, s147.v, (iv ((el b i112.toNat).pc)), (iv ((el b i112.toNat).inv)), (iv ((el b i112.toNat).lin)), (iv ((el b i112.toNat).res)), (iv ((el b i112.toNat).a.code)), (iv ((el b i112.toNat).a.rev)), s149.v, s151.v]) rfl ((hM.call h').seeR m9) hi142 ⟨(Cs.get (i := i112.toNat) (j := 0) ((hM.call h').seeR m9) (fun _ => rfl) hi142 rfl), (Cs.get (i := i112.toNat) (j := 1) ((hM.call h').seeR m9) (fun _ => rfl) hi142 rfl), (Cs.get (i := i112.toNat) (j := 2) ((hM.call h').seeR m9) (fun _ => rfl) hi142 rfl), (Cs.get (i := i112.toNat) (j := 3) ((hM.call h').seeR m9) (fun _ => rfl) hi142 rfl), (Cs.get (i := i112.toNat) (j := 4) ((hM.call h').seeR m9) (fun _ => rfl) hi142 rfl), (hc146 w' h'), (hc148 w' h'), (Cs.get (i := i112.toNat) (j := 7) ((hM.call h').seeR m9) (fun _ => rfl) hi142 rfl), (Cs.get (i := i112.toNat) (j := 8) ((hM.call h').seeR m9) (fun _ => rfl) hi142 rfl), (Cs.get (i := i112.toNat) (j := 9) ((hM.call h').seeR m9) (fun _ => rfl) hi142 rfl), (Cs.get (i := i112.toNat) (j := 10) ((hM.call h').seeR m9) (fun _ => rfl) hi142 rfl), (Cs.get (i := i112.toNat) (j := 11) ((hM.call h').seeR m9) (fun _ => rfl) hi142 rfl), (Cs.get (i := i112.toNat) (j := 12) ((hM.call h').seeR m9) (fun _ => rfl) hi142 rfl), (hc150 w' h'), (hc152 w' h'), trivial⟩) <| bs hx fun _ h154 hx => oc rfl rfl (fun w' h' => (hM.call h').callV fun X S oL hS hR hO => ct_laws_eqTask _ X S (el a i112.toNat) s131 s133 s135 s137 (el b i112.toNat) s145 s147 s149 s151 hS (hR _ m7) (hR _ m6) (hR _ m5) (hR _ m4) (hR _ m3) (hR _ m2) (hR _ m1) (hR _ m0) oL h154) <| ov rfl (fun w' h' => r_not rfl) <| o_nilM hM fun _ hM => sq_n ?_
 refine wcx hx rfl (fun hx => ?_) (fun hx => ?_)
 refine wc_sr <| was rfl rfl <| wl_sq <| wc_ret <| bk_ret <| sq_ret <| lp1_ret ?_
 cases hx
 obtain rfl := oi hx119
 replace hx := hx111
 refine bk_ret <| sq_ret ?_
 obtain rfl := oi hx
 exact fin_u [(bv false)] hM ⟨rfl, trivial⟩ rfl
 refine wc_skip <| bk_n <| sq_n <| wc_region <| wmv rfl rfl <| xgs hx fun hg163 hx => wv rfl (r_add rfl rfl hg163) <| was rfl rfl <| wl_nil ?_
 cases hx
 have hM := hM.fewer (rsC m8 (rsC m9 rsN))
 replace hM : St ⟨w, X, S⟩ [] [rV s_a.v (cSl 15 fDTask a), rV s_b.v (cSl 15 fDTask b)] _ := hM
 exact lp_end (m117, i112 + 1) (Nat.lt_succ_self _) ⟨rfl, rfl, rfl, trivial⟩ ⟨hM, hx119⟩
 refine wc_exit <| sq_exit <| lp1_exit ?_
 cases hx
 obtain rfl := oi hx119
 replace hx := hx111
 refine bk_here <| sq_n <| wc_sr <| was rfl rfl <| wl_sq <| wc_ret ?_
 obtain rfl := oi hx
 exact fin_u [(bv true)] hM ⟨rfl, trivial⟩ rfl

noncomputable def x_laws_eqWorld (a : DWorld) (b : DWorld) : Option Bool :=
  Option.bind (x_laws_eqHub a.h b.h) fun r14 => bif !r14 then (some false) else (Option.bind (x_laws_eqIntS a.locks b.locks) fun r23 => bif !r23 then (some false) else (Option.bind (x_laws_eqQueueS a.queues b.queues) fun r32 => bif !r32 then (some false) else (Option.bind (x_laws_eqTaskS a.tasks b.tasks) fun r41 => bif !r41 then (some false) else (bif !decide (a.step = b.step) then (some false) else (some true)))))
theorem ct_laws_eqWorld (w : World) (X S : Bs) (a : DWorld) (s_a_1 : Sv) (s_a_2 : Sv) (s_a_4 : Sv) (s_a_5 : Sv) (s_a_6 : Sv) (b : DWorld) (s_b_1 : Sv) (s_b_2 : Sv) (s_b_4 : Sv) (s_b_5 : Sv) (s_b_6 : Sv) (hS : SX X S w) (a_a_1 : (cSl 5 fDDoc a.h.docs).rd S w s_a_1.v) (a_a_2 : (cSl 6 fDSub a.h.subs).rd S w s_a_2.v) (a_a_4 : (cSl 1 fI a.locks).rd S w s_a_4.v) (a_a_5 : (cSl 2 fDQueue a.queues).rd S w s_a_5.v) (a_a_6 : (cSl 15 fDTask a.tasks).rd S w s_a_6.v) (a_b_1 : (cSl 5 fDDoc b.h.docs).rd S w s_b_1.v) (a_b_2 : (cSl 6 fDSub b.h.subs).rd S w s_b_2.v) (a_b_4 : (cSl 1 fI b.locks).rd S w s_b_4.v) (a_b_5 : (cSl 2 fDQueue b.queues).rd S w s_b_5.v) (a_b_6 : (cSl 15 fDTask b.tasks).rd S w s_b_6.v) (oL : Sep [] X w) {r : Bool} (hx : x_laws_eqWorld a b = some r) :
 Ret Tryz.prog 9 [(.agg #[(bv a.h.shut), s_a_1.v, s_a_2.v, (iv a.h.last), s_a_4.v, s_a_5.v, s_a_6.v, (iv a.step)]), (.agg #[(bv b.h.shut), s_b_1.v, s_b_2.v, (iv b.h.last), s_b_4.v, s_b_5.v, s_b_6.v, (iv b.step)])] w (KV X S w (bv r)) := by
 unfold x_laws_eqWorld at hx
 refine enter Tryz.func9 rfl Tryz.ntmps9 (by kernel_rfl) rfl ?_
 have hM := ((((((((((St.enter oL hS).addV a_a_1).addV a_a_2).addV a_a_4).addV a_a_5).addV a_a_6).addV a_b_1).addV a_b_2).addV a_b_4).addV a_b_5).addV a_b_6
 refine wc_sr ?_
 refine w_ex rfl (x_box rfl hM ?_); intro b54 w53 hR55 hM
 refine w_ex rfl (x_box rfl hM ?_); intro b58 w57 hR59 hM
 refine was rfl rfl <| wl_sq <| wc_seq <| wc_sr <| wv rfl (r_fld u40 rfl rfl sz36 rfl) <| wv rfl (r_ldBS u36 sz36 rfl (us := [(bv a.h.shut), s_a_1.v, s_a_2.v, (iv a.h.last)]) rfl hM m1 rfl) <| wv rfl (r_fld u40 rfl rfl sz36 rfl) <| wv rfl (r_ldBS u36 sz36 rfl (us := [(bv b.h.shut), s_b_1.v, s_b_2.v, (iv b.h.last)]) rfl hM m0 rfl) <| bs hx fun _ h67 hx => w_cv hM rfl rfl (fun X S oL hS hR hO => ct_laws_eqHub _ X S a.h s_a_1 s_a_2 b.h s_b_1 s_b_2 hS (hR _ m9) (hR _ m8) (hR _ m4) (hR _ m3) oL h67) fun _ hM => wv rfl (r_not rfl) <| wl_sq ?_
 refine wcx hx rfl (fun hx => ?_) (fun hx => ?_)
 refine wc_sr <| was rfl rfl <| wl_sq <| wc_ret <| sq_ret ?_
 obtain rfl := oi hx
 exact fin_u [(bv false)] hM ⟨rfl, trivial⟩ rfl
 refine wc_skip <| sq_n <| wc_seq <| wc_sr <| wv rfl (r_fld u40 rfl rfl sz26 rfl) <| wv rfl (r_ldB u26 rfl rfl hM m1 rfl) <| wv rfl (r_fld u40 rfl rfl sz26 rfl) <| wv rfl (r_ldB u26 rfl rfl hM m0 rfl) <| bs hx fun _ h77 hx => w_cv hM rfl rfl (fun X S oL hS hR hO => ct_laws_eqIntS _ X S a.locks s_a_4 b.locks s_b_4 hS (hR _ m7) (hR _ m2) oL h77) fun _ hM => wv rfl (r_not rfl) <| wl_sq ?_
 refine wcx hx rfl (fun hx => ?_) (fun hx => ?_)
 refine wc_sr <| was rfl rfl <| wl_sq <| wc_ret <| sq_ret ?_
 obtain rfl := oi hx
 exact fin_u [(bv false)] hM ⟨rfl, trivial⟩ rfl
 refine wc_skip <| sq_n <| wc_seq <| wc_sr <| wv rfl (r_fld u40 rfl rfl sz37 rfl) <| wv rfl (r_ldB u37 rfl rfl hM m1 rfl) <| wv rfl (r_fld u40 rfl rfl sz37 rfl) <| wv rfl (r_ldB u37 rfl rfl hM m0 rfl) <| bs hx fun _ h87 hx => w_cv hM rfl rfl (fun X S oL hS hR hO => ct_laws_eqQueueS _ X S a.queues s_a_5 b.queues s_b_5 hS (hR _ m6) (hR _ m1) oL h87) fun _ hM => wv rfl (r_not rfl) <| wl_sq ?_
 refine wcx hx rfl (fun hx => ?_) (fun hx => ?_)
 refine wc_sr <| was rfl rfl <| wl_sq <| wc_ret <| sq_ret ?_
 obtain rfl := oi hx
 exact fin_u [(bv false)] hM ⟨rfl, trivial⟩ rfl
 refine wc_skip <| sq_n <| wc_seq <| wc_sr <| wv rfl (r_fld u40 rfl rfl sz38 rfl) <| wv rfl (r_ldB u38 rfl rfl hM m1 rfl) <| wv rfl (r_fld u40 rfl rfl sz38 rfl) <| wv rfl (r_ldB u38 rfl rfl hM m0 rfl) <| bs hx fun _ h97 hx => w_cv hM rfl rfl (fun X S oL hS hR hO => ct_laws_eqTaskS _ X S a.tasks s_a_6 b.tasks s_b_6 hS (hR _ m5) (hR _ m0) oL h97) fun _ hM => wv rfl (r_not rfl) <| wl_sq ?_
 refine wcx hx rfl (fun hx => ?_) (fun hx => ?_)
 refine wc_sr <| was rfl rfl <| wl_sq <| wc_ret <| sq_ret ?_
 obtain rfl := oi hx
 exact fin_u [(bv false)] hM ⟨rfl, trivial⟩ rfl
 refine wc_skip <| sq_n <| wc_seq <| wc_sr <| wv rfl (r_fld u40 rfl rfl sz3 rfl) <| wv rfl (r_ldB u3 rfl rfl hM m1 rfl) <| wv rfl (r_fld u40 rfl rfl sz3 rfl) <| wv rfl (r_ldB u3 rfl rfl hM m0 rfl) <| wv rfl (r_neq rfl rfl) <| wl_sq ?_
 refine wcx hx rfl (fun hx => ?_) (fun hx => ?_)
 refine wc_sr <| was rfl rfl <| wl_sq <| wc_ret <| sq_ret ?_
 obtain rfl := oi hx
 exact fin_u [(bv false)] hM ⟨rfl, trivial⟩ rfl
 refine wc_skip <| sq_n <| wc_sr <| was rfl rfl <| wl_sq <| wc_ret ?_
 obtain rfl := oi hx
 exact fin_u [(bv true)] hM ⟨rfl, trivial⟩ rfl

noncomputable def x_laws_szIntS (a : List Int) (left : Int) : Option Int :=
  xg (inI (left - (a.length : Int))) <| bif decide ((left - (a.length : Int)) < 0) then (some (-1)) else (some (left - (a.length : Int)))
theorem ct_laws_szIntS (w : World) (X S : Bs) (a : List Int) (s_a : Sv) (left : Int) (hS : SX X S w) (a_a_0 : (cSl 1 fI a).rd S w s_a.v) (oL : Sep [] X w) {r : Int} (hx : x_laws_szIntS a left = some r) :
 Ret Tryz.prog 17 [s_a.v, (iv left)] w (KV X S w (iv r)) := by
 unfold x_laws_szIntS at hx
 refine enter Tryz.func17 rfl Tryz.ntmps17 (by kernel_rfl) rfl ?_
 have hM := (St.enter oL hS).addV a_a_0
 refine wc_sr <| was rfl rfl <| wl_sq <| wc_sr <| wmv rfl rfl <| wmv rfl rfl <| wv rfl (r_lenC u26 rfl (hM.seeR m0)) <| xgs hx fun hg18 hx => wv rfl (r_sub rfl rfl hg18) <| was rfl rfl <| wl_sq <| wc_seq <| wc_sr <| wmv rfl rfl ?_
 refine wv rfl (r_lss rfl rfl) <| wl_sq ?_
 refine wcx hx rfl (fun hx => ?_) (fun hx => ?_)
 refine wc_sr <| was rfl rfl <| wl_sq <| wc_ret <| sq_ret ?_
 obtain rfl := oi hx
 exact fin_u [(iv (-1))] hM ⟨rfl, trivial⟩ rfl
 refine wc_skip <| sq_n <| wc_sr <| wmv rfl rfl <| was rfl rfl <| wl_sq <| wc_ret ?_
 obtain rfl := oi hx
 exact fin_u [(iv (left - (a.length : Int)))] hM ⟨rfl, trivial⟩ rfl

noncomputable def x_laws_szPart (a : DPart) (left : Int) : Option Int :=
  Option.bind (x_laws_szIntS a.signs left) fun r9 => bif decide (r9 < 0) then (some (-1)) else (some r9)
theorem ct_laws_szPart (w : World) (X S : Bs) (a : DPart) (s_a_2 : Sv) (left : Int) (hS : SX X S w) (a_a_2 : (cSl 1 fI a.signs).rd S w s_a_2.v) (oL : Sep [] X w) {r : Int} (hx : x_laws_szPart a left = some r) :
 Ret Tryz.prog 174 [(.agg #[(iv a.kind), (iv a.n), s_a_2.v]), (iv left)] w (KV X S w (iv r)) := by
 unfold x_laws_szPart at hx
 refine enter Tryz.func174 rfl Tryz.ntmps174 (by kernel_rfl) rfl ?_
 have hM := (St.enter oL hS).addV a_a_2
 refine wc_sr ?_
 refine w_ex rfl (x_box rfl hM ?_); intro b19 w18 hR20 hM
 refine was rfl rfl <| wl_sq <| wc_sr <| wv rfl (r_fld u193 rfl rfl sz26 rfl) <| wv rfl (r_ldB u26 rfl rfl hM m0 rfl) <| wmv rfl rfl <| bs hx fun r26 h27 hx => w_cv hM rfl rfl (fun X S oL hS hR hO => ct_laws_szIntS _ X S a.signs s_a_2 left hS (hR _ m0) oL h27) fun _ hM => was rfl rfl <| wl_sq <| wc_seq <| wc_sr <| wmv rfl rfl <| wv rfl (r_lss rfl rfl) ?_
 refine wl_sq ?_
 refine wcx hx rfl (fun hx => ?_) (fun hx => ?_)
 refine wc_sr <| was rfl rfl <| wl_sq <| wc_ret <| sq_ret ?_
 obtain rfl := oi hx
 exact fin_u [(iv (-1))] hM ⟨rfl, trivial⟩ rfl
 refine wc_skip <| sq_n <| wc_sr <| wmv rfl rfl <| was rfl rfl <| wl_sq <| wc_ret ?_
 obtain rfl := oi hx
 exact fin_u [(iv r26)] hM ⟨rfl, trivial⟩ rfl

noncomputable def x_laws_szPartS_b0 (a : List DPart) (left12 : Int) (i13 : Int) : Option (Lr (Int × Int) (Sum Int Int)) :=
  bif decide (i13 < (a.length : Int)) then (xg (0 ≤ i13 ∧ i13 < (a.length : Int)) <| Option.bind (x_laws_szPart (el a i13.toNat) left12) fun r51 => bif decide (r51 < 0) then (some (Lr.out (Sum.inr (-1)))) else (xg (inI (i13 + 1)) <| some (Lr.go (r51, i13 + 1)))) else (some (Lr.out (Sum.inl left12)))
noncomputable def x_laws_szPartS_f0 (a : List DPart) (s62 : Int × Int) : Option (Lr (Int × Int) (Sum Int Int)) := x_laws_szPartS_b0 a s62.1 s62.2
noncomputable def x_laws_szPartS (a : List DPart) (left : Int) : Option Int :=
  xg (inI (left - (a.length : Int))) <| bif decide ((left - (a.length : Int)) < 0) then (some (-1)) else (Option.bind (iter (x_laws_szPartS_f0 a) (left - (a.length : Int), 0)) fun (y63 : Sum Int Int) => Sum.elim (fun y64 => some y64) (fun y65 => some y65) y63)
theorem ct_laws_szPartS (w : World) (X S : Bs) (a : List DPart) (s_a : Sv) (left : Int) (hS : SX X S w) (a_a_0 : (cSl 3 fDPart a).rd S w s_a.v) (oL : Sep [] X w) {r : Int} (hx : x_laws_szPartS a left = some r) :
 Ret Tryz.prog 139 [s_a.v, (iv left)] w (KV X S w (iv r)) := by
 unfold x_laws_szPartS at hx
 refine enter Tryz.func139 rfl Tryz.ntmps139 (by kernel_rfl) rfl ?_
 have hM := (St.enter oL hS).addV a_a_0
 refine wc_sr <| was rfl rfl <| wl_sq <| wc_sr <| wmv rfl rfl <| wmv rfl rfl <| wv rfl (r_lenC u83 rfl (hM.seeR m0)) <| xgs hx fun hg73 hx => wv rfl (r_sub rfl rfl hg73) <| was rfl rfl <| wl_sq <| wc_seq <| wc_sr <| wmv rfl rfl ?_
 refine wv rfl (r_lss rfl rfl) <| wl_sq ?_
 refine wcx hx rfl (fun hx => ?_) (fun hx => ?_)
 refine wc_sr <| was rfl rfl <| wl_sq <| wc_ret <| sq_ret ?_
 obtain rfl := oi hx
 exact fin_u [(iv (-1))] hM ⟨rfl, trivial⟩ rfl
 refine wc_skip <| sq_n <| wc_seq <| wc_sr <| was rfl rfl <| wl_sq <| wc_block <| bs hx fun y80 hx hx81 => ?_
 obtain ⟨m86, hx⟩ := iter_run hx
 refine wc_loop (un fun (m84 : Nat) => un fun (left82 : Int) => fun (i83 : Int) => [(0, s_a.v), (1, (iv left82)), (5, (iv i83))]) (un fun (m84 : Nat) => un fun (left82 : Int) => fun (i83 : Int) w' => St ⟨w, X, S⟩ [] [rV s_a.v (cSl 3 fDPart a)] w' ∧ iterN _ m84 (left82, i83) = some y80) (fun p => p.1) (m86, left - (a.length : Int), 0) ⟨rfl, rfl, rfl, trivial⟩ ⟨hM, hx⟩ ?_
 rintro ⟨m84, left82, i83⟩ w87 ⟨hM, hx⟩
 obtain ⟨m88, z89, rfl, hx, hx90⟩ := iterN_step hx
 unfold x_laws_szPartS_f0 x_laws_szPartS_b0 at hx
 try dsimp only at hx
 refine wc_seq <| wc_sr <| wmv rfl rfl <| wmv rfl rfl <| wv rfl (r_lenC u83 rfl (hM.seeR m0)) <| wv rfl (r_lss rfl rfl) <| wl_sq ?_
 refine wcx hx rfl (fun hx => ?_) (fun hx => ?_)
 refine wc_skip <| sq_n <| wc_seq <| wc_block <| wc_sr <| wmv rfl rfl <| wmv rfl rfl <| xgs hx fun hg100 hx => ?_
 have hi99 : i83.toNat < a.length := by omega
 refine wv rfl (r_ixC u83 sz193 rfl rfl (hM.seeR m0) hg100) ?_
 obtain ⟨s102, hM, hc103⟩ := hM.leaf (i := i83.toNat) (j := 2) m0 (fun _ => rfl) hi99 rfl
 refine wv rfl (r_ldC (o := i83.toNat * 3) u193 sz193 rfl (us := [(iv ((el a i83.toNat).kind)), (iv ((el a i83.toNat).n)), s102.v]) rfl (hM.seeR m1) hi99 ⟨(Cs.get (i := i83.toNat) (j := 0) (hM.seeR m1) (fun _ => rfl) hi99 rfl), (Cs.get (i := i83.toNat) (j := 1) (hM.seeR m1) (fun _ => rfl) hi99 rfl), (hc103 _ (Rel.refl _)), trivial⟩) <| wmv rfl rfl <| bs hx fun r105 h106 hx => w_cv hM rfl rfl (fun X S oL hS hR hO => ct_laws_szPart _ X S (el a i83.toNat) s102 left82 hS (hR _ m0) oL h106) fun _ hM => was rfl rfl <| wl_sq <| wc_sr <| wmv rfl rfl <| wv rfl (r_lss rfl rfl) <| wl_sq ?_
 refine wcx hx rfl (fun hx => ?_) (fun hx => ?_)
 refine wc_sr <| was rfl rfl <| wl_sq <| wc_ret <| bk_ret <| sq_ret <| lp1_ret ?_
 cases hx
 obtain rfl := oi hx90
 replace hx := hx81
 refine bk_ret <| sq_ret ?_
 obtain rfl := oi hx
 exact fin_u [(iv (-1))] hM ⟨rfl, trivial⟩ rfl
 refine wc_skip <| bk_n <| sq_n <| wc_region <| wmv rfl rfl <| xgs hx fun hg115 hx => wv rfl (r_add rfl rfl hg115) <| was rfl rfl <| wl_nil ?_
 cases hx
 have hM := hM.fewer (rsC m1 rsN)
 replace hM : St ⟨w, X, S⟩ [] [rV s_a.v (cSl 3 fDPart a)] _ := hM
 exact lp_end (m88, r105, i83 + 1) (Nat.lt_succ_self _) ⟨rfl, rfl, rfl, trivial⟩ ⟨hM, hx90⟩
 refine wc_exit <| sq_exit <| lp1_exit ?_
 cases hx
 obtain rfl := oi hx90
 replace hx := hx81
 refine bk_here <| sq_n <| wc_sr <| wmv rfl rfl <| was rfl rfl <| wl_sq <| wc_ret ?_
 obtain rfl := oi hx
 exact fin_u [(iv left82)] hM ⟨rfl, trivial⟩ rfl

noncomputable def x_laws_szEntry (a : DEntry) (left : Int) : Option Int :=
  Option.bind (x_laws_szPartS a.o left) fun r9 => bif decide (r9 < 0) then (some (-1)) else (some r9)
theorem ct_laws_szEntry (w : World) (X S : Bs) (a : DEntry) (s_a_2 : Sv) (left : Int) (hS : SX X S w) (a_a_2 : (cSl 3 fDPart a.o).rd S w s_a_2.v) (oL : Sep [] X w) {r : Int} (hx : x_laws_szEntry a left = some r) :
 Ret Tryz.prog 173 [(.agg #[(iv a.client), (iv a.seq), s_a_2.v]), (iv left)] w (KV X S w (iv r)) := by
 unfold x_laws_szEntry at hx
 refine enter Tryz.func173 rfl Tryz.ntmps173 (by kernel_rfl) rfl ?_
 have hM := (St.enter oL hS).addV a_a_2
 refine wc_sr ?_
 refine w_ex rfl (x_box rfl hM ?_); intro b19 w18 hR20 hM
 refine was rfl rfl <| wl_sq <| wc_sr <| wv rfl (r_fld u191 rfl rfl sz83 rfl) <| wv rfl (r_ldB u83 rfl rfl hM m0 rfl) <| wmv rfl rfl <| bs hx fun r26 h27 hx => w_cv hM rfl rfl (fun X S oL hS hR hO => ct_laws_szPartS _ X S a.o s_a_2 left hS (hR _ m0) oL h27) fun _ hM => was rfl rfl <| wl_sq <| wc_seq <| wc_sr <| wmv rfl rfl <| wv rfl (r_lss rfl rfl) ?_
 refine wl_sq ?_
 refine wcx hx rfl (fun hx => ?_) (fun hx => ?_)
 refine wc_sr <| was rfl rfl <| wl_sq <| wc_ret <| sq_ret ?_
 obtain rfl := oi hx
 exact fin_u [(iv (-1))] hM ⟨rfl, trivial⟩ rfl
 refine wc_skip <| sq_n <| wc_sr <| wmv rfl rfl <| was rfl rfl <| wl_sq <| wc_ret ?_
 obtain rfl := oi hx
 exact fin_u [(iv r26)] hM ⟨rfl, trivial⟩ rfl

noncomputable def x_laws_szEntryS_b0 (a : List DEntry) (left12 : Int) (i13 : Int) : Option (Lr (Int × Int) (Sum Int Int)) :=
  bif decide (i13 < (a.length : Int)) then (xg (0 ≤ i13 ∧ i13 < (a.length : Int)) <| Option.bind (x_laws_szEntry (el a i13.toNat) left12) fun r51 => bif decide (r51 < 0) then (some (Lr.out (Sum.inr (-1)))) else (xg (inI (i13 + 1)) <| some (Lr.go (r51, i13 + 1)))) else (some (Lr.out (Sum.inl left12)))
noncomputable def x_laws_szEntryS_f0 (a : List DEntry) (s62 : Int × Int) : Option (Lr (Int × Int) (Sum Int Int)) := x_laws_szEntryS_b0 a s62.1 s62.2
noncomputable def x_laws_szEntryS (a : List DEntry) (left : Int) : Option Int :=
  xg (inI (left - (a.length : Int))) <| bif decide ((left - (a.length : Int)) < 0) then (some (-1)) else (Option.bind (iter (x_laws_szEntryS_f0 a) (left - (a.length : Int), 0)) fun (y63 : Sum Int Int) => Sum.elim (fun y64 => some y64) (fun y65 => some y65) y63)
theorem ct_laws_szEntryS (w : World) (X S : Bs) (a : List DEntry) (s_a : Sv) (left : Int) (hS : SX X S w) (a_a_0 : (cSl 3 fDEntry a).rd S w s_a.v) (oL : Sep [] X w) {r : Int} (hx : x_laws_szEntryS a left = some r) :
 Ret Tryz.prog 136 [s_a.v, (iv left)] w (KV X S w (iv r)) := by
 unfold x_laws_szEntryS at hx
 refine enter Tryz.func136 rfl Tryz.ntmps136 (by kernel_rfl) rfl ?_
 have hM := (St.enter oL hS).addV a_a_0
 refine wc_sr <| was rfl rfl <| wl_sq <| wc_sr <| wmv rfl rfl <| wmv rfl rfl <| wv rfl (r_lenC u86 rfl (hM.seeR m0)) <| xgs hx fun hg73 hx => wv rfl (r_sub rfl rfl hg73) <| was rfl rfl <| wl_sq <| wc_seq <| wc_sr <| wmv rfl rfl ?_
 refine wv rfl (r_lss rfl rfl) <| wl_sq ?_
 refine wcx hx rfl (fun hx => ?_) (fun hx => ?_)
 refine wc_sr <| was rfl rfl <| wl_sq <| wc_ret <| sq_ret ?_
 obtain rfl := oi hx
 exact fin_u [(iv (-1))] hM ⟨rfl, trivial⟩ rfl
 refine wc_skip <| sq_n <| wc_seq <| wc_sr <| was rfl rfl <| wl_sq <| wc_block <| bs hx fun y80 hx hx81 => ?_
 obtain ⟨m86, hx⟩ := iter_run hx
 refine wc_loop (un fun (m84 : Nat) => un fun (left82 : Int) => fun (i83 : Int) => [(0, s_a.v), (1, (iv left82)), (5, (iv i83))]) (un fun (m84 : Nat) => un fun (left82 : Int) => fun (i83 : Int) w' => St ⟨w, X, S⟩ [] [rV s_a.v (cSl 3 fDEntry a)] w' ∧ iterN _ m84 (left82, i83) = some y80) (fun p => p.1) (m86, left - (a.length : Int), 0) ⟨rfl, rfl, rfl, trivial⟩ ⟨hM, hx⟩ ?_
 rintro ⟨m84, left82, i83⟩ w87 ⟨hM, hx⟩
 obtain ⟨m88, z89, rfl, hx, hx90⟩ := iterN_step hx
 unfold x_laws_szEntryS_f0 x_laws_szEntryS_b0 at hx
 try dsimp only at hx
 refine wc_seq <| wc_sr <| wmv rfl rfl <| wmv rfl rfl <| wv rfl (r_lenC u86 rfl (hM.seeR m0)) <| wv rfl (r_lss rfl rfl) <| wl_sq ?_
 refine wcx hx rfl (fun hx => ?_) (fun hx => ?_)
 refine wc_skip <| sq_n <| wc_seq <| wc_block <| wc_sr <| wmv rfl rfl <| wmv rfl rfl <| xgs hx fun hg100 hx => ?_
 have hi99 : i83.toNat < a.length := by omega
 refine wv rfl (r_ixC u86 sz191 rfl rfl (hM.seeR m0) hg100) ?_
 obtain ⟨s102, hM, hc103⟩ := hM.leaf (i := i83.toNat) (j := 2) m0 (fun _ => rfl) hi99 rfl
 refine wv rfl (r_ldC (o := i83.toNat * 3) u191 sz191 rfl (us := [(iv ((el a i83.toNat).client)), (iv ((el a i83.toNat).seq)), s102.v]) rfl (hM.seeR m1) hi99 ⟨(Cs.get (i := i83.toNat) (j := 0) (hM.seeR m1) (fun _ => rfl) hi99 rfl), (Cs.get (i := i83.toNat) (j := 1) (hM.seeR m1) (fun _ => rfl) hi99 rfl), (hc103 _ (Rel.refl _)), trivial⟩) <| wmv rfl rfl <| bs hx fun r105 h106 hx => w_cv hM rfl rfl (fun X S oL hS hR hO => ct_laws_szEntry _ X S (el a i83.toNat) s102 left82 hS (hR _ m0) oL h106) fun _ hM => was rfl rfl <| wl_sq <| wc_sr <| wmv rfl rfl <| wv rfl (r_lss rfl rfl) <| wl_sq ?_
 refine wcx hx rfl (fun hx => ?_) (fun hx => ?_)
 refine wc_sr <| was rfl rfl <| wl_sq <| wc_ret <| bk_ret <| sq_ret <| lp1_ret ?_
 cases hx
 obtain rfl := oi hx90
 replace hx := hx81
 refine bk_ret <| sq_ret ?_
 obtain rfl := oi hx
 exact fin_u [(iv (-1))] hM ⟨rfl, trivial⟩ rfl
 refine wc_skip <| bk_n <| sq_n <| wc_region <| wmv rfl rfl <| xgs hx fun hg115 hx => wv rfl (r_add rfl rfl hg115) <| was rfl rfl <| wl_nil ?_
 cases hx
 have hM := hM.fewer (rsC m1 rsN)
 replace hM : St ⟨w, X, S⟩ [] [rV s_a.v (cSl 3 fDEntry a)] _ := hM
 exact lp_end (m88, r105, i83 + 1) (Nat.lt_succ_self _) ⟨rfl, rfl, rfl, trivial⟩ ⟨hM, hx90⟩
 refine wc_exit <| sq_exit <| lp1_exit ?_
 cases hx
 obtain rfl := oi hx90
 replace hx := hx81
 refine bk_here <| sq_n <| wc_sr <| wmv rfl rfl <| was rfl rfl <| wl_sq <| wc_ret ?_
 obtain rfl := oi hx
 exact fin_u [(iv left82)] hM ⟨rfl, trivial⟩ rfl

noncomputable def x_laws_szSeenS (a : List DSeen) (left : Int) : Option Int :=
  xg (inI (left - (a.length : Int))) <| bif decide ((left - (a.length : Int)) < 0) then (some (-1)) else (some (left - (a.length : Int)))
theorem ct_laws_szSeenS (w : World) (X S : Bs) (a : List DSeen) (s_a : Sv) (left : Int) (hS : SX X S w) (a_a_0 : (cSl 3 fDSeen a).rd S w s_a.v) (oL : Sep [] X w) {r : Int} (hx : x_laws_szSeenS a left = some r) :
 Ret Tryz.prog 137 [s_a.v, (iv left)] w (KV X S w (iv r)) := by
 unfold x_laws_szSeenS at hx
 refine enter Tryz.func137 rfl Tryz.ntmps137 (by kernel_rfl) rfl ?_
 have hM := (St.enter oL hS).addV a_a_0
 refine wc_sr <| was rfl rfl <| wl_sq <| wc_sr <| wmv rfl rfl <| wmv rfl rfl <| wv rfl (r_lenC u119 rfl (hM.seeR m0)) <| xgs hx fun hg18 hx => wv rfl (r_sub rfl rfl hg18) <| was rfl rfl <| wl_sq <| wc_seq <| wc_sr <| wmv rfl rfl ?_
 refine wv rfl (r_lss rfl rfl) <| wl_sq ?_
 refine wcx hx rfl (fun hx => ?_) (fun hx => ?_)
 refine wc_sr <| was rfl rfl <| wl_sq <| wc_ret <| sq_ret ?_
 obtain rfl := oi hx
 exact fin_u [(iv (-1))] hM ⟨rfl, trivial⟩ rfl
 refine wc_skip <| sq_n <| wc_sr <| wmv rfl rfl <| was rfl rfl <| wl_sq <| wc_ret ?_
 obtain rfl := oi hx
 exact fin_u [(iv (left - (a.length : Int)))] hM ⟨rfl, trivial⟩ rfl

noncomputable def x_laws_szDoc (a : DDoc) (left : Int) : Option Int :=
  xg (inI (left - (a.name.size : Int))) <| bif decide ((left - (a.name.size : Int)) < 0) then (some (-1)) else (Option.bind (x_laws_szIntS a.text (left - (a.name.size : Int))) fun r19 => bif decide (r19 < 0) then (some (-1)) else (Option.bind (x_laws_szEntryS a.list r19) fun r29 => bif decide (r29 < 0) then (some (-1)) else (Option.bind (x_laws_szSeenS a.seen r29) fun r39 => bif decide (r39 < 0) then (some (-1)) else (some r39))))
theorem ct_laws_szDoc (w : World) (X S : Bs) (a : DDoc) (s_a_2 : Sv) (s_a_3 : Sv) (s_a_4 : Sv) (left : Int) (hS : SX X S w) (a_a_2 : (cSl 1 fI a.text).rd S w s_a_2.v) (a_a_3 : (cSl 3 fDEntry a.list).rd S w s_a_3.v) (a_a_4 : (cSl 3 fDSeen a.seen).rd S w s_a_4.v) (oL : Sep [] X w) {r : Int} (hx : x_laws_szDoc a left = some r) :
 Ret Tryz.prog 91 [(.agg #[(.string a.name), (iv a.from_), s_a_2.v, s_a_3.v, s_a_4.v]), (iv left)] w (KV X S w (iv r)) := by
 unfold x_laws_szDoc at hx
 refine enter Tryz.func91 rfl Tryz.ntmps91 (by kernel_rfl) rfl ?_
 have hM := (((St.enter oL hS).addV a_a_2).addV a_a_3).addV a_a_4
 refine wc_sr ?_
 refine w_ex rfl (x_box rfl hM ?_); intro b49 w48 hR50 hM
 refine was rfl rfl <| wl_sq <| wc_sr <| wmv rfl rfl <| wv rfl (r_fld u121 rfl rfl sz9 rfl) <| wv rfl (r_ldB u9 rfl rfl hM m0 rfl) <| wv rfl (r_lens u9 rfl) <| xgs hx fun hg58 hx => wv rfl (r_sub rfl rfl hg58) <| was rfl rfl <| wl_sq <| wc_seq <| wc_sr <| wmv rfl rfl ?_
 refine wv rfl (r_lss rfl rfl) <| wl_sq ?_
 refine wcx hx rfl (fun hx => ?_) (fun hx => ?_)
 refine wc_sr <| was rfl rfl <| wl_sq <| wc_ret <| sq_ret ?_
 obtain rfl := oi hx
 exact fin_u [(iv (-1))] hM ⟨rfl, trivial⟩ rfl
 refine wc_skip <| sq_n <| wc_sr <| wv rfl (r_fld u121 rfl rfl sz26 rfl) <| wv rfl (r_ldB u26 rfl rfl hM m0 rfl) <| wmv rfl rfl <| bs hx fun r67 h68 hx => w_cv hM rfl rfl (fun X S oL hS hR hO => ct_laws_szIntS _ X S a.text s_a_2 (left - (a.name.size : Int)) hS (hR _ m2) oL h68) fun _ hM => was rfl rfl <| wl_sq <| wc_seq <| wc_sr <| wmv rfl rfl <| wv rfl (r_lss rfl rfl) ?_
 refine wl_sq ?_
 refine wcx hx rfl (fun hx => ?_) (fun hx => ?_)
 refine wc_sr <| was rfl rfl <| wl_sq <| wc_ret <| sq_ret ?_
 obtain rfl := oi hx
 exact fin_u [(iv (-1))] hM ⟨rfl, trivial⟩ rfl
 refine wc_skip <| sq_n <| wc_sr <| wv rfl (r_fld u121 rfl rfl sz86 rfl) <| wv rfl (r_ldB u86 rfl rfl hM m0 rfl) <| wmv rfl rfl <| bs hx fun r78 h79 hx => w_cv hM rfl rfl (fun X S oL hS hR hO => ct_laws_szEntryS _ X S a.list s_a_3 r67 hS (hR _ m1) oL h79) fun _ hM => was rfl rfl <| wl_sq <| wc_seq <| wc_sr <| wmv rfl rfl <| wv rfl (r_lss rfl rfl) ?_
 refine wl_sq ?_
 refine wcx hx rfl (fun hx => ?_) (fun hx => ?_)
 refine wc_sr <| was rfl rfl <| wl_sq <| wc_ret <| sq_ret ?_
 obtain rfl := oi hx
 exact fin_u [(iv (-1))] hM ⟨rfl, trivial⟩ rfl
 refine wc_skip <| sq_n <| wc_sr <| wv rfl (r_fld u121 rfl rfl sz119 rfl) <| wv rfl (r_ldB u119 rfl rfl hM m0 rfl) <| wmv rfl rfl <| bs hx fun r89 h90 hx => w_cv hM rfl rfl (fun X S oL hS hR hO => ct_laws_szSeenS _ X S a.seen s_a_4 r78 hS (hR _ m0) oL h90) fun _ hM => was rfl rfl <| wl_sq <| wc_seq <| wc_sr <| wmv rfl rfl <| wv rfl (r_lss rfl rfl) ?_
 refine wl_sq ?_
 refine wcx hx rfl (fun hx => ?_) (fun hx => ?_)
 refine wc_sr <| was rfl rfl <| wl_sq <| wc_ret <| sq_ret ?_
 obtain rfl := oi hx
 exact fin_u [(iv (-1))] hM ⟨rfl, trivial⟩ rfl
 refine wc_skip <| sq_n <| wc_sr <| wmv rfl rfl <| was rfl rfl <| wl_sq <| wc_ret ?_
 obtain rfl := oi hx
 exact fin_u [(iv r89)] hM ⟨rfl, trivial⟩ rfl

noncomputable def x_laws_szDocS_b0 (a : List DDoc) (left12 : Int) (i13 : Int) : Option (Lr (Int × Int) (Sum Int Int)) :=
  bif decide (i13 < (a.length : Int)) then (xg (0 ≤ i13 ∧ i13 < (a.length : Int)) <| Option.bind (x_laws_szDoc (el a i13.toNat) left12) fun r59 => bif decide (r59 < 0) then (some (Lr.out (Sum.inr (-1)))) else (xg (inI (i13 + 1)) <| some (Lr.go (r59, i13 + 1)))) else (some (Lr.out (Sum.inl left12)))
noncomputable def x_laws_szDocS_f0 (a : List DDoc) (s70 : Int × Int) : Option (Lr (Int × Int) (Sum Int Int)) := x_laws_szDocS_b0 a s70.1 s70.2
noncomputable def x_laws_szDocS (a : List DDoc) (left : Int) : Option Int :=
  xg (inI (left - (a.length : Int))) <| bif decide ((left - (a.length : Int)) < 0) then (some (-1)) else (Option.bind (iter (x_laws_szDocS_f0 a) (left - (a.length : Int), 0)) fun (y71 : Sum Int Int) => Sum.elim (fun y72 => some y72) (fun y73 => some y73) y71)
theorem ct_laws_szDocS (w : World) (X S : Bs) (a : List DDoc) (s_a : Sv) (left : Int) (hS : SX X S w) (a_a_0 : (cSl 5 fDDoc a).rd S w s_a.v) (oL : Sep [] X w) {r : Int} (hx : x_laws_szDocS a left = some r) :
 Ret Tryz.prog 41 [s_a.v, (iv left)] w (KV X S w (iv r)) := by
 unfold x_laws_szDocS at hx
 refine enter Tryz.func41 rfl Tryz.ntmps41 (by kernel_rfl) rfl ?_
 have hM := (St.enter oL hS).addV a_a_0
 refine wc_sr <| was rfl rfl <| wl_sq <| wc_sr <| wmv rfl rfl <| wmv rfl rfl <| wv rfl (r_lenC u22 rfl (hM.seeR m0)) <| xgs hx fun hg81 hx => wv rfl (r_sub rfl rfl hg81) <| was rfl rfl <| wl_sq <| wc_seq <| wc_sr <| wmv rfl rfl ?_
 refine wv rfl (r_lss rfl rfl) <| wl_sq ?_
 refine wcx hx rfl (fun hx => ?_) (fun hx => ?_)
 refine wc_sr <| was rfl rfl <| wl_sq <| wc_ret <| sq_ret ?_
 obtain rfl := oi hx
 exact fin_u [(iv (-1))] hM ⟨rfl, trivial⟩ rfl
 refine wc_skip <| sq_n <| wc_seq <| wc_sr <| was rfl rfl <| wl_sq <| wc_block <| bs hx fun y88 hx hx89 => ?_
 obtain ⟨m94, hx⟩ := iter_run hx
 refine wc_loop (un fun (m92 : Nat) => un fun (left90 : Int) => fun (i91 : Int) => [(0, s_a.v), (1, (iv left90)), (5, (iv i91))]) (un fun (m92 : Nat) => un fun (left90 : Int) => fun (i91 : Int) w' => St ⟨w, X, S⟩ [] [rV s_a.v (cSl 5 fDDoc a)] w' ∧ iterN _ m92 (left90, i91) = some y88) (fun p => p.1) (m94, left - (a.length : Int), 0) ⟨rfl, rfl, rfl, trivial⟩ ⟨hM, hx⟩ ?_
 rintro ⟨m92, left90, i91⟩ w95 ⟨hM, hx⟩
 obtain ⟨m96, z97, rfl, hx, hx98⟩ := iterN_step hx
 unfold x_laws_szDocS_f0 x_laws_szDocS_b0 at hx
 try dsimp only at hx
 refine wc_seq <| wc_sr <| wmv rfl rfl <| wmv rfl rfl <| wv rfl (r_lenC u22 rfl (hM.seeR m0)) <| wv rfl (r_lss rfl rfl) <| wl_sq ?_
 refine wcx hx rfl (fun hx => ?_) (fun hx => ?_)
 refine wc_skip <| sq_n <| wc_seq <| wc_block <| wc_sr <| wmv rfl rfl <| wmv rfl rfl <| xgs hx fun hg108 hx => ?_
 have hi107 : i91.toNat < a.length := by omega
 refine wv rfl (r_ixC u22 sz121 rfl rfl (hM.seeR m0) hg108) ?_
 obtain ⟨s110, hM, hc111⟩ := hM.leaf (i := i91.toNat) (j := 2) m0 (fun _ => rfl) hi107 rfl
 obtain ⟨s112, hM, hc113⟩ := hM.leaf (i := i91.toNat) (j := 3) m1 (fun _ => rfl) hi107 rfl
 obtain ⟨s114, hM, hc115⟩ := hM.leaf (i := i91.toNat) (j := 4) m2 (fun _ => rfl) hi107 rfl
 refine wv rfl (r_ldC (o := i91.toNat * 5) u121 sz121 rfl (us := [(.string ((el a i91.toNat).name)), (iv ((el a i91.toNat).from_)), s110.v, s112.v, s114.v]) rfl (hM.seeR m3) hi107 ⟨(Cs.get (i := i91.toNat) (j := 0) (hM.seeR m3) (fun _ => rfl) hi107 rfl), (Cs.get (i := i91.toNat) (j := 1) (hM.seeR m3) (fun _ => rfl) hi107 rfl), (hc111 _ (Rel.refl _)), (hc113 _ (Rel.refl _)), (hc115 _ (Rel.refl _)), trivial⟩) <| wmv rfl rfl <| bs hx fun r117 h118 hx => w_cv hM rfl rfl (fun X S oL hS hR hO => ct_laws_szDoc _ X S (el a i91.toNat) s110 s112 s114 left90 hS (hR _ m2) (hR _ m1) (hR _ m0) oL h118) fun _ hM => was rfl rfl <| wl_sq <| wc_sr <| wmv rfl rfl <| wv rfl (r_lss rfl rfl) <| wl_sq ?_
 refine wcx hx rfl (fun hx => ?_) (fun hx => ?_)
 refine wc_sr <| was rfl rfl <| wl_sq <| wc_ret <| bk_ret <| sq_ret <| lp1_ret ?_
 cases hx
 obtain rfl := oi hx98
 replace hx := hx89
 refine bk_ret <| sq_ret ?_
 obtain rfl := oi hx
 exact fin_u [(iv (-1))] hM ⟨rfl, trivial⟩ rfl
 refine wc_skip <| bk_n <| sq_n <| wc_region <| wmv rfl rfl <| xgs hx fun hg127 hx => wv rfl (r_add rfl rfl hg127) <| was rfl rfl <| wl_nil ?_
 cases hx
 have hM := hM.fewer (rsC m3 rsN)
 replace hM : St ⟨w, X, S⟩ [] [rV s_a.v (cSl 5 fDDoc a)] _ := hM
 exact lp_end (m96, r117, i91 + 1) (Nat.lt_succ_self _) ⟨rfl, rfl, rfl, trivial⟩ ⟨hM, hx98⟩
 refine wc_exit <| sq_exit <| lp1_exit ?_
 cases hx
 obtain rfl := oi hx98
 replace hx := hx89
 refine bk_here <| sq_n <| wc_sr <| wmv rfl rfl <| was rfl rfl <| wl_sq <| wc_ret ?_
 obtain rfl := oi hx
 exact fin_u [(iv left90)] hM ⟨rfl, trivial⟩ rfl

noncomputable def x_laws_szRing (a : DRing) (left : Int) : Option Int :=
  Option.bind (x_laws_szEntryS a.list left) fun r9 => bif decide (r9 < 0) then (some (-1)) else (some r9)
theorem ct_laws_szRing (w : World) (X S : Bs) (a : DRing) (s_a_3 : Sv) (left : Int) (hS : SX X S w) (a_a_3 : (cSl 3 fDEntry a.list).rd S w s_a_3.v) (oL : Sep [] X w) {r : Int} (hx : x_laws_szRing a left = some r) :
 Ret Tryz.prog 138 [(.agg #[(iv a.cap), (iv a.next), (bv a.out), s_a_3.v]), (iv left)] w (KV X S w (iv r)) := by
 unfold x_laws_szRing at hx
 refine enter Tryz.func138 rfl Tryz.ntmps138 (by kernel_rfl) rfl ?_
 have hM := (St.enter oL hS).addV a_a_3
 refine wc_sr ?_
 refine w_ex rfl (x_box rfl hM ?_); intro b19 w18 hR20 hM
 refine was rfl rfl <| wl_sq <| wc_sr <| wv rfl (r_fld u124 rfl rfl sz86 rfl) <| wv rfl (r_ldB u86 rfl rfl hM m0 rfl) <| wmv rfl rfl <| bs hx fun r26 h27 hx => w_cv hM rfl rfl (fun X S oL hS hR hO => ct_laws_szEntryS _ X S a.list s_a_3 left hS (hR _ m0) oL h27) fun _ hM => was rfl rfl <| wl_sq <| wc_seq <| wc_sr <| wmv rfl rfl <| wv rfl (r_lss rfl rfl) ?_
 refine wl_sq ?_
 refine wcx hx rfl (fun hx => ?_) (fun hx => ?_)
 refine wc_sr <| was rfl rfl <| wl_sq <| wc_ret <| sq_ret ?_
 obtain rfl := oi hx
 exact fin_u [(iv (-1))] hM ⟨rfl, trivial⟩ rfl
 refine wc_skip <| sq_n <| wc_sr <| wmv rfl rfl <| was rfl rfl <| wl_sq <| wc_ret ?_
 obtain rfl := oi hx
 exact fin_u [(iv r26)] hM ⟨rfl, trivial⟩ rfl

noncomputable def x_laws_szSub (a : DSub) (left : Int) : Option Int :=
  xg (inI (left - (a.doc.size : Int))) <| bif decide ((left - (a.doc.size : Int)) < 0) then (some (-1)) else (Option.bind (x_laws_szRing a.r (left - (a.doc.size : Int))) fun r19 => bif decide (r19 < 0) then (some (-1)) else (some r19))
theorem ct_laws_szSub (w : World) (X S : Bs) (a : DSub) (s_a_5 : Sv) (left : Int) (hS : SX X S w) (a_a_5 : (cSl 3 fDEntry a.r.list).rd S w s_a_5.v) (oL : Sep [] X w) {r : Int} (hx : x_laws_szSub a left = some r) :
 Ret Tryz.prog 92 [(.agg #[(iv a.id), (.string a.doc), (iv a.r.cap), (iv a.r.next), (bv a.r.out), s_a_5.v]), (iv left)] w (KV X S w (iv r)) := by
 unfold x_laws_szSub at hx
 refine enter Tryz.func92 rfl Tryz.ntmps92 (by kernel_rfl) rfl ?_
 have hM := (St.enter oL hS).addV a_a_5
 refine wc_sr ?_
 refine w_ex rfl (x_box rfl hM ?_); intro b29 w28 hR30 hM
 refine was rfl rfl <| wl_sq <| wc_sr <| wmv rfl rfl <| wv rfl (r_fld u126 rfl rfl sz9 rfl) <| wv rfl (r_ldB u9 rfl rfl hM m0 rfl) <| wv rfl (r_lens u9 rfl) <| xgs hx fun hg38 hx => wv rfl (r_sub rfl rfl hg38) <| was rfl rfl <| wl_sq <| wc_seq <| wc_sr <| wmv rfl rfl ?_
 refine wv rfl (r_lss rfl rfl) <| wl_sq ?_
 refine wcx hx rfl (fun hx => ?_) (fun hx => ?_)
 refine wc_sr <| was rfl rfl <| wl_sq <| wc_ret <| sq_ret ?_
 obtain rfl := oi hx
 exact fin_u [(iv (-1))] hM ⟨rfl, trivial⟩ rfl
 refine wc_skip <| sq_n <| wc_sr <| wv rfl (r_fld u126 rfl rfl sz124 rfl) <| wv rfl (r_ldBS u124 sz124 rfl (us := [(iv a.r.cap), (iv a.r.next), (bv a.r.out), s_a_5.v]) rfl hM m0 rfl) <| wmv rfl rfl <| bs hx fun r47 h48 hx => w_cv hM rfl rfl (fun X S oL hS hR hO => ct_laws_szRing _ X S a.r s_a_5 (left - (a.doc.size : Int)) hS (hR _ m0) oL h48) fun _ hM => was rfl rfl <| wl_sq <| wc_seq <| wc_sr <| wmv rfl rfl <| wv rfl (r_lss rfl rfl) ?_
 refine wl_sq ?_
 refine wcx hx rfl (fun hx => ?_) (fun hx => ?_)
 refine wc_sr <| was rfl rfl <| wl_sq <| wc_ret <| sq_ret ?_
 obtain rfl := oi hx
 exact fin_u [(iv (-1))] hM ⟨rfl, trivial⟩ rfl
 refine wc_skip <| sq_n <| wc_sr <| wmv rfl rfl <| was rfl rfl <| wl_sq <| wc_ret ?_
 obtain rfl := oi hx
 exact fin_u [(iv r47)] hM ⟨rfl, trivial⟩ rfl

noncomputable def x_laws_szSubS_b0 (a : List DSub) (left12 : Int) (i13 : Int) : Option (Lr (Int × Int) (Sum Int Int)) :=
  bif decide (i13 < (a.length : Int)) then (xg (0 ≤ i13 ∧ i13 < (a.length : Int)) <| Option.bind (x_laws_szSub (el a i13.toNat) left12) fun r51 => bif decide (r51 < 0) then (some (Lr.out (Sum.inr (-1)))) else (xg (inI (i13 + 1)) <| some (Lr.go (r51, i13 + 1)))) else (some (Lr.out (Sum.inl left12)))
noncomputable def x_laws_szSubS_f0 (a : List DSub) (s62 : Int × Int) : Option (Lr (Int × Int) (Sum Int Int)) := x_laws_szSubS_b0 a s62.1 s62.2
noncomputable def x_laws_szSubS (a : List DSub) (left : Int) : Option Int :=
  xg (inI (left - (a.length : Int))) <| bif decide ((left - (a.length : Int)) < 0) then (some (-1)) else (Option.bind (iter (x_laws_szSubS_f0 a) (left - (a.length : Int), 0)) fun (y63 : Sum Int Int) => Sum.elim (fun y64 => some y64) (fun y65 => some y65) y63)
theorem ct_laws_szSubS (w : World) (X S : Bs) (a : List DSub) (s_a : Sv) (left : Int) (hS : SX X S w) (a_a_0 : (cSl 6 fDSub a).rd S w s_a.v) (oL : Sep [] X w) {r : Int} (hx : x_laws_szSubS a left = some r) :
 Ret Tryz.prog 42 [s_a.v, (iv left)] w (KV X S w (iv r)) := by
 unfold x_laws_szSubS at hx
 refine enter Tryz.func42 rfl Tryz.ntmps42 (by kernel_rfl) rfl ?_
 have hM := (St.enter oL hS).addV a_a_0
 refine wc_sr <| was rfl rfl <| wl_sq <| wc_sr <| wmv rfl rfl <| wmv rfl rfl <| wv rfl (r_lenC u23 rfl (hM.seeR m0)) <| xgs hx fun hg73 hx => wv rfl (r_sub rfl rfl hg73) <| was rfl rfl <| wl_sq <| wc_seq <| wc_sr <| wmv rfl rfl ?_
 refine wv rfl (r_lss rfl rfl) <| wl_sq ?_
 refine wcx hx rfl (fun hx => ?_) (fun hx => ?_)
 refine wc_sr <| was rfl rfl <| wl_sq <| wc_ret <| sq_ret ?_
 obtain rfl := oi hx
 exact fin_u [(iv (-1))] hM ⟨rfl, trivial⟩ rfl
 refine wc_skip <| sq_n <| wc_seq <| wc_sr <| was rfl rfl <| wl_sq <| wc_block <| bs hx fun y80 hx hx81 => ?_
 obtain ⟨m86, hx⟩ := iter_run hx
 refine wc_loop (un fun (m84 : Nat) => un fun (left82 : Int) => fun (i83 : Int) => [(0, s_a.v), (1, (iv left82)), (5, (iv i83))]) (un fun (m84 : Nat) => un fun (left82 : Int) => fun (i83 : Int) w' => St ⟨w, X, S⟩ [] [rV s_a.v (cSl 6 fDSub a)] w' ∧ iterN _ m84 (left82, i83) = some y80) (fun p => p.1) (m86, left - (a.length : Int), 0) ⟨rfl, rfl, rfl, trivial⟩ ⟨hM, hx⟩ ?_
 rintro ⟨m84, left82, i83⟩ w87 ⟨hM, hx⟩
 obtain ⟨m88, z89, rfl, hx, hx90⟩ := iterN_step hx
 unfold x_laws_szSubS_f0 x_laws_szSubS_b0 at hx
 try dsimp only at hx
 refine wc_seq <| wc_sr <| wmv rfl rfl <| wmv rfl rfl <| wv rfl (r_lenC u23 rfl (hM.seeR m0)) <| wv rfl (r_lss rfl rfl) <| wl_sq ?_
 refine wcx hx rfl (fun hx => ?_) (fun hx => ?_)
 refine wc_skip <| sq_n <| wc_seq <| wc_block <| wc_sr <| wmv rfl rfl <| wmv rfl rfl <| xgs hx fun hg100 hx => ?_
 have hi99 : i83.toNat < a.length := by omega
 refine wv rfl (r_ixC u23 sz126 rfl rfl (hM.seeR m0) hg100) ?_
 obtain ⟨s102, hM, hc103⟩ := hM.leaf (i := i83.toNat) (j := 5) m0 (fun _ => rfl) hi99 rfl
 refine wv rfl (r_ldC (o := i83.toNat * 6) u126 sz126 rfl (us := [(iv ((el a i83.toNat).id)), (.string ((el a i83.toNat).doc)), (iv ((el a i83.toNat).r.cap)), (iv ((el a i83.toNat).r.next)), (bv ((el a i83.toNat).r.out)), s102.v]) rfl (hM.seeR m1) hi99 ⟨(Cs.get (i := i83.toNat) (j := 0) (hM.seeR m1) (fun _ => rfl) hi99 rfl), (Cs.get (i := i83.toNat) (j := 1) (hM.seeR m1) (fun _ => rfl) hi99 rfl), (Cs.get (i := i83.toNat) (j := 2) (hM.seeR m1) (fun _ => rfl) hi99 rfl), (Cs.get (i := i83.toNat) (j := 3) (hM.seeR m1) (fun _ => rfl) hi99 rfl), (Cs.get (i := i83.toNat) (j := 4) (hM.seeR m1) (fun _ => rfl) hi99 rfl), (hc103 _ (Rel.refl _)), trivial⟩) <| wmv rfl rfl <| bs hx fun r105 h106 hx => w_cv hM rfl rfl (fun X S oL hS hR hO => ct_laws_szSub _ X S (el a i83.toNat) s102 left82 hS (hR _ m0) oL h106) fun _ hM => was rfl rfl <| wl_sq <| wc_sr <| wmv rfl rfl <| wv rfl (r_lss rfl rfl) <| wl_sq ?_
 refine wcx hx rfl (fun hx => ?_) (fun hx => ?_)
 refine wc_sr <| was rfl rfl <| wl_sq <| wc_ret <| bk_ret <| sq_ret <| lp1_ret ?_
 cases hx
 obtain rfl := oi hx90
 replace hx := hx81
 refine bk_ret <| sq_ret ?_
 obtain rfl := oi hx
 exact fin_u [(iv (-1))] hM ⟨rfl, trivial⟩ rfl
 refine wc_skip <| bk_n <| sq_n <| wc_region <| wmv rfl rfl <| xgs hx fun hg115 hx => wv rfl (r_add rfl rfl hg115) <| was rfl rfl <| wl_nil ?_
 cases hx
 have hM := hM.fewer (rsC m1 rsN)
 replace hM : St ⟨w, X, S⟩ [] [rV s_a.v (cSl 6 fDSub a)] _ := hM
 exact lp_end (m88, r105, i83 + 1) (Nat.lt_succ_self _) ⟨rfl, rfl, rfl, trivial⟩ ⟨hM, hx90⟩
 refine wc_exit <| sq_exit <| lp1_exit ?_
 cases hx
 obtain rfl := oi hx90
 replace hx := hx81
 refine bk_here <| sq_n <| wc_sr <| wmv rfl rfl <| was rfl rfl <| wl_sq <| wc_ret ?_
 obtain rfl := oi hx
 exact fin_u [(iv left82)] hM ⟨rfl, trivial⟩ rfl

noncomputable def x_laws_szHub (a : DHub) (left : Int) : Option Int :=
  Option.bind (x_laws_szDocS a.docs left) fun r9 => bif decide (r9 < 0) then (some (-1)) else (Option.bind (x_laws_szSubS a.subs r9) fun r19 => bif decide (r19 < 0) then (some (-1)) else (some r19))
theorem ct_laws_szHub (w : World) (X S : Bs) (a : DHub) (s_a_1 : Sv) (s_a_2 : Sv) (left : Int) (hS : SX X S w) (a_a_1 : (cSl 5 fDDoc a.docs).rd S w s_a_1.v) (a_a_2 : (cSl 6 fDSub a.subs).rd S w s_a_2.v) (oL : Sep [] X w) {r : Int} (hx : x_laws_szHub a left = some r) :
 Ret Tryz.prog 16 [(.agg #[(bv a.shut), s_a_1.v, s_a_2.v, (iv a.last)]), (iv left)] w (KV X S w (iv r)) := by
 unfold x_laws_szHub at hx
 refine enter Tryz.func16 rfl Tryz.ntmps16 (by kernel_rfl) rfl ?_
 have hM := ((St.enter oL hS).addV a_a_1).addV a_a_2
 refine wc_sr ?_
 refine w_ex rfl (x_box rfl hM ?_); intro b29 w28 hR30 hM
 refine was rfl rfl <| wl_sq <| wc_sr <| wv rfl (r_fld u25 rfl rfl sz22 rfl) <| wv rfl (r_ldB u22 rfl rfl hM m0 rfl) <| wmv rfl rfl <| bs hx fun r36 h37 hx => w_cv hM rfl rfl (fun X S oL hS hR hO => ct_laws_szDocS _ X S a.docs s_a_1 left hS (hR _ m1) oL h37) fun _ hM => was rfl rfl <| wl_sq <| wc_seq <| wc_sr <| wmv rfl rfl <| wv rfl (r_lss rfl rfl) ?_
 refine wl_sq ?_
 refine wcx hx rfl (fun hx => ?_) (fun hx => ?_)
 refine wc_sr <| was rfl rfl <| wl_sq <| wc_ret <| sq_ret ?_
 obtain rfl := oi hx
 exact fin_u [(iv (-1))] hM ⟨rfl, trivial⟩ rfl
 refine wc_skip <| sq_n <| wc_sr <| wv rfl (r_fld u25 rfl rfl sz23 rfl) <| wv rfl (r_ldB u23 rfl rfl hM m0 rfl) <| wmv rfl rfl <| bs hx fun r47 h48 hx => w_cv hM rfl rfl (fun X S oL hS hR hO => ct_laws_szSubS _ X S a.subs s_a_2 r36 hS (hR _ m0) oL h48) fun _ hM => was rfl rfl <| wl_sq <| wc_seq <| wc_sr <| wmv rfl rfl <| wv rfl (r_lss rfl rfl) ?_
 refine wl_sq ?_
 refine wcx hx rfl (fun hx => ?_) (fun hx => ?_)
 refine wc_sr <| was rfl rfl <| wl_sq <| wc_ret <| sq_ret ?_
 obtain rfl := oi hx
 exact fin_u [(iv (-1))] hM ⟨rfl, trivial⟩ rfl
 refine wc_skip <| sq_n <| wc_sr <| wmv rfl rfl <| was rfl rfl <| wl_sq <| wc_ret ?_
 obtain rfl := oi hx
 exact fin_u [(iv r47)] hM ⟨rfl, trivial⟩ rfl

noncomputable def x_laws_szQueue (a : DQueue) (left : Int) : Option Int :=
  xg (inI (left - (a.doc.size : Int))) <| bif decide ((left - (a.doc.size : Int)) < 0) then (some (-1)) else (Option.bind (x_laws_szIntS a.list (left - (a.doc.size : Int))) fun r19 => bif decide (r19 < 0) then (some (-1)) else (some r19))
theorem ct_laws_szQueue (w : World) (X S : Bs) (a : DQueue) (s_a_1 : Sv) (left : Int) (hS : SX X S w) (a_a_1 : (cSl 1 fI a.list).rd S w s_a_1.v) (oL : Sep [] X w) {r : Int} (hx : x_laws_szQueue a left = some r) :
 Ret Tryz.prog 43 [(.agg #[(.string a.doc), s_a_1.v]), (iv left)] w (KV X S w (iv r)) := by
 unfold x_laws_szQueue at hx
 refine enter Tryz.func43 rfl Tryz.ntmps43 (by kernel_rfl) rfl ?_
 have hM := (St.enter oL hS).addV a_a_1
 refine wc_sr ?_
 refine w_ex rfl (x_box rfl hM ?_); intro b29 w28 hR30 hM
 refine was rfl rfl <| wl_sq <| wc_sr <| wmv rfl rfl <| wv rfl (r_fld u81 rfl rfl sz9 rfl) <| wv rfl (r_ldB u9 rfl rfl hM m0 rfl) <| wv rfl (r_lens u9 rfl) <| xgs hx fun hg38 hx => wv rfl (r_sub rfl rfl hg38) <| was rfl rfl <| wl_sq <| wc_seq <| wc_sr <| wmv rfl rfl ?_
 refine wv rfl (r_lss rfl rfl) <| wl_sq ?_
 refine wcx hx rfl (fun hx => ?_) (fun hx => ?_)
 refine wc_sr <| was rfl rfl <| wl_sq <| wc_ret <| sq_ret ?_
 obtain rfl := oi hx
 exact fin_u [(iv (-1))] hM ⟨rfl, trivial⟩ rfl
 refine wc_skip <| sq_n <| wc_sr <| wv rfl (r_fld u81 rfl rfl sz26 rfl) <| wv rfl (r_ldB u26 rfl rfl hM m0 rfl) <| wmv rfl rfl <| bs hx fun r47 h48 hx => w_cv hM rfl rfl (fun X S oL hS hR hO => ct_laws_szIntS _ X S a.list s_a_1 (left - (a.doc.size : Int)) hS (hR _ m0) oL h48) fun _ hM => was rfl rfl <| wl_sq <| wc_seq <| wc_sr <| wmv rfl rfl <| wv rfl (r_lss rfl rfl) ?_
 refine wl_sq ?_
 refine wcx hx rfl (fun hx => ?_) (fun hx => ?_)
 refine wc_sr <| was rfl rfl <| wl_sq <| wc_ret <| sq_ret ?_
 obtain rfl := oi hx
 exact fin_u [(iv (-1))] hM ⟨rfl, trivial⟩ rfl
 refine wc_skip <| sq_n <| wc_sr <| wmv rfl rfl <| was rfl rfl <| wl_sq <| wc_ret ?_
 obtain rfl := oi hx
 exact fin_u [(iv r47)] hM ⟨rfl, trivial⟩ rfl

noncomputable def x_laws_szQueueS_b0 (a : List DQueue) (left12 : Int) (i13 : Int) : Option (Lr (Int × Int) (Sum Int Int)) :=
  bif decide (i13 < (a.length : Int)) then (xg (0 ≤ i13 ∧ i13 < (a.length : Int)) <| Option.bind (x_laws_szQueue (el a i13.toNat) left12) fun r51 => bif decide (r51 < 0) then (some (Lr.out (Sum.inr (-1)))) else (xg (inI (i13 + 1)) <| some (Lr.go (r51, i13 + 1)))) else (some (Lr.out (Sum.inl left12)))
noncomputable def x_laws_szQueueS_f0 (a : List DQueue) (s62 : Int × Int) : Option (Lr (Int × Int) (Sum Int Int)) := x_laws_szQueueS_b0 a s62.1 s62.2
noncomputable def x_laws_szQueueS (a : List DQueue) (left : Int) : Option Int :=
  xg (inI (left - (a.length : Int))) <| bif decide ((left - (a.length : Int)) < 0) then (some (-1)) else (Option.bind (iter (x_laws_szQueueS_f0 a) (left - (a.length : Int), 0)) fun (y63 : Sum Int Int) => Sum.elim (fun y64 => some y64) (fun y65 => some y65) y63)
theorem ct_laws_szQueueS (w : World) (X S : Bs) (a : List DQueue) (s_a : Sv) (left : Int) (hS : SX X S w) (a_a_0 : (cSl 2 fDQueue a).rd S w s_a.v) (oL : Sep [] X w) {r : Int} (hx : x_laws_szQueueS a left = some r) :
 Ret Tryz.prog 18 [s_a.v, (iv left)] w (KV X S w (iv r)) := by
 unfold x_laws_szQueueS at hx
 refine enter Tryz.func18 rfl Tryz.ntmps18 (by kernel_rfl) rfl ?_
 have hM := (St.enter oL hS).addV a_a_0
 refine wc_sr <| was rfl rfl <| wl_sq <| wc_sr <| wmv rfl rfl <| wmv rfl rfl <| wv rfl (r_lenC u27 rfl (hM.seeR m0)) <| xgs hx fun hg73 hx => wv rfl (r_sub rfl rfl hg73) <| was rfl rfl <| wl_sq <| wc_seq <| wc_sr <| wmv rfl rfl ?_
 refine wv rfl (r_lss rfl rfl) <| wl_sq ?_
 refine wcx hx rfl (fun hx => ?_) (fun hx => ?_)
 refine wc_sr <| was rfl rfl <| wl_sq <| wc_ret <| sq_ret ?_
 obtain rfl := oi hx
 exact fin_u [(iv (-1))] hM ⟨rfl, trivial⟩ rfl
 refine wc_skip <| sq_n <| wc_seq <| wc_sr <| was rfl rfl <| wl_sq <| wc_block <| bs hx fun y80 hx hx81 => ?_
 obtain ⟨m86, hx⟩ := iter_run hx
 refine wc_loop (un fun (m84 : Nat) => un fun (left82 : Int) => fun (i83 : Int) => [(0, s_a.v), (1, (iv left82)), (5, (iv i83))]) (un fun (m84 : Nat) => un fun (left82 : Int) => fun (i83 : Int) w' => St ⟨w, X, S⟩ [] [rV s_a.v (cSl 2 fDQueue a)] w' ∧ iterN _ m84 (left82, i83) = some y80) (fun p => p.1) (m86, left - (a.length : Int), 0) ⟨rfl, rfl, rfl, trivial⟩ ⟨hM, hx⟩ ?_
 rintro ⟨m84, left82, i83⟩ w87 ⟨hM, hx⟩
 obtain ⟨m88, z89, rfl, hx, hx90⟩ := iterN_step hx
 unfold x_laws_szQueueS_f0 x_laws_szQueueS_b0 at hx
 try dsimp only at hx
 refine wc_seq <| wc_sr <| wmv rfl rfl <| wmv rfl rfl <| wv rfl (r_lenC u27 rfl (hM.seeR m0)) <| wv rfl (r_lss rfl rfl) <| wl_sq ?_
 refine wcx hx rfl (fun hx => ?_) (fun hx => ?_)
 refine wc_skip <| sq_n <| wc_seq <| wc_block <| wc_sr <| wmv rfl rfl <| wmv rfl rfl <| xgs hx fun hg100 hx => ?_
 have hi99 : i83.toNat < a.length := by omega
 refine wv rfl (r_ixC u27 sz81 rfl rfl (hM.seeR m0) hg100) ?_
 obtain ⟨s102, hM, hc103⟩ := hM.leaf (i := i83.toNat) (j := 1) m0 (fun _ => rfl) hi99 rfl
 refine wv rfl (r_ldC (o := i83.toNat * 2) u81 sz81 rfl (us := [(.string ((el a i83.toNat).doc)), s102.v]) rfl (hM.seeR m1) hi99 ⟨(Cs.get (i := i83.toNat) (j := 0) (hM.seeR m1) (fun _ => rfl) hi99 rfl), (hc103 _ (Rel.refl _)), trivial⟩) <| wmv rfl rfl <| bs hx fun r105 h106 hx => w_cv hM rfl rfl (fun X S oL hS hR hO => ct_laws_szQueue _ X S (el a i83.toNat) s102 left82 hS (hR _ m0) oL h106) fun _ hM => was rfl rfl <| wl_sq <| wc_sr <| wmv rfl rfl <| wv rfl (r_lss rfl rfl) <| wl_sq ?_
 refine wcx hx rfl (fun hx => ?_) (fun hx => ?_)
 refine wc_sr <| was rfl rfl <| wl_sq <| wc_ret <| bk_ret <| sq_ret <| lp1_ret ?_
 cases hx
 obtain rfl := oi hx90
 replace hx := hx81
 refine bk_ret <| sq_ret ?_
 obtain rfl := oi hx
 exact fin_u [(iv (-1))] hM ⟨rfl, trivial⟩ rfl
 refine wc_skip <| bk_n <| sq_n <| wc_region <| wmv rfl rfl <| xgs hx fun hg115 hx => wv rfl (r_add rfl rfl hg115) <| was rfl rfl <| wl_nil ?_
 cases hx
 have hM := hM.fewer (rsC m1 rsN)
 replace hM : St ⟨w, X, S⟩ [] [rV s_a.v (cSl 2 fDQueue a)] _ := hM
 exact lp_end (m88, r105, i83 + 1) (Nat.lt_succ_self _) ⟨rfl, rfl, rfl, trivial⟩ ⟨hM, hx90⟩
 refine wc_exit <| sq_exit <| lp1_exit ?_
 cases hx
 obtain rfl := oi hx90
 replace hx := hx81
 refine bk_here <| sq_n <| wc_sr <| wmv rfl rfl <| was rfl rfl <| wl_sq <| wc_ret ?_
 obtain rfl := oi hx
 exact fin_u [(iv left82)] hM ⟨rfl, trivial⟩ rfl

noncomputable def x_laws_szCall (a : DCall) (left : Int) : Option Int :=
  xg (inI (left - (a.doc.size : Int))) <| bif decide ((left - (a.doc.size : Int)) < 0) then (some (-1)) else (Option.bind (x_laws_szPartS a.o (left - (a.doc.size : Int))) fun r19 => bif decide (r19 < 0) then (some (-1)) else (Option.bind (x_laws_szIntS a.text r19) fun r29 => bif decide (r29 < 0) then (some (-1)) else (some r29)))
theorem ct_laws_szCall (w : World) (X S : Bs) (a : DCall) (s_a_5 : Sv) (s_a_6 : Sv) (left : Int) (hS : SX X S w) (a_a_5 : (cSl 3 fDPart a.o).rd S w s_a_5.v) (a_a_6 : (cSl 1 fI a.text).rd S w s_a_6.v) (oL : Sep [] X w) {r : Int} (hx : x_laws_szCall a left = some r) :
 Ret Tryz.prog 93 [(.agg #[(iv a.kind), (.string a.doc), (iv a.client), (iv a.seq), (iv a.n), s_a_5.v, s_a_6.v]), (iv left)] w (KV X S w (iv r)) := by
 unfold x_laws_szCall at hx
 refine enter Tryz.func93 rfl Tryz.ntmps93 (by kernel_rfl) rfl ?_
 have hM := ((St.enter oL hS).addV a_a_5).addV a_a_6
 refine wc_sr ?_
 refine w_ex rfl (x_box rfl hM ?_); intro b39 w38 hR40 hM
 refine was rfl rfl <| wl_sq <| wc_sr <| wmv rfl rfl <| wv rfl (r_fld u85 rfl rfl sz9 rfl) <| wv rfl (r_ldB u9 rfl rfl hM m0 rfl) <| wv rfl (r_lens u9 rfl) <| xgs hx fun hg48 hx => wv rfl (r_sub rfl rfl hg48) <| was rfl rfl <| wl_sq <| wc_seq <| wc_sr <| wmv rfl rfl ?_
 refine wv rfl (r_lss rfl rfl) <| wl_sq ?_
 refine wcx hx rfl (fun hx => ?_) (fun hx => ?_)
 refine wc_sr <| was rfl rfl <| wl_sq <| wc_ret <| sq_ret ?_
 obtain rfl := oi hx
 exact fin_u [(iv (-1))] hM ⟨rfl, trivial⟩ rfl
 refine wc_skip <| sq_n <| wc_sr <| wv rfl (r_fld u85 rfl rfl sz83 rfl) <| wv rfl (r_ldB u83 rfl rfl hM m0 rfl) <| wmv rfl rfl <| bs hx fun r57 h58 hx => w_cv hM rfl rfl (fun X S oL hS hR hO => ct_laws_szPartS _ X S a.o s_a_5 (left - (a.doc.size : Int)) hS (hR _ m1) oL h58) fun _ hM => was rfl rfl <| wl_sq <| wc_seq <| wc_sr <| wmv rfl rfl <| wv rfl (r_lss rfl rfl) ?_
 refine wl_sq ?_
 refine wcx hx rfl (fun hx => ?_) (fun hx => ?_)
 refine wc_sr <| was rfl rfl <| wl_sq <| wc_ret <| sq_ret ?_
 obtain rfl := oi hx
 exact fin_u [(iv (-1))] hM ⟨rfl, trivial⟩ rfl
 refine wc_skip <| sq_n <| wc_sr <| wv rfl (r_fld u85 rfl rfl sz26 rfl) <| wv rfl (r_ldB u26 rfl rfl hM m0 rfl) <| wmv rfl rfl <| bs hx fun r68 h69 hx => w_cv hM rfl rfl (fun X S oL hS hR hO => ct_laws_szIntS _ X S a.text s_a_6 r57 hS (hR _ m0) oL h69) fun _ hM => was rfl rfl <| wl_sq <| wc_seq <| wc_sr <| wmv rfl rfl <| wv rfl (r_lss rfl rfl) ?_
 refine wl_sq ?_
 refine wcx hx rfl (fun hx => ?_) (fun hx => ?_)
 refine wc_sr <| was rfl rfl <| wl_sq <| wc_ret <| sq_ret ?_
 obtain rfl := oi hx
 exact fin_u [(iv (-1))] hM ⟨rfl, trivial⟩ rfl
 refine wc_skip <| sq_n <| wc_sr <| wmv rfl rfl <| was rfl rfl <| wl_sq <| wc_ret ?_
 obtain rfl := oi hx
 exact fin_u [(iv r68)] hM ⟨rfl, trivial⟩ rfl

noncomputable def x_laws_szAnswer (a : DAnswer) (left : Int) : Option Int :=
  Option.bind (x_laws_szIntS a.text left) fun r9 => bif decide (r9 < 0) then (some (-1)) else (Option.bind (x_laws_szEntryS a.list r9) fun r19 => bif decide (r19 < 0) then (some (-1)) else (some r19))
theorem ct_laws_szAnswer (w : World) (X S : Bs) (a : DAnswer) (s_a_2 : Sv) (s_a_3 : Sv) (left : Int) (hS : SX X S w) (a_a_2 : (cSl 1 fI a.text).rd S w s_a_2.v) (a_a_3 : (cSl 3 fDEntry a.list).rd S w s_a_3.v) (oL : Sep [] X w) {r : Int} (hx : x_laws_szAnswer a left = some r) :
 Ret Tryz.prog 94 [(.agg #[(iv a.code), (iv a.rev), s_a_2.v, s_a_3.v]), (iv left)] w (KV X S w (iv r)) := by
 unfold x_laws_szAnswer at hx
 refine enter Tryz.func94 rfl Tryz.ntmps94 (by kernel_rfl) rfl ?_
 have hM := ((St.enter oL hS).addV a_a_2).addV a_a_3
 refine wc_sr ?_
 refine w_ex rfl (x_box rfl hM ?_); intro b29 w28 hR30 hM
 refine was rfl rfl <| wl_sq <| wc_sr <| wv rfl (r_fld u88 rfl rfl sz26 rfl) <| wv rfl (r_ldB u26 rfl rfl hM m0 rfl) <| wmv rfl rfl <| bs hx fun r36 h37 hx => w_cv hM rfl rfl (fun X S oL hS hR hO => ct_laws_szIntS _ X S a.text s_a_2 left hS (hR _ m1) oL h37) fun _ hM => was rfl rfl <| wl_sq <| wc_seq <| wc_sr <| wmv rfl rfl <| wv rfl (r_lss rfl rfl) ?_
 refine wl_sq ?_
 refine wcx hx rfl (fun hx => ?_) (fun hx => ?_)
 refine wc_sr <| was rfl rfl <| wl_sq <| wc_ret <| sq_ret ?_
 obtain rfl := oi hx
 exact fin_u [(iv (-1))] hM ⟨rfl, trivial⟩ rfl
 refine wc_skip <| sq_n <| wc_sr <| wv rfl (r_fld u88 rfl rfl sz86 rfl) <| wv rfl (r_ldB u86 rfl rfl hM m0 rfl) <| wmv rfl rfl <| bs hx fun r47 h48 hx => w_cv hM rfl rfl (fun X S oL hS hR hO => ct_laws_szEntryS _ X S a.list s_a_3 r36 hS (hR _ m0) oL h48) fun _ hM => was rfl rfl <| wl_sq <| wc_seq <| wc_sr <| wmv rfl rfl <| wv rfl (r_lss rfl rfl) ?_
 refine wl_sq ?_
 refine wcx hx rfl (fun hx => ?_) (fun hx => ?_)
 refine wc_sr <| was rfl rfl <| wl_sq <| wc_ret <| sq_ret ?_
 obtain rfl := oi hx
 exact fin_u [(iv (-1))] hM ⟨rfl, trivial⟩ rfl
 refine wc_skip <| sq_n <| wc_sr <| wmv rfl rfl <| was rfl rfl <| wl_sq <| wc_ret ?_
 obtain rfl := oi hx
 exact fin_u [(iv r47)] hM ⟨rfl, trivial⟩ rfl

noncomputable def x_laws_szTask (a : DTask) (left : Int) : Option Int :=
  Option.bind (x_laws_szCall a.c left) fun r9 => bif decide (r9 < 0) then (some (-1)) else (Option.bind (x_laws_szAnswer a.a r9) fun r19 => bif decide (r19 < 0) then (some (-1)) else (some r19))
theorem ct_laws_szTask (w : World) (X S : Bs) (a : DTask) (s_a_5 : Sv) (s_a_6 : Sv) (s_a_13 : Sv) (s_a_14 : Sv) (left : Int) (hS : SX X S w) (a_a_5 : (cSl 3 fDPart a.c.o).rd S w s_a_5.v) (a_a_6 : (cSl 1 fI a.c.text).rd S w s_a_6.v) (a_a_13 : (cSl 1 fI a.a.text).rd S w s_a_13.v) (a_a_14 : (cSl 3 fDEntry a.a.list).rd S w s_a_14.v) (oL : Sep [] X w) {r : Int} (hx : x_laws_szTask a left = some r) :
 Ret Tryz.prog 44 [(.agg #[(iv a.c.kind), (.string a.c.doc), (iv a.c.client), (iv a.c.seq), (iv a.c.n), s_a_5.v, s_a_6.v, (iv a.pc), (iv a.inv), (iv a.lin), (iv a.res), (iv a.a.code), (iv a.a.rev), s_a_13.v, s_a_14.v]), (iv left)] w (KV X S w (iv r)) := by
 unfold x_laws_szTask at hx
 refine enter Tryz.func44 rfl Tryz.ntmps44 (by kernel_rfl) rfl ?_
 have hM := ((((St.enter oL hS).addV a_a_5).addV a_a_6).addV a_a_13).addV a_a_14
 refine wc_sr ?_
 refine w_ex rfl (x_box rfl hM ?_); intro b29 w28 hR30 hM
 refine was rfl rfl <| wl_sq <| wc_sr <| wv rfl (r_fld u90 rfl rfl sz85 rfl) <| wv rfl (r_ldBS u85 sz85 rfl (us := [(iv a.c.kind), (.string a.c.doc), (iv a.c.client), (iv a.c.seq), (iv a.c.n), s_a_5.v, s_a_6.v]) rfl hM m0 rfl) <| wmv rfl rfl <| bs hx fun r36 h37 hx => w_cv hM rfl rfl (fun X S oL hS hR hO => ct_laws_szCall _ X S a.c s_a_5 s_a_6 left hS (hR _ m3) (hR _ m2) oL h37) fun _ hM => was rfl rfl <| wl_sq <| wc_seq <| wc_sr <| wmv rfl rfl <| wv rfl (r_lss rfl rfl) ?_
 refine wl_sq ?_
 refine wcx hx rfl (fun hx => ?_) (fun hx => ?_)
 refine wc_sr <| was rfl rfl <| wl_sq <| wc_ret <| sq_ret ?_
 obtain rfl := oi hx
 exact fin_u [(iv (-1))] hM ⟨rfl, trivial⟩ rfl
 refine wc_skip <| sq_n <| wc_sr <| wv rfl (r_fld u90 rfl rfl sz88 rfl) <| wv rfl (r_ldBS u88 sz88 rfl (us := [(iv a.a.code), (iv a.a.rev), s_a_13.v, s_a_14.v]) rfl hM m0 rfl) <| wmv rfl rfl <| bs hx fun r47 h48 hx => w_cv hM rfl rfl (fun X S oL hS hR hO => ct_laws_szAnswer _ X S a.a s_a_13 s_a_14 r36 hS (hR _ m1) (hR _ m0) oL h48) fun _ hM => was rfl rfl <| wl_sq <| wc_seq <| wc_sr <| wmv rfl rfl <| wv rfl (r_lss rfl rfl) ?_
 refine wl_sq ?_
 refine wcx hx rfl (fun hx => ?_) (fun hx => ?_)
 refine wc_sr <| was rfl rfl <| wl_sq <| wc_ret <| sq_ret ?_
 obtain rfl := oi hx
 exact fin_u [(iv (-1))] hM ⟨rfl, trivial⟩ rfl
 refine wc_skip <| sq_n <| wc_sr <| wmv rfl rfl <| was rfl rfl <| wl_sq <| wc_ret ?_
 obtain rfl := oi hx
 exact fin_u [(iv r47)] hM ⟨rfl, trivial⟩ rfl

noncomputable def x_laws_szTaskS_b0 (a : List DTask) (left12 : Int) (i13 : Int) : Option (Lr (Int × Int) (Sum Int Int)) :=
  bif decide (i13 < (a.length : Int)) then (xg (0 ≤ i13 ∧ i13 < (a.length : Int)) <| Option.bind (x_laws_szTask (el a i13.toNat) left12) fun r63 => bif decide (r63 < 0) then (some (Lr.out (Sum.inr (-1)))) else (xg (inI (i13 + 1)) <| some (Lr.go (r63, i13 + 1)))) else (some (Lr.out (Sum.inl left12)))
noncomputable def x_laws_szTaskS_f0 (a : List DTask) (s74 : Int × Int) : Option (Lr (Int × Int) (Sum Int Int)) := x_laws_szTaskS_b0 a s74.1 s74.2
noncomputable def x_laws_szTaskS (a : List DTask) (left : Int) : Option Int :=
  xg (inI (left - (a.length : Int))) <| bif decide ((left - (a.length : Int)) < 0) then (some (-1)) else (Option.bind (iter (x_laws_szTaskS_f0 a) (left - (a.length : Int), 0)) fun (y75 : Sum Int Int) => Sum.elim (fun y76 => some y76) (fun y77 => some y77) y75)
theorem ct_laws_szTaskS (w : World) (X S : Bs) (a : List DTask) (s_a : Sv) (left : Int) (hS : SX X S w) (a_a_0 : (cSl 15 fDTask a).rd S w s_a.v) (oL : Sep [] X w) {r : Int} (hx : x_laws_szTaskS a left = some r) :
 Ret Tryz.prog 19 [s_a.v, (iv left)] w (KV X S w (iv r)) := by
 unfold x_laws_szTaskS at hx
 refine enter Tryz.func19 rfl Tryz.ntmps19 (by kernel_rfl) rfl ?_
 have hM := (St.enter oL hS).addV a_a_0
 refine wc_sr <| was rfl rfl <| wl_sq <| wc_sr <| wmv rfl rfl <| wmv rfl rfl <| wv rfl (r_lenC u28 rfl (hM.seeR m0)) <| xgs hx fun hg85 hx => wv rfl (r_sub rfl rfl hg85) <| was rfl rfl <| wl_sq <| wc_seq <| wc_sr <| wmv rfl rfl ?_
 refine wv rfl (r_lss rfl rfl) <| wl_sq ?_
 refine wcx hx rfl (fun hx => ?_) (fun hx => ?_)
 refine wc_sr <| was rfl rfl <| wl_sq <| wc_ret <| sq_ret ?_
 obtain rfl := oi hx
 exact fin_u [(iv (-1))] hM ⟨rfl, trivial⟩ rfl
 refine wc_skip <| sq_n <| wc_seq <| wc_sr <| was rfl rfl <| wl_sq <| wc_block <| bs hx fun y92 hx hx93 => ?_
 obtain ⟨m98, hx⟩ := iter_run hx
 refine wc_loop (un fun (m96 : Nat) => un fun (left94 : Int) => fun (i95 : Int) => [(0, s_a.v), (1, (iv left94)), (5, (iv i95))]) (un fun (m96 : Nat) => un fun (left94 : Int) => fun (i95 : Int) w' => St ⟨w, X, S⟩ [] [rV s_a.v (cSl 15 fDTask a)] w' ∧ iterN _ m96 (left94, i95) = some y92) (fun p => p.1) (m98, left - (a.length : Int), 0) ⟨rfl, rfl, rfl, trivial⟩ ⟨hM, hx⟩ ?_
 rintro ⟨m96, left94, i95⟩ w99 ⟨hM, hx⟩
 obtain ⟨m100, z101, rfl, hx, hx102⟩ := iterN_step hx
 unfold x_laws_szTaskS_f0 x_laws_szTaskS_b0 at hx
 try dsimp only at hx
 refine wc_seq <| wc_sr <| wmv rfl rfl <| wmv rfl rfl <| wv rfl (r_lenC u28 rfl (hM.seeR m0)) <| wv rfl (r_lss rfl rfl) <| wl_sq ?_
 refine wcx hx rfl (fun hx => ?_) (fun hx => ?_)
 refine wc_skip <| sq_n <| wc_seq <| wc_block <| wc_sr <| wmv rfl rfl <| wmv rfl rfl <| xgs hx fun hg112 hx => ?_
 have hi111 : i95.toNat < a.length := by omega
 refine wv rfl (r_ixC u28 sz90 rfl rfl (hM.seeR m0) hg112) ?_
 obtain ⟨s114, hM, hc115⟩ := hM.leaf (i := i95.toNat) (j := 5) m0 (fun _ => rfl) hi111 rfl
 obtain ⟨s116, hM, hc117⟩ := hM.leaf (i := i95.toNat) (j := 6) m1 (fun _ => rfl) hi111 rfl
 obtain ⟨s118, hM, hc119⟩ := hM.leaf (i := i95.toNat) (j := 13) m2 (fun _ => rfl) hi111 rfl
 obtain ⟨s120, hM, hc121⟩ := hM.leaf (i := i95.toNat) (j := 14) m3 (fun _ => rfl) hi111 rfl
 refine wv rfl (r_ldC (o := i95.toNat * 15) u90 sz90 rfl (us := [(iv ((el a i95.toNat).c.kind)), (.string ((el a i95.toNat).c.doc)), (iv ((el a i95.toNat).c.client)), (iv ((el a i95.toNat).c.seq)), (iv ((el a i95.toNat).c.n)), s114.v, s116.v, (iv ((el a i95.toNat).pc)), (iv ((el a i95.toNat).inv)), (iv ((el a i95.toNat).lin)), (iv ((el a i95.toNat).res)), (iv ((el a i95.toNat).a.code)), (iv ((el a i95.toNat).a.rev)), s118.v, s120.v]) rfl (hM.seeR m4) hi111 ⟨(Cs.get (i := i95.toNat) (j := 0) (hM.seeR m4) (fun _ => rfl) hi111 rfl), (Cs.get (i := i95.toNat) (j := 1) (hM.seeR m4) (fun _ => rfl) hi111 rfl), (Cs.get (i := i95.toNat) (j := 2) (hM.seeR m4) (fun _ => rfl) hi111 rfl), (Cs.get (i := i95.toNat) (j := 3) (hM.seeR m4) (fun _ => rfl) hi111 rfl), (Cs.get (i := i95.toNat) (j := 4) (hM.seeR m4) (fun _ => rfl) hi111 rfl), (hc115 _ (Rel.refl _)), (hc117 _ (Rel.refl _)), (Cs.get (i := i95.toNat) (j := 7) (hM.seeR m4) (fun _ => rfl) hi111 rfl), (Cs.get (i := i95.toNat) (j := 8) (hM.seeR m4) (fun _ => rfl) hi111 rfl), (Cs.get (i := i95.toNat) (j := 9) (hM.seeR m4) (fun _ => rfl) hi111 rfl), (Cs.get (i := i95.toNat) (j := 10) (hM.seeR m4) (fun _ => rfl) hi111 rfl), (Cs.get (i := i95.toNat) (j := 11) (hM.seeR m4) (fun _ => rfl) hi111 rfl), (Cs.get (i := i95.toNat) (j := 12) (hM.seeR m4) (fun _ => rfl) hi111 rfl), (hc119 _ (Rel.refl _)), (hc121 _ (Rel.refl _)), trivial⟩) <| wmv rfl rfl <| bs hx fun r123 h124 hx => w_cv hM rfl rfl (fun X S oL hS hR hO => ct_laws_szTask _ X S (el a i95.toNat) s114 s116 s118 s120 left94 hS (hR _ m3) (hR _ m2) (hR _ m1) (hR _ m0) oL h124) fun _ hM => was rfl rfl <| wl_sq <| wc_sr <| wmv rfl rfl <| wv rfl (r_lss rfl rfl) <| wl_sq ?_
 refine wcx hx rfl (fun hx => ?_) (fun hx => ?_)
 refine wc_sr <| was rfl rfl <| wl_sq <| wc_ret <| bk_ret <| sq_ret <| lp1_ret ?_
 cases hx
 obtain rfl := oi hx102
 replace hx := hx93
 refine bk_ret <| sq_ret ?_
 obtain rfl := oi hx
 exact fin_u [(iv (-1))] hM ⟨rfl, trivial⟩ rfl
 refine wc_skip <| bk_n <| sq_n <| wc_region <| wmv rfl rfl <| xgs hx fun hg133 hx => wv rfl (r_add rfl rfl hg133) <| was rfl rfl <| wl_nil ?_
 cases hx
 have hM := hM.fewer (rsC m4 rsN)
 replace hM : St ⟨w, X, S⟩ [] [rV s_a.v (cSl 15 fDTask a)] _ := hM
 exact lp_end (m100, r123, i95 + 1) (Nat.lt_succ_self _) ⟨rfl, rfl, rfl, trivial⟩ ⟨hM, hx102⟩
 refine wc_exit <| sq_exit <| lp1_exit ?_
 cases hx
 obtain rfl := oi hx102
 replace hx := hx93
 refine bk_here <| sq_n <| wc_sr <| wmv rfl rfl <| was rfl rfl <| wl_sq <| wc_ret ?_
 obtain rfl := oi hx
 exact fin_u [(iv left94)] hM ⟨rfl, trivial⟩ rfl

noncomputable def x_laws_szWorld (a : DWorld) (left : Int) : Option Int :=
  Option.bind (x_laws_szHub a.h left) fun r9 => bif decide (r9 < 0) then (some (-1)) else (Option.bind (x_laws_szIntS a.locks r9) fun r19 => bif decide (r19 < 0) then (some (-1)) else (Option.bind (x_laws_szQueueS a.queues r19) fun r29 => bif decide (r29 < 0) then (some (-1)) else (Option.bind (x_laws_szTaskS a.tasks r29) fun r39 => bif decide (r39 < 0) then (some (-1)) else (some r39))))
theorem ct_laws_szWorld (w : World) (X S : Bs) (a : DWorld) (s_a_1 : Sv) (s_a_2 : Sv) (s_a_4 : Sv) (s_a_5 : Sv) (s_a_6 : Sv) (left : Int) (hS : SX X S w) (a_a_1 : (cSl 5 fDDoc a.h.docs).rd S w s_a_1.v) (a_a_2 : (cSl 6 fDSub a.h.subs).rd S w s_a_2.v) (a_a_4 : (cSl 1 fI a.locks).rd S w s_a_4.v) (a_a_5 : (cSl 2 fDQueue a.queues).rd S w s_a_5.v) (a_a_6 : (cSl 15 fDTask a.tasks).rd S w s_a_6.v) (oL : Sep [] X w) {r : Int} (hx : x_laws_szWorld a left = some r) :
 Ret Tryz.prog 5 [(.agg #[(bv a.h.shut), s_a_1.v, s_a_2.v, (iv a.h.last), s_a_4.v, s_a_5.v, s_a_6.v, (iv a.step)]), (iv left)] w (KV X S w (iv r)) := by
 unfold x_laws_szWorld at hx
 refine enter Tryz.func5 rfl Tryz.ntmps5 (by kernel_rfl) rfl ?_
 have hM := (((((St.enter oL hS).addV a_a_1).addV a_a_2).addV a_a_4).addV a_a_5).addV a_a_6
 refine wc_sr ?_
 refine w_ex rfl (x_box rfl hM ?_); intro b49 w48 hR50 hM
 refine was rfl rfl <| wl_sq <| wc_sr <| wv rfl (r_fld u30 rfl rfl sz25 rfl) <| wv rfl (r_ldBS u25 sz25 rfl (us := [(bv a.h.shut), s_a_1.v, s_a_2.v, (iv a.h.last)]) rfl hM m0 rfl) <| wmv rfl rfl <| bs hx fun r56 h57 hx => w_cv hM rfl rfl (fun X S oL hS hR hO => ct_laws_szHub _ X S a.h s_a_1 s_a_2 left hS (hR _ m4) (hR _ m3) oL h57) fun _ hM => was rfl rfl <| wl_sq <| wc_seq <| wc_sr <| wmv rfl rfl <| wv rfl (r_lss rfl rfl) ?_
 refine wl_sq ?_
 refine wcx hx rfl (fun hx => ?_) (fun hx => ?_)
 refine wc_sr <| was rfl rfl <| wl_sq <| wc_ret <| sq_ret ?_
 obtain rfl := oi hx
 exact fin_u [(iv (-1))] hM ⟨rfl, trivial⟩ rfl
 refine wc_skip <| sq_n <| wc_sr <| wv rfl (r_fld u30 rfl rfl sz26 rfl) <| wv rfl (r_ldB u26 rfl rfl hM m0 rfl) <| wmv rfl rfl <| bs hx fun r67 h68 hx => w_cv hM rfl rfl (fun X S oL hS hR hO => ct_laws_szIntS _ X S a.locks s_a_4 r56 hS (hR _ m2) oL h68) fun _ hM => was rfl rfl <| wl_sq <| wc_seq <| wc_sr <| wmv rfl rfl <| wv rfl (r_lss rfl rfl) ?_
 refine wl_sq ?_
 refine wcx hx rfl (fun hx => ?_) (fun hx => ?_)
 refine wc_sr <| was rfl rfl <| wl_sq <| wc_ret <| sq_ret ?_
 obtain rfl := oi hx
 exact fin_u [(iv (-1))] hM ⟨rfl, trivial⟩ rfl
 refine wc_skip <| sq_n <| wc_sr <| wv rfl (r_fld u30 rfl rfl sz27 rfl) <| wv rfl (r_ldB u27 rfl rfl hM m0 rfl) <| wmv rfl rfl <| bs hx fun r78 h79 hx => w_cv hM rfl rfl (fun X S oL hS hR hO => ct_laws_szQueueS _ X S a.queues s_a_5 r67 hS (hR _ m1) oL h79) fun _ hM => was rfl rfl <| wl_sq <| wc_seq <| wc_sr <| wmv rfl rfl <| wv rfl (r_lss rfl rfl) ?_
 refine wl_sq ?_
 refine wcx hx rfl (fun hx => ?_) (fun hx => ?_)
 refine wc_sr <| was rfl rfl <| wl_sq <| wc_ret <| sq_ret ?_
 obtain rfl := oi hx
 exact fin_u [(iv (-1))] hM ⟨rfl, trivial⟩ rfl
 refine wc_skip <| sq_n <| wc_sr <| wv rfl (r_fld u30 rfl rfl sz28 rfl) <| wv rfl (r_ldB u28 rfl rfl hM m0 rfl) <| wmv rfl rfl <| bs hx fun r89 h90 hx => w_cv hM rfl rfl (fun X S oL hS hR hO => ct_laws_szTaskS _ X S a.tasks s_a_6 r78 hS (hR _ m0) oL h90) fun _ hM => was rfl rfl <| wl_sq <| wc_seq <| wc_sr <| wmv rfl rfl <| wv rfl (r_lss rfl rfl) ?_
 refine wl_sq ?_
 refine wcx hx rfl (fun hx => ?_) (fun hx => ?_)
 refine wc_sr <| was rfl rfl <| wl_sq <| wc_ret <| sq_ret ?_
 obtain rfl := oi hx
 exact fin_u [(iv (-1))] hM ⟨rfl, trivial⟩ rfl
 refine wc_skip <| sq_n <| wc_sr <| wmv rfl rfl <| was rfl rfl <| wl_sq <| wc_ret ?_
 obtain rfl := oi hx
 exact fin_u [(iv r89)] hM ⟨rfl, trivial⟩ rfl

end Go.Proofs.YtjbonmmmcnpjiaaGreatDoor
