/- Walks of functions of this program (printed by a program of ours, by the rules of the layer). No condition. -/
import Derived.Test.YtdfjkipdmeomdaaTM
import Derived.Test.YtdfjkipdmeomdaaNs
namespace Go.Proofs.Ytdfjkipdmeomdaa
open Go.RowKit

noncomputable def x_laws_szMarkS (a : List DMark) (left : Int) : Option Int :=
  xg (inI (left - (a.length : Int))) <| bif decide ((left - (a.length : Int)) < 0) then (some (-1)) else (some (left - (a.length : Int)))
theorem ct_laws_szMarkS (w : World) (X S : Bs) (a : List DMark) (s_a : Sv) (left : Int) (hS : ∀ b, S b → b < w.heap.size ∧ ¬ X b) (a_a_0 : (cSl 3 fDMark a).rd S w s_a.v) (oL : Sep [] X w) {r : Int} (hx : x_laws_szMarkS a left = some r) :
  Ret Try.prog 32 [s_a.v, (.int .i64 left)] w (fun u w' => ∃ _ : Unit, u = (.int .i64 r) ∧ Gives X S w [] [] w') := by
 unfold x_laws_szMarkS at hx
 refine enter Try.func32 rfl Try.ntmps32 (by kernel_rfl) rfl ?_
 have hM := St.enter oL hS
 have hM := hM.addE (r := rV s_a.v (cSl 3 fDMark a)) a_a_0
 refine wc_sr ?_
 refine was rfl rfl ?_
 refine wl_sq ?_
 refine wc_sr ?_
 refine wmv rfl rfl ?_
 refine wmv rfl rfl ?_
 refine wv rfl (r_lenC Try.underlying51 rfl (hM.seeR (.head _))) ?_
 obtain ⟨hg18, hx⟩ := xg_some hx
 refine wv rfl (r_sub rfl rfl hg18) ?_
 refine was rfl rfl ?_
 refine wl_sq ?_
 refine wc_seq ?_
 refine wc_sr ?_
 refine wmv rfl rfl ?_
 refine wv rfl (r_lss rfl rfl) ?_
 refine wl_sq ?_
 refine wc_cond rfl (fun hc22 => ?_) (fun hc22 => ?_)
 ·
  replace hx := xif_t hc22 hx
  refine wc_sr ?_
  refine was rfl rfl ?_
  refine wl_sq ?_
  refine wc_ret ?_
  refine sq_ret ?_
  obtain rfl := Option.some.inj hx
  refine fin_ret [(.int .i64 (-1))] ⟨rfl, trivial⟩ ?_
  replace hM := hM.t0
  have hM := hM.fewer rsN
  exact ⟨(), rfl, hM.gives⟩
 ·
  replace hx := xif_f hc22 hx
  refine wc_skip ?_
  refine sq_n ?_
  refine wc_sr ?_
  refine wmv rfl rfl ?_
  refine was rfl rfl ?_
  refine wl_sq ?_
  refine wc_ret ?_
  obtain rfl := Option.some.inj hx
  refine fin_ret [(.int .i64 (left - (a.length : Int)))] ⟨rfl, trivial⟩ ?_
  replace hM := hM.t0
  have hM := hM.fewer rsN
  exact ⟨(), rfl, hM.gives⟩

noncomputable def x_laws_toMark (a : DMark) : Option DMark :=
  some a
theorem ct_laws_toMark (w : World) (X S : Bs) (a : DMark) (hS : ∀ b, S b → b < w.heap.size ∧ ¬ X b)  (oL : Sep [] X w) {r : DMark} (hx : x_laws_toMark a = some r) :
  Ret Try.prog 67 [(.agg #[(.int .i64 a.id), (.int .i64 a.from_), (.int .i64 a.to)])] w (fun u w' => ∃ _ : Unit, u = .agg #[(.int .i64 r.id), (.int .i64 r.from_), (.int .i64 r.to)] ∧ Gives X S w [] [] w') := by
 unfold x_laws_toMark at hx
 refine enter Try.func67 rfl Try.ntmps67 (by kernel_rfl) rfl ?_
 have hM := St.enter oL hS
 refine wc_sr ?_
 refine w_ex rfl (x_box rfl hM ?_); intro b32 w31 hR33 hM
 dsimp only [Value.cells] at hM
 refine w_ex rfl (x_alloc sz90 hM ?_); intro b36 w35 hR37 hM
 dsimp only [Value.cells] at hM
 refine wl_sq ?_
 refine wc_sr ?_
 refine w_ex rfl (x_alloc sz90 hM ?_); intro b40 w39 hR41 hM
 dsimp only [Value.cells] at hM
 refine wl_sq ?_
 refine wc_sr ?_
 refine wv rfl (r_fld Try.underlying93 rfl rfl sz3 rfl) ?_
 refine wv rfl (r_ldB Try.underlying3 rfl rfl hM (.tail _ (.tail _ (.head _))) rfl) ?_
 refine wv rfl (r_fld Try.underlying90 rfl rfl sz3 rfl) ?_
 refine w_exu (x_stB #[(.int .i64 a.id), (.int .i64 0), (.int .i64 0)] sz3 rfl rfl rfl rfl rfl rfl hM ?_); intro w46 hM
 refine wl_sq ?_
 refine wc_sr ?_
 refine wv rfl (r_fld Try.underlying93 rfl rfl sz3 rfl) ?_
 refine wv rfl (r_ldB Try.underlying3 rfl rfl hM (.tail _ (.tail _ (.head _))) rfl) ?_
 refine wv rfl (r_fld Try.underlying90 rfl rfl sz3 rfl) ?_
 refine w_exu (x_stB #[(.int .i64 a.id), (.int .i64 a.from_), (.int .i64 0)] sz3 rfl rfl rfl rfl rfl rfl hM ?_); intro w51 hM
 refine wl_sq ?_
 refine wc_sr ?_
 refine wv rfl (r_fld Try.underlying93 rfl rfl sz3 rfl) ?_
 refine wv rfl (r_ldB Try.underlying3 rfl rfl hM (.tail _ (.tail _ (.head _))) rfl) ?_
 refine wv rfl (r_fld Try.underlying90 rfl rfl sz3 rfl) ?_
 refine w_exu (x_stB #[(.int .i64 a.id), (.int .i64 a.from_), (.int .i64 a.to)] sz3 rfl rfl rfl rfl rfl rfl hM ?_); intro w56 hM
 refine wl_sq ?_
 refine wc_sr ?_
 refine wv rfl (r_ldBS Try.underlying90 sz90 rfl (us := [(.int .i64 a.id), (.int .i64 a.from_), (.int .i64 a.to)]) rfl hM (.head _) rfl) ?_
 replace hM := hM.p1
 refine w_exu (x_stB #[(.int .i64 a.id), (.int .i64 a.from_), (.int .i64 a.to)] sz90 rfl rfl rfl rfl rfl rfl hM ?_); intro w59 hM
 refine wl_sq ?_
 refine wc_ret ?_
 obtain rfl := Option.some.inj hx
 refine fin_ret [(.agg #[(.int .i64 a.id), (.int .i64 a.from_), (.int .i64 a.to)])] ⟨rv_box Try.underlying90 sz90 rfl rfl hM (.head _), trivial⟩ ?_
 replace hM := hM.t0
 have hM := hM.fewer rsN
 exact ⟨(), rfl, hM.gives⟩

noncomputable def x_laws_toMarkS_b0 (a : List DMark) (i38 : Int) (l39 : List DMark) : Option (Lr (Int × List DMark) (List DMark)) :=
  bif decide (i38 < (a.length : Int)) then (xg (0 ≤ i38 ∧ i38 < (a.length : Int)) <| Option.bind (x_laws_toMark (el a i38.toNat)) fun r78 => xg (0 ≤ i38 ∧ i38 < (l39.length : Int)) <| xg (inI (i38 + 1)) <| some (Lr.go (i38 + 1, l39.set i38.toNat r78))) else (some (Lr.out l39))
noncomputable def x_laws_toMarkS_f0 (a : List DMark) (s91 : Int × List DMark) : Option (Lr (Int × List DMark) (List DMark)) := x_laws_toMarkS_b0 a s91.1 s91.2
noncomputable def x_laws_toMarkS (a : List DMark) : Option (List DMark) :=
  xg (0 ≤ (a.length : Int) ∧ (a.length : Int) ≤ 1099511627776) <| Option.bind (iter (x_laws_toMarkS_f0 a) (0, List.replicate ((a.length : Int).toNat) (default : DMark))) fun (y92 : List DMark) => some y92
theorem ct_laws_toMarkS (w : World) (X S : Bs) (a : List DMark) (s_a : Sv) (hS : ∀ b, S b → b < w.heap.size ∧ ¬ X b) (a_a_0 : (cSl 3 fDMark a).rd S w s_a.v) (oL : Sep [] X w) {r : List DMark} (hx : x_laws_toMarkS a = some r) :
  Ret Try.prog 34 [s_a.v] w (fun u w' => ∃ y : Sv, u = y.v ∧ Gives X S w [oC (cSl 3 fDMark r) y.v] [] w') := by
 unfold x_laws_toMarkS at hx
 refine enter Try.func34 rfl Try.ntmps34 (by kernel_rfl) rfl ?_
 have hM := St.enter oL hS
 have hM := hM.addE (r := rV s_a.v (cSl 3 fDMark a)) a_a_0
 refine wc_sr ?_
 refine was rfl rfl ?_
 refine wl_sq ?_
 refine wc_sr ?_
 refine wmv rfl rfl ?_
 refine wv rfl (r_lenC Try.underlying51 rfl (hM.seeR (.head _))) ?_
 obtain ⟨hg101, hx⟩ := xg_some hx
 have hk102 : (a.length : Int) = ((a.length : Int).toNat : Int) := by omega
 refine w_ex rfl (x_make (f := fDMark) (k := ((a.length : Int).toNat)) (default : DMark) Try.underlying53 sz90 (fun _ => rfl) (fun _ => zP (pV _ rfl) (zP (pV _ rfl) (zP (pV _ rfl) zN))) (by rw [← hk102]; rfl) (by omega) rfl hM ?_); intro s100 w99 hR103 hM
 refine was rfl rfl ?_
 refine wl_sq ?_
 refine wc_seq ?_
 refine wc_sr ?_
 refine was rfl rfl ?_
 refine wl_sq ?_
 refine wc_block ?_
 obtain ⟨y107, hx, hx108⟩ := bind_some' hx
 obtain ⟨m113, hx⟩ := iter_run hx
 refine wc_loop (un fun (m111 : Nat) => un fun (i109 : Int) => fun (l110 : List DMark) => [(0, s_a.v), (3, s100.v), (4, (.int .i64 i109))]) (un fun (m111 : Nat) => un fun (i109 : Int) => fun (l110 : List DMark) w' => St ⟨w, X, S⟩ [oC (cSl 3 fDMark l110) s100.v] [rV s_a.v (cSl 3 fDMark a)] w' ∧ iterN _ m111 (i109, l110) = some y107) (fun p => p.1) (m113, 0, List.replicate ((a.length : Int).toNat) (default : DMark)) ⟨rfl, rfl, rfl, trivial⟩ ⟨hM, hx⟩ ?_
 rintro ⟨m111, i109, l110⟩ w114 ⟨hM, hx⟩
 obtain ⟨m115, z116, rfl, hx, hx117⟩ := iterN_step hx
 unfold x_laws_toMarkS_f0 x_laws_toMarkS_b0 at hx
 try dsimp only at hx
 refine wc_seq ?_
 refine wc_sr ?_
 refine wmv rfl rfl ?_
 refine wmv rfl rfl ?_
 refine wv rfl (r_lenC Try.underlying51 rfl (hM.seeR (.head _))) ?_
 refine wv rfl (r_lss rfl rfl) ?_
 refine wl_sq ?_
 refine wc_cond rfl (fun hc122 => ?_) (fun hc122 => ?_)
 ·
  replace hx := xif_t hc122 hx
  refine wc_skip ?_
  refine sq_n ?_
  refine wc_seq ?_
  refine wc_block ?_
  refine wc_region ?_
  refine wmv rfl rfl ?_
  refine wmv rfl rfl ?_
  refine wmv rfl rfl ?_
  refine wmv rfl rfl ?_
  obtain ⟨hg129, hx⟩ := xg_some hx
  have hi128 : i109.toNat < a.length := by omega
  refine wv rfl (r_ixC Try.underlying51 sz93 rfl rfl (hM.seeR (.head _)) hg129) ?_
  refine wv rfl (r_ldC (o := i109.toNat * 3) Try.underlying93 sz93 rfl (us := [(.int .i64 ((el a i109.toNat).id)), (.int .i64 ((el a i109.toNat).from_)), (.int .i64 ((el a i109.toNat).to))]) rfl (hM.seeR (.head _)) hi128 ⟨(Cs.get (i := i109.toNat) (j := 0) (hM.seeR (.head _)) (fun _ => rfl) hi128 rfl), (Cs.get (i := i109.toNat) (j := 1) (hM.seeR (.head _)) (fun _ => rfl) hi128 rfl), (Cs.get (i := i109.toNat) (j := 2) (hM.seeR (.head _)) (fun _ => rfl) hi128 rfl), trivial⟩) ?_
  obtain ⟨r131, h132, hx⟩ := bind_some' hx
  refine w_call rfl rfl (hM.callV fun X S oL hS hR hO => ct_laws_toMark _ X S (el a i109.toNat) hS  oL h132) ?_
  rintro _ w133 ⟨rfl, hR134⟩
  have hM := hM.call hR134
  obtain ⟨hg137, hx⟩ := xg_some hx
  have hi136 : i109.toNat < l110.length := by omega
  refine wv rfl (r_ixC Try.underlying53 sz90 rfl rfl (hM.seeO (.head _)) hg137) ?_
  refine w_exu (x_stE (f := fDMark) (k := 3) (L := l110) (i := i109.toNat) (j := 0) r131 [cI r131.id, cI r131.from_, cI r131.to] sz90 (fun _ => rfl) rfl rfl hi136 rfl rfl rfl rfl rfl (fun _ => zP (pV _ rfl) (zP (pV _ rfl) (zP (pV _ rfl) zN))) hM ?_); intro w138 hM
  refine wl_nil ?_
  refine bk_n ?_
  refine sq_n ?_
  refine wc_region ?_
  refine wmv rfl rfl ?_
  obtain ⟨hg142, hx⟩ := xg_some hx
  refine wv rfl (r_add rfl rfl hg142) ?_
  refine was rfl rfl ?_
  refine wl_nil ?_
  obtain rfl := Option.some.inj hx
  exact lp_end (m115, i109 + 1, l110.set i109.toNat r131) (Nat.lt_succ_self _) ⟨rfl, rfl, rfl, trivial⟩ ⟨hM, hx117⟩
 ·
  replace hx := xif_f hc122 hx
  refine wc_exit ?_
  refine sq_exit ?_
  refine lp1_exit ?_
  obtain rfl := Option.some.inj hx
  obtain rfl := Option.some.inj hx117
  replace hx := hx108
  try dsimp only [Sum.elim_inl, Sum.elim_inr] at hx
  refine bk_here ?_
  refine sq_n ?_
  refine wc_sr ?_
  refine wmv rfl rfl ?_
  refine was rfl rfl ?_
  refine wl_sq ?_
  refine wc_ret ?_
  obtain rfl := Option.some.inj hx
  refine fin_ret [s100.v] ⟨rfl, trivial⟩ ?_
  replace hM := hM.t1
  have hM := hM.fewer rsN
  exact ⟨s100, rfl, hM.gives⟩

noncomputable def x_laws_eqMark (a : DMark) (b : DMark) : Option Bool :=
  bif !decide (a.id = b.id) then (some false) else (bif !decide (a.from_ = b.from_) then (some false) else (bif !decide (a.to = b.to) then (some false) else (some true)))
theorem ct_laws_eqMark (w : World) (X S : Bs) (a : DMark) (b : DMark) (hS : ∀ b, S b → b < w.heap.size ∧ ¬ X b)  (oL : Sep [] X w) {r : Bool} (hx : x_laws_eqMark a b = some r) :
  Ret Try.prog 71 [(.agg #[(.int .i64 a.id), (.int .i64 a.from_), (.int .i64 a.to)]), (.agg #[(.int .i64 b.id), (.int .i64 b.from_), (.int .i64 b.to)])] w (fun u w' => ∃ _ : Unit, u = (.bool r) ∧ Gives X S w [] [] w') := by
 unfold x_laws_eqMark at hx
 refine enter Try.func71 rfl Try.ntmps71 (by kernel_rfl) rfl ?_
 have hM := St.enter oL hS
 refine wc_sr ?_
 refine w_ex rfl (x_box rfl hM ?_); intro b30 w29 hR31 hM
 dsimp only [Value.cells] at hM
 refine w_ex rfl (x_box rfl hM ?_); intro b34 w33 hR35 hM
 dsimp only [Value.cells] at hM
 refine was rfl rfl ?_
 refine wl_sq ?_
 refine wc_seq ?_
 refine wc_sr ?_
 refine wv rfl (r_fld Try.underlying90 rfl rfl sz3 rfl) ?_
 refine wv rfl (r_ldB Try.underlying3 rfl rfl hM (.tail _ (.head _)) rfl) ?_
 refine wv rfl (r_fld Try.underlying90 rfl rfl sz3 rfl) ?_
 refine wv rfl (r_ldB Try.underlying3 rfl rfl hM (.head _) rfl) ?_
 refine wv rfl (r_neq rfl rfl) ?_
 refine wl_sq ?_
 refine wc_cond rfl (fun hc43 => ?_) (fun hc43 => ?_)
 ·
  replace hx := xif_t hc43 hx
  refine wc_sr ?_
  refine was rfl rfl ?_
  refine wl_sq ?_
  refine wc_ret ?_
  refine sq_ret ?_
  obtain rfl := Option.some.inj hx
  refine fin_ret [(.bool false)] ⟨rfl, trivial⟩ ?_
  replace hM := hM.t0
  have hM := hM.fewer rsN
  exact ⟨(), rfl, hM.gives⟩
 ·
  replace hx := xif_f hc43 hx
  refine wc_skip ?_
  refine sq_n ?_
  refine wc_seq ?_
  refine wc_sr ?_
  refine wv rfl (r_fld Try.underlying90 rfl rfl sz3 rfl) ?_
  refine wv rfl (r_ldB Try.underlying3 rfl rfl hM (.tail _ (.head _)) rfl) ?_
  refine wv rfl (r_fld Try.underlying90 rfl rfl sz3 rfl) ?_
  refine wv rfl (r_ldB Try.underlying3 rfl rfl hM (.head _) rfl) ?_
  refine wv rfl (r_neq rfl rfl) ?_
  refine wl_sq ?_
  refine wc_cond rfl (fun hc50 => ?_) (fun hc50 => ?_)
  ·
   replace hx := xif_t hc50 hx
   refine wc_sr ?_
   refine was rfl rfl ?_
   refine wl_sq ?_
   refine wc_ret ?_
   refine sq_ret ?_
   obtain rfl := Option.some.inj hx
   refine fin_ret [(.bool false)] ⟨rfl, trivial⟩ ?_
   replace hM := hM.t0
   have hM := hM.fewer rsN
   exact ⟨(), rfl, hM.gives⟩
  ·
   replace hx := xif_f hc50 hx
   refine wc_skip ?_
   refine sq_n ?_
   refine wc_seq ?_
   refine wc_sr ?_
   refine wv rfl (r_fld Try.underlying90 rfl rfl sz3 rfl) ?_
   refine wv rfl (r_ldB Try.underlying3 rfl rfl hM (.tail _ (.head _)) rfl) ?_
   refine wv rfl (r_fld Try.underlying90 rfl rfl sz3 rfl) ?_
   refine wv rfl (r_ldB Try.underlying3 rfl rfl hM (.head _) rfl) ?_
   refine wv rfl (r_neq rfl rfl) ?_
   refine wl_sq ?_
   refine wc_cond rfl (fun hc57 => ?_) (fun hc57 => ?_)
   ·
    replace hx := xif_t hc57 hx
    refine wc_sr ?_
    refine was rfl rfl ?_
    refine wl_sq ?_
    refine wc_ret ?_
    refine sq_ret ?_
    obtain rfl := Option.some.inj hx
    refine fin_ret [(.bool false)] ⟨rfl, trivial⟩ ?_
    replace hM := hM.t0
    have hM := hM.fewer rsN
    exact ⟨(), rfl, hM.gives⟩
   ·
    replace hx := xif_f hc57 hx
    refine wc_skip ?_
    refine sq_n ?_
    refine wc_sr ?_
    refine was rfl rfl ?_
    refine wl_sq ?_
    refine wc_ret ?_
    obtain rfl := Option.some.inj hx
    refine fin_ret [(.bool true)] ⟨rfl, trivial⟩ ?_
    replace hM := hM.t0
    have hM := hM.fewer rsN
    exact ⟨(), rfl, hM.gives⟩

noncomputable def x_laws_eqMarkS_b0 (a : List DMark) (b : List DMark) (i9 : Int) : Option (Lr Int (Sum Unit Unit)) :=
  bif decide (i9 < (a.length : Int)) then (xg (0 ≤ i9 ∧ i9 < (a.length : Int)) <| xg (0 ≤ i9 ∧ i9 < (b.length : Int)) <| Option.bind (x_laws_eqMark (el a i9.toNat) (el b i9.toNat)) fun r53 => bif !r53 then (some (Lr.out (Sum.inr (())))) else (xg (inI (i9 + 1)) <| some (Lr.go (i9 + 1)))) else (some (Lr.out (Sum.inl ())))
noncomputable def x_laws_eqMarkS_f0 (a : List DMark) (b : List DMark) (s64 : Int) : Option (Lr Int (Sum Unit Unit)) := x_laws_eqMarkS_b0 a b s64
noncomputable def x_laws_eqMarkS (a : List DMark) (b : List DMark) : Option Bool :=
  bif !decide ((a.length : Int) = (b.length : Int)) then (some false) else (Option.bind (iter (x_laws_eqMarkS_f0 a b) 0) fun (y65 : Sum Unit Unit) => Sum.elim (fun _y66 => some true) (fun _y67 => some false) y65)
theorem ct_laws_eqMarkS (w : World) (X S : Bs) (a : List DMark) (s_a : Sv) (b : List DMark) (s_b : Sv) (hS : ∀ b, S b → b < w.heap.size ∧ ¬ X b) (a_a_0 : (cSl 3 fDMark a).rd S w s_a.v) (a_b_0 : (cSl 3 fDMark b).rd S w s_b.v) (oL : Sep [] X w) {r : Bool} (hx : x_laws_eqMarkS a b = some r) :
  Ret Try.prog 36 [s_a.v, s_b.v] w (fun u w' => ∃ _ : Unit, u = (.bool r) ∧ Gives X S w [] [] w') := by
 unfold x_laws_eqMarkS at hx
 refine enter Try.func36 rfl Try.ntmps36 (by kernel_rfl) rfl ?_
 have hM := St.enter oL hS
 have hM := hM.addE (r := rV s_a.v (cSl 3 fDMark a)) a_a_0
 have hM := hM.addE (r := rV s_b.v (cSl 3 fDMark b)) a_b_0
 refine wc_sr ?_
 refine was rfl rfl ?_
 refine wl_sq ?_
 refine wc_seq ?_
 refine wc_sr ?_
 refine wmv rfl rfl ?_
 refine wv rfl (r_lenC Try.underlying53 rfl (hM.seeR (.tail _ (.head _)))) ?_
 refine wmv rfl rfl ?_
 refine wv rfl (r_lenC Try.underlying53 rfl (hM.seeR (.head _))) ?_
 refine wv rfl (r_neq rfl rfl) ?_
 refine wl_sq ?_
 refine wc_cond rfl (fun hc75 => ?_) (fun hc75 => ?_)
 ·
  replace hx := xif_t hc75 hx
  refine wc_sr ?_
  refine was rfl rfl ?_
  refine wl_sq ?_
  refine wc_ret ?_
  refine sq_ret ?_
  obtain rfl := Option.some.inj hx
  refine fin_ret [(.bool false)] ⟨rfl, trivial⟩ ?_
  replace hM := hM.t0
  have hM := hM.fewer rsN
  exact ⟨(), rfl, hM.gives⟩
 ·
  replace hx := xif_f hc75 hx
  refine wc_skip ?_
  refine sq_n ?_
  refine wc_seq ?_
  refine wc_sr ?_
  refine was rfl rfl ?_
  refine wl_sq ?_
  refine wc_block ?_
  obtain ⟨y78, hx, hx79⟩ := bind_some' hx
  have hM := hM.fewer (rsC (.tail _ (.head _)) (rsC (.head _) rsN))
  replace hM : St ⟨w, X, S⟩ [] [rV s_a.v (cSl 3 fDMark a), rV s_b.v (cSl 3 fDMark b)] _ := hM
  obtain ⟨m83, hx⟩ := iter_run hx
  refine wc_loop (un fun (m81 : Nat) => fun (i80 : Int) => [(0, s_a.v), (1, s_b.v), (5, (.int .i64 i80))]) (un fun (m81 : Nat) => fun (i80 : Int) w' => St ⟨w, X, S⟩ [] [rV s_a.v (cSl 3 fDMark a), rV s_b.v (cSl 3 fDMark b)] w' ∧ iterN _ m81 i80 = some y78) (fun p => p.1) (m83, 0) ⟨rfl, rfl, rfl, trivial⟩ ⟨hM, hx⟩ ?_
  rintro ⟨m81, i80⟩ w84 ⟨hM, hx⟩
  obtain ⟨m85, z86, rfl, hx, hx87⟩ := iterN_step hx
  unfold x_laws_eqMarkS_f0 x_laws_eqMarkS_b0 at hx
  try dsimp only at hx
  refine wc_seq ?_
  refine wc_sr ?_
  refine wmv rfl rfl ?_
  refine wmv rfl rfl ?_
  refine wv rfl (r_lenC Try.underlying53 rfl (hM.seeR (.head _))) ?_
  refine wv rfl (r_lss rfl rfl) ?_
  refine wl_sq ?_
  refine wc_cond rfl (fun hc92 => ?_) (fun hc92 => ?_)
  ·
   replace hx := xif_t hc92 hx
   refine wc_skip ?_
   refine sq_n ?_
   refine wc_seq ?_
   refine wc_block ?_
   refine wc_seq ?_
   refine wc_draw [(0, 0), (1, 0), (2, 0), (3, 0), (4, 0), (5, 0), (6, 0), (7, 0), (8, 0), (9, 0)] Try_mixed (by kernel_rfl) rfl (by kernel_rfl) rfl ?_
   refine omv rfl rfl ?_
   refine omv rfl rfl ?_
   obtain ⟨hg97, hx⟩ := xg_some hx
   have hi96 : i80.toNat < a.length := by omega
   refine ov rfl (fun w' h' => r_ixC Try.underlying53 sz90 rfl rfl ((hM.call h').seeR (.head _)) hg97) ?_
   refine ov rfl (fun w' h' => r_ldC (o := i80.toNat * 3) Try.underlying90 sz90 rfl (us := [(.int .i64 ((el a i80.toNat).id)), (.int .i64 ((el a i80.toNat).from_)), (.int .i64 ((el a i80.toNat).to))]) rfl ((hM.call h').seeR (.head _)) hi96 ⟨(Cs.get (i := i80.toNat) (j := 0) ((hM.call h').seeR (.head _)) (fun _ => rfl) hi96 rfl), (Cs.get (i := i80.toNat) (j := 1) ((hM.call h').seeR (.head _)) (fun _ => rfl) hi96 rfl), (Cs.get (i := i80.toNat) (j := 2) ((hM.call h').seeR (.head _)) (fun _ => rfl) hi96 rfl), trivial⟩) ?_
   refine omv rfl rfl ?_
   refine omv rfl rfl ?_
   obtain ⟨hg103, hx⟩ := xg_some hx
   have hi102 : i80.toNat < b.length := by omega
   refine ov rfl (fun w' h' => r_ixC Try.underlying53 sz90 rfl rfl ((hM.call h').seeR (.tail _ (.head _))) hg103) ?_
   refine ov rfl (fun w' h' => r_ldC (o := i80.toNat * 3) Try.underlying90 sz90 rfl (us := [(.int .i64 ((el b i80.toNat).id)), (.int .i64 ((el b i80.toNat).from_)), (.int .i64 ((el b i80.toNat).to))]) rfl ((hM.call h').seeR (.tail _ (.head _))) hi102 ⟨(Cs.get (i := i80.toNat) (j := 0) ((hM.call h').seeR (.tail _ (.head _))) (fun _ => rfl) hi102 rfl), (Cs.get (i := i80.toNat) (j := 1) ((hM.call h').seeR (.tail _ (.head _))) (fun _ => rfl) hi102 rfl), (Cs.get (i := i80.toNat) (j := 2) ((hM.call h').seeR (.tail _ (.head _))) (fun _ => rfl) hi102 rfl), trivial⟩) ?_
   obtain ⟨r105, h106, hx⟩ := bind_some' hx
   refine oc rfl rfl (fun w' h' => (hM.call h').callV fun X S oL hS hR hO => ct_laws_eqMark _ X S (el a i80.toNat) (el b i80.toNat) hS  oL h106) ?_
   refine ov rfl (fun w' h' => r_not rfl) ?_
   refine o_nilM hM fun w109 hM => ?_
   refine sq_n ?_
   refine wc_cond rfl (fun hc111 => ?_) (fun hc111 => ?_)
   ·
    replace hx := xif_t hc111 hx
    refine wc_sr ?_
    refine was rfl rfl ?_
    refine wl_sq ?_
    refine wc_ret ?_
    refine bk_ret ?_
    refine sq_ret ?_
    refine lp1_ret ?_
    obtain rfl := Option.some.inj hx
    obtain rfl := Option.some.inj hx87
    replace hx := hx79
    try dsimp only [Sum.elim_inl, Sum.elim_inr] at hx
    refine bk_ret ?_
    refine sq_ret ?_
    obtain rfl := Option.some.inj hx
    refine fin_ret [(.bool false)] ⟨rfl, trivial⟩ ?_
    replace hM := hM.t0
    have hM := hM.fewer rsN
    exact ⟨(), rfl, hM.gives⟩
   ·
    replace hx := xif_f hc111 hx
    refine wc_skip ?_
    refine bk_n ?_
    refine sq_n ?_
    refine wc_region ?_
    refine wmv rfl rfl ?_
    obtain ⟨hg115, hx⟩ := xg_some hx
    refine wv rfl (r_add rfl rfl hg115) ?_
    refine was rfl rfl ?_
    refine wl_nil ?_
    obtain rfl := Option.some.inj hx
    exact lp_end (m85, i80 + 1) (Nat.lt_succ_self _) ⟨rfl, rfl, rfl, trivial⟩ ⟨hM, hx87⟩
  ·
   replace hx := xif_f hc92 hx
   refine wc_exit ?_
   refine sq_exit ?_
   refine lp1_exit ?_
   obtain rfl := Option.some.inj hx
   obtain rfl := Option.some.inj hx87
   replace hx := hx79
   try dsimp only [Sum.elim_inl, Sum.elim_inr] at hx
   refine bk_here ?_
   refine sq_n ?_
   refine wc_sr ?_
   refine was rfl rfl ?_
   refine wl_sq ?_
   refine wc_ret ?_
   obtain rfl := Option.some.inj hx
   refine fin_ret [(.bool true)] ⟨rfl, trivial⟩ ?_
   replace hM := hM.t0
   have hM := hM.fewer rsN
   exact ⟨(), rfl, hM.gives⟩

noncomputable def x_laws_markMarkS_b0 (k53 : Int) (i54 : Int) (l55 : List DMark) : Option (Lr (Int × Int × List DMark) (Int × List DMark)) :=
  bif decide (i54 < (l55.length : Int)) then (xg (0 ≤ i54 ∧ i54 < (l55.length : Int)) <| xg (inI (k53 + 1)) <| xg (0 ≤ i54 ∧ i54 < ((l55.set i54.toNat (⟨k53, (el l55 i54.toNat).from_, (el l55 i54.toNat).to⟩ : DMark)).length : Int)) <| xg (inI ((k53 + 1) + 1)) <| xg (0 ≤ i54 ∧ i54 < (((l55.set i54.toNat (⟨k53, (el l55 i54.toNat).from_, (el l55 i54.toNat).to⟩ : DMark)).set i54.toNat (⟨(el (l55.set i54.toNat (⟨k53, (el l55 i54.toNat).from_, (el l55 i54.toNat).to⟩ : DMark)) i54.toNat).id, k53 + 1, (el (l55.set i54.toNat (⟨k53, (el l55 i54.toNat).from_, (el l55 i54.toNat).to⟩ : DMark)) i54.toNat).to⟩ : DMark)).length : Int)) <| xg (inI (((k53 + 1) + 1) + 1)) <| xg (inI (i54 + 1)) <| some (Lr.go (((k53 + 1) + 1) + 1, i54 + 1, ((l55.set i54.toNat (⟨k53, (el l55 i54.toNat).from_, (el l55 i54.toNat).to⟩ : DMark)).set i54.toNat (⟨(el (l55.set i54.toNat (⟨k53, (el l55 i54.toNat).from_, (el l55 i54.toNat).to⟩ : DMark)) i54.toNat).id, k53 + 1, (el (l55.set i54.toNat (⟨k53, (el l55 i54.toNat).from_, (el l55 i54.toNat).to⟩ : DMark)) i54.toNat).to⟩ : DMark)).set i54.toNat (⟨(el ((l55.set i54.toNat (⟨k53, (el l55 i54.toNat).from_, (el l55 i54.toNat).to⟩ : DMark)).set i54.toNat (⟨(el (l55.set i54.toNat (⟨k53, (el l55 i54.toNat).from_, (el l55 i54.toNat).to⟩ : DMark)) i54.toNat).id, k53 + 1, (el (l55.set i54.toNat (⟨k53, (el l55 i54.toNat).from_, (el l55 i54.toNat).to⟩ : DMark)) i54.toNat).to⟩ : DMark)) i54.toNat).id, (el ((l55.set i54.toNat (⟨k53, (el l55 i54.toNat).from_, (el l55 i54.toNat).to⟩ : DMark)).set i54.toNat (⟨(el (l55.set i54.toNat (⟨k53, (el l55 i54.toNat).from_, (el l55 i54.toNat).to⟩ : DMark)) i54.toNat).id, k53 + 1, (el (l55.set i54.toNat (⟨k53, (el l55 i54.toNat).from_, (el l55 i54.toNat).to⟩ : DMark)) i54.toNat).to⟩ : DMark)) i54.toNat).from_, (k53 + 1) + 1⟩ : DMark)))) else (some (Lr.out (k53, l55)))
noncomputable def x_laws_markMarkS_f0 (s151 : Int × Int × List DMark) : Option (Lr (Int × Int × List DMark) (Int × List DMark)) := x_laws_markMarkS_b0 s151.1 s151.2.1 s151.2.2
noncomputable def x_laws_markMarkS (a : List DMark) (k : Int) : Option (Int × List DMark) :=
  Option.bind (iter (x_laws_markMarkS_f0) (k, 0, a)) fun (y152 : Int × List DMark) => some (y152.1, y152.2)
theorem ct_laws_markMarkS (w : World) (X S : Bs) (a : List DMark) (s_a : Sv) (k : Int) (hS : ∀ b, S b → b < w.heap.size ∧ ¬ X b)  (oL : Sep [oC (cSl 3 fDMark a) s_a.v] X w) {r : Int × List DMark} (hx : x_laws_markMarkS a k = some r) :
  Ret Try.prog 37 [s_a.v, (.int .i64 k)] w (fun u w' => ∃ _ : Unit, u = (.int .i64 r.1) ∧ Gives X S w [oC (cSl 3 fDMark r.2) s_a.v] [] w') := by
 unfold x_laws_markMarkS at hx
 refine enter Try.func37 rfl Try.ntmps37 (by kernel_rfl) rfl ?_
 have hM := St.enter oL hS
 refine wc_sr ?_
 refine was rfl rfl ?_
 refine wl_sq ?_
 refine wc_seq ?_
 refine wc_sr ?_
 refine was rfl rfl ?_
 refine wl_sq ?_
 refine wc_block ?_
 obtain ⟨y158, hx, hx159⟩ := bind_some' hx
 obtain ⟨m165, hx⟩ := iter_run hx
 refine wc_loop (un fun (m163 : Nat) => un fun (k160 : Int) => un fun (i161 : Int) => fun (l162 : List DMark) => [(0, s_a.v), (1, (.int .i64 k160)), (5, (.int .i64 i161))]) (un fun (m163 : Nat) => un fun (k160 : Int) => un fun (i161 : Int) => fun (l162 : List DMark) w' => St ⟨w, X, S⟩ [oC (cSl 3 fDMark l162) s_a.v] [] w' ∧ iterN _ m163 (k160, i161, l162) = some y158) (fun p => p.1) (m165, k, 0, a) ⟨rfl, rfl, rfl, trivial⟩ ⟨hM, hx⟩ ?_
 rintro ⟨m163, k160, i161, l162⟩ w166 ⟨hM, hx⟩
 obtain ⟨m167, z168, rfl, hx, hx169⟩ := iterN_step hx
 unfold x_laws_markMarkS_f0 x_laws_markMarkS_b0 at hx
 try dsimp only at hx
 refine wc_seq ?_
 refine wc_sr ?_
 refine wmv rfl rfl ?_
 refine wmv rfl rfl ?_
 refine wv rfl (r_lenC Try.underlying53 rfl (hM.seeO (.head _))) ?_
 refine wv rfl (r_lss rfl rfl) ?_
 refine wl_sq ?_
 refine wc_cond rfl (fun hc174 => ?_) (fun hc174 => ?_)
 ·
  replace hx := xif_t hc174 hx
  refine wc_skip ?_
  refine sq_n ?_
  refine wc_seq ?_
  refine wc_block ?_
  refine wc_sr ?_
  refine wmv rfl rfl ?_
  refine wmv rfl rfl ?_
  refine wmv rfl rfl ?_
  obtain ⟨hg180, hx⟩ := xg_some hx
  have hi179 : i161.toNat < l162.length := by omega
  refine wv rfl (r_ixC Try.underlying53 sz90 rfl rfl (hM.seeO (.head _)) hg180) ?_
  refine wv rfl (r_fldC (i := i161.toNat) Try.underlying90 rfl rfl sz3 rfl (hM.seeO (.head _)) hi179) ?_
  refine w_exu (x_stE (f := fDMark) (k := 3) (L := l162) (i := i161.toNat) (j := 0) (⟨k160, (el l162 i161.toNat).from_, (el l162 i161.toNat).to⟩ : DMark) [cI k160] sz3 (fun _ => rfl) rfl rfl hi179 rfl rfl rfl rfl rfl (fun _ => zP (pV _ rfl) zN) hM ?_); intro w182 hM
  refine wl_sq ?_
  refine wc_sr ?_
  refine wmv rfl rfl ?_
  obtain ⟨hg186, hx⟩ := xg_some hx
  refine wv rfl (r_add rfl rfl hg186) ?_
  refine was rfl rfl ?_
  refine wl_sq ?_
  refine wc_sr ?_
  refine wmv rfl rfl ?_
  refine wmv rfl rfl ?_
  refine wmv rfl rfl ?_
  obtain ⟨hg193, hx⟩ := xg_some hx
  have hi192 : i161.toNat < (l162.set i161.toNat (⟨k160, (el l162 i161.toNat).from_, (el l162 i161.toNat).to⟩ : DMark)).length := by omega
  refine wv rfl (r_ixC Try.underlying53 sz90 rfl rfl (hM.seeO (.head _)) hg193) ?_
  refine wv rfl (r_fldC (i := i161.toNat) Try.underlying90 rfl rfl sz3 rfl (hM.seeO (.head _)) hi192) ?_
  refine w_exu (x_stE (f := fDMark) (k := 3) (L := (l162.set i161.toNat (⟨k160, (el l162 i161.toNat).from_, (el l162 i161.toNat).to⟩ : DMark))) (i := i161.toNat) (j := 1) (⟨(el (l162.set i161.toNat (⟨k160, (el l162 i161.toNat).from_, (el l162 i161.toNat).to⟩ : DMark)) i161.toNat).id, k160 + 1, (el (l162.set i161.toNat (⟨k160, (el l162 i161.toNat).from_, (el l162 i161.toNat).to⟩ : DMark)) i161.toNat).to⟩ : DMark) [cI (k160 + 1)] sz3 (fun _ => rfl) rfl rfl hi192 rfl rfl rfl rfl rfl (fun _ => zP (pV _ rfl) zN) hM ?_); intro w195 hM
  refine wl_sq ?_
  refine wc_sr ?_
  refine wmv rfl rfl ?_
  obtain ⟨hg199, hx⟩ := xg_some hx
  refine wv rfl (r_add rfl rfl hg199) ?_
  refine was rfl rfl ?_
  refine wl_sq ?_
  refine wc_sr ?_
  refine wmv rfl rfl ?_
  refine wmv rfl rfl ?_
  refine wmv rfl rfl ?_
  obtain ⟨hg206, hx⟩ := xg_some hx
  have hi205 : i161.toNat < ((l162.set i161.toNat (⟨k160, (el l162 i161.toNat).from_, (el l162 i161.toNat).to⟩ : DMark)).set i161.toNat (⟨(el (l162.set i161.toNat (⟨k160, (el l162 i161.toNat).from_, (el l162 i161.toNat).to⟩ : DMark)) i161.toNat).id, k160 + 1, (el (l162.set i161.toNat (⟨k160, (el l162 i161.toNat).from_, (el l162 i161.toNat).to⟩ : DMark)) i161.toNat).to⟩ : DMark)).length := by omega
  refine wv rfl (r_ixC Try.underlying53 sz90 rfl rfl (hM.seeO (.head _)) hg206) ?_
  refine wv rfl (r_fldC (i := i161.toNat) Try.underlying90 rfl rfl sz3 rfl (hM.seeO (.head _)) hi205) ?_
  refine w_exu (x_stE (f := fDMark) (k := 3) (L := ((l162.set i161.toNat (⟨k160, (el l162 i161.toNat).from_, (el l162 i161.toNat).to⟩ : DMark)).set i161.toNat (⟨(el (l162.set i161.toNat (⟨k160, (el l162 i161.toNat).from_, (el l162 i161.toNat).to⟩ : DMark)) i161.toNat).id, k160 + 1, (el (l162.set i161.toNat (⟨k160, (el l162 i161.toNat).from_, (el l162 i161.toNat).to⟩ : DMark)) i161.toNat).to⟩ : DMark))) (i := i161.toNat) (j := 2) (⟨(el ((l162.set i161.toNat (⟨k160, (el l162 i161.toNat).from_, (el l162 i161.toNat).to⟩ : DMark)).set i161.toNat (⟨(el (l162.set i161.toNat (⟨k160, (el l162 i161.toNat).from_, (el l162 i161.toNat).to⟩ : DMark)) i161.toNat).id, k160 + 1, (el (l162.set i161.toNat (⟨k160, (el l162 i161.toNat).from_, (el l162 i161.toNat).to⟩ : DMark)) i161.toNat).to⟩ : DMark)) i161.toNat).id, (el ((l162.set i161.toNat (⟨k160, (el l162 i161.toNat).from_, (el l162 i161.toNat).to⟩ : DMark)).set i161.toNat (⟨(el (l162.set i161.toNat (⟨k160, (el l162 i161.toNat).from_, (el l162 i161.toNat).to⟩ : DMark)) i161.toNat).id, k160 + 1, (el (l162.set i161.toNat (⟨k160, (el l162 i161.toNat).from_, (el l162 i161.toNat).to⟩ : DMark)) i161.toNat).to⟩ : DMark)) i161.toNat).from_, (k160 + 1) + 1⟩ : DMark) [cI ((k160 + 1) + 1)] sz3 (fun _ => rfl) rfl rfl hi205 rfl rfl rfl rfl rfl (fun _ => zP (pV _ rfl) zN) hM ?_); intro w208 hM
  refine wl_sq ?_
  refine wc_region ?_
  refine wmv rfl rfl ?_
  obtain ⟨hg212, hx⟩ := xg_some hx
  refine wv rfl (r_add rfl rfl hg212) ?_
  refine was rfl rfl ?_
  refine wl_nil ?_
  refine bk_n ?_
  refine sq_n ?_
  refine wc_region ?_
  refine wmv rfl rfl ?_
  obtain ⟨hg216, hx⟩ := xg_some hx
  refine wv rfl (r_add rfl rfl hg216) ?_
  refine was rfl rfl ?_
  refine wl_nil ?_
  obtain rfl := Option.some.inj hx
  exact lp_end (m167, ((k160 + 1) + 1) + 1, i161 + 1, ((l162.set i161.toNat (⟨k160, (el l162 i161.toNat).from_, (el l162 i161.toNat).to⟩ : DMark)).set i161.toNat (⟨(el (l162.set i161.toNat (⟨k160, (el l162 i161.toNat).from_, (el l162 i161.toNat).to⟩ : DMark)) i161.toNat).id, k160 + 1, (el (l162.set i161.toNat (⟨k160, (el l162 i161.toNat).from_, (el l162 i161.toNat).to⟩ : DMark)) i161.toNat).to⟩ : DMark)).set i161.toNat (⟨(el ((l162.set i161.toNat (⟨k160, (el l162 i161.toNat).from_, (el l162 i161.toNat).to⟩ : DMark)).set i161.toNat (⟨(el (l162.set i161.toNat (⟨k160, (el l162 i161.toNat).from_, (el l162 i161.toNat).to⟩ : DMark)) i161.toNat).id, k160 + 1, (el (l162.set i161.toNat (⟨k160, (el l162 i161.toNat).from_, (el l162 i161.toNat).to⟩ : DMark)) i161.toNat).to⟩ : DMark)) i161.toNat).id, (el ((l162.set i161.toNat (⟨k160, (el l162 i161.toNat).from_, (el l162 i161.toNat).to⟩ : DMark)).set i161.toNat (⟨(el (l162.set i161.toNat (⟨k160, (el l162 i161.toNat).from_, (el l162 i161.toNat).to⟩ : DMark)) i161.toNat).id, k160 + 1, (el (l162.set i161.toNat (⟨k160, (el l162 i161.toNat).from_, (el l162 i161.toNat).to⟩ : DMark)) i161.toNat).to⟩ : DMark)) i161.toNat).from_, (k160 + 1) + 1⟩ : DMark)) (Nat.lt_succ_self _) ⟨rfl, rfl, rfl, trivial⟩ ⟨hM, hx169⟩
 ·
  replace hx := xif_f hc174 hx
  refine wc_exit ?_
  refine sq_exit ?_
  refine lp1_exit ?_
  obtain rfl := Option.some.inj hx
  obtain rfl := Option.some.inj hx169
  replace hx := hx159
  try dsimp only [Sum.elim_inl, Sum.elim_inr] at hx
  refine bk_here ?_
  refine sq_n ?_
  refine wc_sr ?_
  refine wmv rfl rfl ?_
  refine was rfl rfl ?_
  refine wl_sq ?_
  refine wc_ret ?_
  obtain rfl := Option.some.inj hx
  refine fin_ret [(.int .i64 k160)] ⟨rfl, trivial⟩ ?_
  replace hM := hM.t1
  have hM := hM.fewer rsN
  exact ⟨(), rfl, hM.gives⟩

noncomputable def x_laws_heldMarkS_b0 (a : List DMark) (k3 : Int) (i4 : Int) : Option (Lr (Int × Int) (Sum Int Int)) :=
  bif decide (i4 < (a.length : Int)) then (xg (0 ≤ i4 ∧ i4 < (a.length : Int)) <| bif !decide (((el a i4.toNat).id) = k3) then (some (Lr.out (Sum.inr (-1)))) else (xg (inI (k3 + 1)) <| xg (0 ≤ i4 ∧ i4 < (a.length : Int)) <| bif !decide (((el a i4.toNat).from_) = (k3 + 1)) then (some (Lr.out (Sum.inr (-1)))) else (xg (inI ((k3 + 1) + 1)) <| xg (0 ≤ i4 ∧ i4 < (a.length : Int)) <| bif !decide (((el a i4.toNat).to) = ((k3 + 1) + 1)) then (some (Lr.out (Sum.inr (-1)))) else (xg (inI (((k3 + 1) + 1) + 1)) <| xg (inI (i4 + 1)) <| some (Lr.go (((k3 + 1) + 1) + 1, i4 + 1)))))) else (some (Lr.out (Sum.inl k3)))
noncomputable def x_laws_heldMarkS_f0 (a : List DMark) (s105 : Int × Int) : Option (Lr (Int × Int) (Sum Int Int)) := x_laws_heldMarkS_b0 a s105.1 s105.2
noncomputable def x_laws_heldMarkS (a : List DMark) (k : Int) : Option Int :=
  Option.bind (iter (x_laws_heldMarkS_f0 a) (k, 0)) fun (y106 : Sum Int Int) => Sum.elim (fun y107 => some y107) (fun y108 => some y108) y106
theorem ct_laws_heldMarkS (w : World) (X S : Bs) (a : List DMark) (s_a : Sv) (k : Int) (hS : ∀ b, S b → b < w.heap.size ∧ ¬ X b) (a_a_0 : (cSl 3 fDMark a).rd S w s_a.v) (oL : Sep [] X w) {r : Int} (hx : x_laws_heldMarkS a k = some r) :
  Ret Try.prog 38 [s_a.v, (.int .i64 k)] w (fun u w' => ∃ _ : Unit, u = (.int .i64 r) ∧ Gives X S w [] [] w') := by
 unfold x_laws_heldMarkS at hx
 refine enter Try.func38 rfl Try.ntmps38 (by kernel_rfl) rfl ?_
 have hM := St.enter oL hS
 have hM := hM.addE (r := rV s_a.v (cSl 3 fDMark a)) a_a_0
 refine wc_sr ?_
 refine was rfl rfl ?_
 refine wl_sq ?_
 refine wc_seq ?_
 refine wc_sr ?_
 refine was rfl rfl ?_
 refine wl_sq ?_
 refine wc_block ?_
 obtain ⟨y113, hx, hx114⟩ := bind_some' hx
 obtain ⟨m119, hx⟩ := iter_run hx
 refine wc_loop (un fun (m117 : Nat) => un fun (k115 : Int) => fun (i116 : Int) => [(0, s_a.v), (1, (.int .i64 k115)), (5, (.int .i64 i116))]) (un fun (m117 : Nat) => un fun (k115 : Int) => fun (i116 : Int) w' => St ⟨w, X, S⟩ [] [rV s_a.v (cSl 3 fDMark a)] w' ∧ iterN _ m117 (k115, i116) = some y113) (fun p => p.1) (m119, k, 0) ⟨rfl, rfl, rfl, trivial⟩ ⟨hM, hx⟩ ?_
 rintro ⟨m117, k115, i116⟩ w120 ⟨hM, hx⟩
 obtain ⟨m121, z122, rfl, hx, hx123⟩ := iterN_step hx
 unfold x_laws_heldMarkS_f0 x_laws_heldMarkS_b0 at hx
 try dsimp only at hx
 refine wc_seq ?_
 refine wc_sr ?_
 refine wmv rfl rfl ?_
 refine wmv rfl rfl ?_
 refine wv rfl (r_lenC Try.underlying53 rfl (hM.seeR (.head _))) ?_
 refine wv rfl (r_lss rfl rfl) ?_
 refine wl_sq ?_
 refine wc_cond rfl (fun hc128 => ?_) (fun hc128 => ?_)
 ·
  replace hx := xif_t hc128 hx
  refine wc_skip ?_
  refine sq_n ?_
  refine wc_seq ?_
  refine wc_block ?_
  refine wc_seq ?_
  refine wc_sr ?_
  refine wmv rfl rfl ?_
  refine wmv rfl rfl ?_
  obtain ⟨hg133, hx⟩ := xg_some hx
  have hi132 : i116.toNat < a.length := by omega
  refine wv rfl (r_ixC Try.underlying53 sz90 rfl rfl (hM.seeR (.head _)) hg133) ?_
  refine wv rfl (r_fldC (i := i116.toNat) Try.underlying90 rfl rfl sz3 rfl (hM.seeR (.head _)) hi132) ?_
  refine wv rfl (r_ld Try.underlying3 rfl rfl (Cs.get (i := i116.toNat) (j := 0) (hM.seeR (.head _)) (fun _ => rfl) hi132 rfl)) ?_
  refine wmv rfl rfl ?_
  refine wv rfl (r_neq rfl rfl) ?_
  refine wl_sq ?_
  refine wc_cond rfl (fun hc138 => ?_) (fun hc138 => ?_)
  ·
   replace hx := xif_t hc138 hx
   refine wc_sr ?_
   refine was rfl rfl ?_
   refine wl_sq ?_
   refine wc_ret ?_
   refine sq_ret ?_
   refine bk_ret ?_
   refine sq_ret ?_
   refine lp1_ret ?_
   obtain rfl := Option.some.inj hx
   obtain rfl := Option.some.inj hx123
   replace hx := hx114
   try dsimp only [Sum.elim_inl, Sum.elim_inr] at hx
   refine bk_ret ?_
   refine sq_ret ?_
   obtain rfl := Option.some.inj hx
   refine fin_ret [(.int .i64 (-1))] ⟨rfl, trivial⟩ ?_
   replace hM := hM.t0
   have hM := hM.fewer rsN
   exact ⟨(), rfl, hM.gives⟩
  ·
   replace hx := xif_f hc138 hx
   refine wc_skip ?_
   refine sq_n ?_
   refine wc_sr ?_
   refine wmv rfl rfl ?_
   obtain ⟨hg142, hx⟩ := xg_some hx
   refine wv rfl (r_add rfl rfl hg142) ?_
   refine was rfl rfl ?_
   refine wl_sq ?_
   refine wc_seq ?_
   refine wc_sr ?_
   refine wmv rfl rfl ?_
   refine wmv rfl rfl ?_
   obtain ⟨hg148, hx⟩ := xg_some hx
   have hi147 : i116.toNat < a.length := by omega
   refine wv rfl (r_ixC Try.underlying53 sz90 rfl rfl (hM.seeR (.head _)) hg148) ?_
   refine wv rfl (r_fldC (i := i116.toNat) Try.underlying90 rfl rfl sz3 rfl (hM.seeR (.head _)) hi147) ?_
   refine wv rfl (r_ld Try.underlying3 rfl rfl (Cs.get (i := i116.toNat) (j := 1) (hM.seeR (.head _)) (fun _ => rfl) hi147 rfl)) ?_
   refine wmv rfl rfl ?_
   refine wv rfl (r_neq rfl rfl) ?_
   refine wl_sq ?_
   refine wc_cond rfl (fun hc153 => ?_) (fun hc153 => ?_)
   ·
    replace hx := xif_t hc153 hx
    refine wc_sr ?_
    refine was rfl rfl ?_
    refine wl_sq ?_
    refine wc_ret ?_
    refine sq_ret ?_
    refine bk_ret ?_
    refine sq_ret ?_
    refine lp1_ret ?_
    obtain rfl := Option.some.inj hx
    obtain rfl := Option.some.inj hx123
    replace hx := hx114
    try dsimp only [Sum.elim_inl, Sum.elim_inr] at hx
    refine bk_ret ?_
    refine sq_ret ?_
    obtain rfl := Option.some.inj hx
    refine fin_ret [(.int .i64 (-1))] ⟨rfl, trivial⟩ ?_
    replace hM := hM.t0
    have hM := hM.fewer rsN
    exact ⟨(), rfl, hM.gives⟩
   ·
    replace hx := xif_f hc153 hx
    refine wc_skip ?_
    refine sq_n ?_
    refine wc_sr ?_
    refine wmv rfl rfl ?_
    obtain ⟨hg157, hx⟩ := xg_some hx
    refine wv rfl (r_add rfl rfl hg157) ?_
    refine was rfl rfl ?_
    refine wl_sq ?_
    refine wc_seq ?_
    refine wc_sr ?_
    refine wmv rfl rfl ?_
    refine wmv rfl rfl ?_
    obtain ⟨hg163, hx⟩ := xg_some hx
    have hi162 : i116.toNat < a.length := by omega
    refine wv rfl (r_ixC Try.underlying53 sz90 rfl rfl (hM.seeR (.head _)) hg163) ?_
    refine wv rfl (r_fldC (i := i116.toNat) Try.underlying90 rfl rfl sz3 rfl (hM.seeR (.head _)) hi162) ?_
    refine wv rfl (r_ld Try.underlying3 rfl rfl (Cs.get (i := i116.toNat) (j := 2) (hM.seeR (.head _)) (fun _ => rfl) hi162 rfl)) ?_
    refine wmv rfl rfl ?_
    refine wv rfl (r_neq rfl rfl) ?_
    refine wl_sq ?_
    refine wc_cond rfl (fun hc168 => ?_) (fun hc168 => ?_)
    ·
     replace hx := xif_t hc168 hx
     refine wc_sr ?_
     refine was rfl rfl ?_
     refine wl_sq ?_
     refine wc_ret ?_
     refine sq_ret ?_
     refine bk_ret ?_
     refine sq_ret ?_
     refine lp1_ret ?_
     obtain rfl := Option.some.inj hx
     obtain rfl := Option.some.inj hx123
     replace hx := hx114
     try dsimp only [Sum.elim_inl, Sum.elim_inr] at hx
     refine bk_ret ?_
     refine sq_ret ?_
     obtain rfl := Option.some.inj hx
     refine fin_ret [(.int .i64 (-1))] ⟨rfl, trivial⟩ ?_
     replace hM := hM.t0
     have hM := hM.fewer rsN
     exact ⟨(), rfl, hM.gives⟩
    ·
     replace hx := xif_f hc168 hx
     refine wc_skip ?_
     refine sq_n ?_
     refine wc_region ?_
     refine wmv rfl rfl ?_
     obtain ⟨hg172, hx⟩ := xg_some hx
     refine wv rfl (r_add rfl rfl hg172) ?_
     refine was rfl rfl ?_
     refine wl_nil ?_
     refine bk_n ?_
     refine sq_n ?_
     refine wc_region ?_
     refine wmv rfl rfl ?_
     obtain ⟨hg176, hx⟩ := xg_some hx
     refine wv rfl (r_add rfl rfl hg176) ?_
     refine was rfl rfl ?_
     refine wl_nil ?_
     obtain rfl := Option.some.inj hx
     exact lp_end (m121, ((k115 + 1) + 1) + 1, i116 + 1) (Nat.lt_succ_self _) ⟨rfl, rfl, rfl, trivial⟩ ⟨hM, hx123⟩
 ·
  replace hx := xif_f hc128 hx
  refine wc_exit ?_
  refine sq_exit ?_
  refine lp1_exit ?_
  obtain rfl := Option.some.inj hx
  obtain rfl := Option.some.inj hx123
  replace hx := hx114
  try dsimp only [Sum.elim_inl, Sum.elim_inr] at hx
  refine bk_here ?_
  refine sq_n ?_
  refine wc_sr ?_
  refine wmv rfl rfl ?_
  refine was rfl rfl ?_
  refine wl_sq ?_
  refine wc_ret ?_
  obtain rfl := Option.some.inj hx
  refine fin_ret [(.int .i64 k115)] ⟨rfl, trivial⟩ ?_
  replace hM := hM.t0
  have hM := hM.fewer rsN
  exact ⟨(), rfl, hM.gives⟩

noncomputable def x_laws_FnExactMarkAdd (aL : List DMark) (aN : Int) (aId : Int) (aFrom : Int) (aTo : Int) : Option Bool :=
  Option.bind (x_laws_szMarkS aL 1048576) fun r5 => bif decide (r5 < 0) then (some true) else (Option.bind (x_laws_toMarkS aL) fun r14 => Option.bind (x_spec_MarkAdd r14 aN aId aFrom aTo) fun r23 => Option.bind (x_laws_toMarkS aL) fun r34 => Option.bind (x_impl_MarkAdd r34 aN aId aFrom aTo) fun r45 => Option.bind (x_laws_eqMarkS r45.1 r23.1) fun r57 => Option.bind (bif !r57 then (some true) else (some (!(r45.2 == r23.2)))) fun c63 => bif c63 then (some false) else (Option.bind (x_laws_toMarkS aL) fun r74 => Option.bind (x_laws_eqMarkS r34 r74) fun r79 => bif !r79 then (some false) else (Option.bind (x_laws_markMarkS r34 1) fun r88 => Option.bind (bif decide (r88.1 < 0) then (some true) else (Option.bind (x_laws_eqMarkS r45.1 r23.1) fun r106 => some (!r106))) fun c95 => Option.bind (bif c95 then (some true) else (some (!(r45.2 == r23.2)))) fun c112 => bif c112 then (some false) else (Option.bind (x_laws_markMarkS r45.1 1) fun r124 => Option.bind (x_laws_heldMarkS r124.2 1) fun r131 => bif decide (r131 < 0) then (some false) else (bif !decide (r131 = r124.1) then (some false) else (Option.bind (x_laws_toMarkS aL) fun r144 => Option.bind (x_impl_MarkAdd r144 aN aId aFrom aTo) fun r153 => Option.bind (x_laws_eqMarkS r153.1 r23.1) fun r165 => Option.bind (bif !r165 then (some true) else (some (!(r153.2 == r23.2)))) fun c171 => bif c171 then (some false) else (Option.bind (x_laws_heldMarkS r124.2 1) fun r183 => bif decide (r183 < 0) then (some false) else (bif !decide (r183 = r124.1) then (some false) else (some true)))))))))
theorem ct_laws_FnExactMarkAdd (w : World) (X S : Bs) (aL : List DMark) (s_aL : Sv) (aN : Int) (aId : Int) (aFrom : Int) (aTo : Int) (hS : ∀ b, S b → b < w.heap.size ∧ ¬ X b) (a_aL_0 : (cSl 3 fDMark aL).rd S w s_aL.v) (oL : Sep [] X w) {r : Bool} (hx : x_laws_FnExactMarkAdd aL aN aId aFrom aTo = some r) :
  Ret Try.prog 6 [s_aL.v, (.int .i64 aN), (.int .i64 aId), (.int .i64 aFrom), (.int .i64 aTo)] w (fun u w' => ∃ _ : Unit, u = (.bool r) ∧ Gives X S w [] [] w') := by
 unfold x_laws_FnExactMarkAdd at hx
 refine enter Try.func6 rfl Try.ntmps6 (by kernel_rfl) rfl ?_
 have hM := St.enter oL hS
 have hM := hM.addE (r := rV s_aL.v (cSl 3 fDMark aL)) a_aL_0
 refine wc_sr ?_
 refine was rfl rfl ?_
 refine wl_sq ?_
 refine wc_sr ?_
 refine was rfl rfl ?_
 refine wl_sq ?_
 refine wc_sr ?_
 refine wmv rfl rfl ?_
 refine wmv rfl rfl ?_
 obtain ⟨r200, h201, hx⟩ := bind_some' hx
 refine w_call rfl rfl (hM.callV fun X S oL hS hR hO => ct_laws_szMarkS _ X S aL s_aL (1048576 : Int) hS (hR _ (.head _)) oL h201) ?_
 rintro _ w202 ⟨rfl, hR203⟩
 have hM := hM.call hR203
 refine was rfl rfl ?_
 refine wl_sq ?_
 refine wc_seq ?_
 refine wc_sr ?_
 refine wmv rfl rfl ?_
 refine wv rfl (r_lss rfl rfl) ?_
 refine wl_sq ?_
 refine wc_cond rfl (fun hc207 => ?_) (fun hc207 => ?_)
 ·
  replace hx := xif_t hc207 hx
  refine wc_sr ?_
  refine was rfl rfl ?_
  refine wl_sq ?_
  refine wc_ret ?_
  refine sq_ret ?_
  obtain rfl := Option.some.inj hx
  refine fin_ret [(.bool true)] ⟨rfl, trivial⟩ ?_
  replace hM := hM.t0
  have hM := hM.fewer rsN
  exact ⟨(), rfl, hM.gives⟩
 ·
  replace hx := xif_f hc207 hx
  refine wc_skip ?_
  refine sq_n ?_
  refine wc_sr ?_
  refine wmv rfl rfl ?_
  obtain ⟨r210, h211, hx⟩ := bind_some' hx
  refine w_call rfl rfl (hM.callO (l := []) fun X S oL hS hR hO => ct_laws_toMarkS _ X S aL s_aL hS (hR _ (.head _)) oL h211) ?_
  rintro _ w212 ⟨s213, rfl, hM⟩
  dsimp only [List.cons_append, List.nil_append] at hM
  refine wmv rfl rfl ?_
  refine wmv rfl rfl ?_
  refine wmv rfl rfl ?_
  refine wmv rfl rfl ?_
  obtain ⟨r219, h220, hx⟩ := bind_some' hx
  refine w_call rfl rfl (hM.callO (l := []) fun X S oL hS hR hO => ct_spec_MarkAdd _ X S r210 s213 aN aId aFrom aTo hS (seeA hO (.head _)) oL h220) ?_
  rintro _ w221 ⟨s222, rfl, hM⟩
  dsimp only [List.cons_append, List.nil_append] at hM
  refine wmv rfl rfl ?_
  refine wv rfl (r_extract rfl rfl) ?_
  refine wv rfl (r_extract rfl rfl) ?_
  refine was rfl rfl ?_
  refine was rfl rfl ?_
  refine wl_sq ?_
  refine wc_sr ?_
  refine wmv rfl rfl ?_
  obtain ⟨r230, h231, hx⟩ := bind_some' hx
  refine w_call rfl rfl (hM.callO (l := []) fun X S oL hS hR hO => ct_laws_toMarkS _ X S aL s_aL hS (hR _ (.head _)) oL h231) ?_
  rintro _ w232 ⟨s233, rfl, hM⟩
  dsimp only [List.cons_append, List.nil_append] at hM
  refine was rfl rfl ?_
  refine wl_sq ?_
  refine wc_sr ?_
  refine wmv rfl rfl ?_
  refine wmv rfl rfl ?_
  refine wmv rfl rfl ?_
  refine wmv rfl rfl ?_
  refine wmv rfl rfl ?_
  obtain ⟨r241, h242, hx⟩ := bind_some' hx
  refine w_call rfl rfl (hM.callO (l := []) fun X S oL hS hR hO => ct_impl_MarkAdd _ X S r230 s233 aN aId aFrom aTo hS (seeA hO (.head _)) oL h242) ?_
  rintro _ w243 ⟨s244, rfl, hM⟩
  dsimp only [List.cons_append, List.nil_append] at hM
  refine wmv rfl rfl ?_
  refine wv rfl (r_extract rfl rfl) ?_
  refine wv rfl (r_extract rfl rfl) ?_
  refine was rfl rfl ?_
  refine was rfl rfl ?_
  refine wl_sq ?_
  refine wc_seq ?_
  refine wc_sr ?_
  refine wmv rfl rfl ?_
  refine wmv rfl rfl ?_
  obtain ⟨r253, h254, hx⟩ := bind_some' hx
  refine w_call rfl rfl (hM.callV fun X S oL hS hR hO => ct_laws_eqMarkS _ X S r241.1 s244 r219.1 s222 hS (seeA hO (.head _)) (seeA hO (.tail _ (.tail _ (.head _)))) oL h254) ?_
  rintro _ w255 ⟨rfl, hR256⟩
  have hM := hM.call hR256
  refine wv rfl (r_not rfl) ?_
  refine wmv rfl rfl ?_
  obtain ⟨c259, hx, hx264⟩ := bind_some' hx
  refine wl_mid 4 (fun _ : Unit => [(56, (.bool c259)), (0, s_aL.v), (1, (.int .i64 aN)), (2, (.int .i64 aId)), (3, (.int .i64 aFrom)), (4, (.int .i64 aTo)), (12, s222.v), (13, (.bool r219.2)), (14, s233.v), (15, s244.v), (16, (.bool r241.2))]) (fun _ w' => St ⟨w, X, S⟩ [oC (cSl 3 fDMark r241.1) s244.v, oC (cSl 3 fDMark r230) s233.v, oC (cSl 3 fDMark r219.1) s222.v, oC (cSl 3 fDMark r210) s213.v] [rV s_aL.v (cSl 3 fDMark aL)] w') ?_ ?_
  ·
   rcases Bool.eq_false_or_eq_true (!r253) with hg260 | hg260
   ·
    replace hx := xif_t hg260 hx
    refine gs rfl (isB_no hg260) rfl ?_
    refine gs rfl (isB_no hg260) rfl ?_
    refine gs rfl (isB_no hg260) rfl ?_
    refine wv rfl (p_t rfl hg260 rfl) ?_
    obtain rfl := Option.some.inj hx
    exact mid_nil () ⟨rfl, rfl, rfl, rfl, rfl, rfl, rfl, rfl, rfl, rfl, rfl, trivial⟩ hM
   ·
    replace hx := xif_f hg260 hx
    refine gv rfl hg260 rfl (r_move rfl) ?_
    refine gv rfl hg260 rfl (r_move rfl) ?_
    refine gv rfl hg260 rfl (r_neqb Try.underlying4 rfl rfl) ?_
    refine wv rfl (p_f rfl hg260 rfl) ?_
    obtain rfl := Option.some.inj hx
    exact mid_nil () ⟨rfl, rfl, rfl, rfl, rfl, rfl, rfl, rfl, rfl, rfl, rfl, trivial⟩ hM
  rintro _ w268 hM
  replace hx := hx264
  refine wl_sq ?_
  refine wc_cond rfl (fun hc269 => ?_) (fun hc269 => ?_)
  ·
   replace hx := xif_t hc269 hx
   refine wc_sr ?_
   refine was rfl rfl ?_
   refine wl_sq ?_
   refine wc_ret ?_
   refine sq_ret ?_
   obtain rfl := Option.some.inj hx
   refine fin_ret [(.bool false)] ⟨rfl, trivial⟩ ?_
   replace hM := hM.t0
   have hM := hM.fewer rsN
   exact ⟨(), rfl, hM.gives⟩
  ·
   replace hx := xif_f hc269 hx
   refine wc_skip ?_
   refine sq_n ?_
   refine wc_seq ?_
   refine wc_sr ?_
   refine wmv rfl rfl ?_
   refine wmv rfl rfl ?_
   obtain ⟨r273, h274, hx⟩ := bind_some' hx
   refine w_call rfl rfl (hM.callO (l := []) fun X S oL hS hR hO => ct_laws_toMarkS _ X S aL s_aL hS (hR _ (.head _)) oL h274) ?_
   rintro _ w275 ⟨s276, rfl, hM⟩
   dsimp only [List.cons_append, List.nil_append] at hM
   obtain ⟨r278, h279, hx⟩ := bind_some' hx
   refine w_call rfl rfl (hM.callV fun X S oL hS hR hO => ct_laws_eqMarkS _ X S r230 s233 r273 s276 hS (seeA hO (.tail _ (.tail _ (.head _)))) (seeA hO (.head _)) oL h279) ?_
   rintro _ w280 ⟨rfl, hR281⟩
   have hM := hM.call hR281
   refine wv rfl (r_not rfl) ?_
   refine wl_sq ?_
   refine wc_cond rfl (fun hc283 => ?_) (fun hc283 => ?_)
   ·
    replace hx := xif_t hc283 hx
    refine wc_sr ?_
    refine was rfl rfl ?_
    refine wl_sq ?_
    refine wc_ret ?_
    refine sq_ret ?_
    obtain rfl := Option.some.inj hx
    refine fin_ret [(.bool false)] ⟨rfl, trivial⟩ ?_
    replace hM := hM.t0
    have hM := hM.fewer rsN
    exact ⟨(), rfl, hM.gives⟩
   ·
    replace hx := xif_f hc283 hx
    refine wc_skip ?_
    refine sq_n ?_
    refine wc_sr ?_
    refine was rfl rfl ?_
    refine wl_sq ?_
    refine wc_sr ?_
    refine wmv rfl rfl ?_
    refine wmv rfl rfl ?_
    replace hM := hM.p2
    obtain ⟨r288, h289, hx⟩ := bind_some' hx
    refine w_call rfl rfl (hM.callO (l := [oC (cSl 3 fDMark r230) s233.v]) fun X S oL hS hR hO => ct_laws_markMarkS _ X S r230 s233 (1 : Int) hS  oL h289) ?_
    rintro _ w290 ⟨_, rfl, hM⟩
    dsimp only [List.cons_append, List.nil_append] at hM
    refine was rfl rfl ?_
    refine wl_sq ?_
    refine wc_seq ?_
    refine wc_sr ?_
    refine wmv rfl rfl ?_
    refine wv rfl (r_lss rfl rfl) ?_
    refine wmv rfl rfl ?_
    obtain ⟨c295, hx, hx304⟩ := bind_some' hx
    refine wl_mid 5 (fun _ : Unit => [(72, (.bool c295)), (0, s_aL.v), (1, (.int .i64 aN)), (2, (.int .i64 aId)), (3, (.int .i64 aFrom)), (4, (.int .i64 aTo)), (12, s222.v), (13, (.bool r219.2)), (15, s244.v), (16, (.bool r241.2))]) (fun _ w' => St ⟨w, X, S⟩ [oC (cSl 3 fDMark r288.2) s233.v, oC (cSl 3 fDMark r273) s276.v, oC (cSl 3 fDMark r241.1) s244.v, oC (cSl 3 fDMark r219.1) s222.v, oC (cSl 3 fDMark r210) s213.v] [rV s_aL.v (cSl 3 fDMark aL)] w') ?_ ?_
    ·
     rcases Bool.eq_false_or_eq_true (decide (r288.1 < 0)) with hg296 | hg296
     ·
      replace hx := xif_t hg296 hx
      refine gs rfl (isB_no hg296) rfl ?_
      refine gs rfl (isB_no hg296) rfl ?_
      refine gs rfl (isB_no hg296) rfl ?_
      refine gs rfl (isB_no hg296) rfl ?_
      refine wv rfl (p_t rfl hg296 rfl) ?_
      obtain rfl := Option.some.inj hx
      exact mid_nil () ⟨rfl, rfl, rfl, rfl, rfl, rfl, rfl, rfl, rfl, rfl, trivial⟩ hM
     ·
      replace hx := xif_f hg296 hx
      refine gv rfl hg296 rfl (r_move rfl) ?_
      refine gv rfl hg296 rfl (r_move rfl) ?_
      obtain ⟨r307, h308, hx⟩ := bind_some' hx
      refine gc rfl hg296 rfl rfl (hM.callV fun X S oL hS hR hO => ct_laws_eqMarkS _ X S r241.1 s244 r219.1 s222 hS (seeA hO (.tail _ (.tail _ (.head _)))) (seeA hO (.tail _ (.tail _ (.tail _ (.head _))))) oL h308) ?_
      rintro _ w309 ⟨rfl, hR310⟩
      have hM := hM.call hR310
      refine gv rfl hg296 rfl (r_not rfl) ?_
      refine wv rfl (p_f rfl hg296 rfl) ?_
      obtain rfl := Option.some.inj hx
      exact mid_nil () ⟨rfl, rfl, rfl, rfl, rfl, rfl, rfl, rfl, rfl, rfl, trivial⟩ hM
    rintro _ w312 hM
    replace hx := hx304
    refine wmv rfl rfl ?_
    obtain ⟨c314, hx, hx319⟩ := bind_some' hx
    refine wl_mid 4 (fun _ : Unit => [(77, (.bool c314)), (0, s_aL.v), (1, (.int .i64 aN)), (2, (.int .i64 aId)), (3, (.int .i64 aFrom)), (4, (.int .i64 aTo)), (12, s222.v), (13, (.bool r219.2)), (15, s244.v)]) (fun _ w' => St ⟨w, X, S⟩ [oC (cSl 3 fDMark r288.2) s233.v, oC (cSl 3 fDMark r273) s276.v, oC (cSl 3 fDMark r241.1) s244.v, oC (cSl 3 fDMark r219.1) s222.v, oC (cSl 3 fDMark r210) s213.v] [rV s_aL.v (cSl 3 fDMark aL)] w') ?_ ?_
    ·
     rcases Bool.eq_false_or_eq_true c295 with hg315 | hg315
     ·
      replace hx := xif_t hg315 hx
      refine gs rfl (isB_no hg315) rfl ?_
      refine gs rfl (isB_no hg315) rfl ?_
      refine gs rfl (isB_no hg315) rfl ?_
      refine wv rfl (p_t rfl hg315 rfl) ?_
      obtain rfl := Option.some.inj hx
      exact mid_nil () ⟨rfl, rfl, rfl, rfl, rfl, rfl, rfl, rfl, rfl, trivial⟩ hM
     ·
      replace hx := xif_f hg315 hx
      refine gv rfl hg315 rfl (r_move rfl) ?_
      refine gv rfl hg315 rfl (r_move rfl) ?_
      refine gv rfl hg315 rfl (r_neqb Try.underlying4 rfl rfl) ?_
      refine wv rfl (p_f rfl hg315 rfl) ?_
      obtain rfl := Option.some.inj hx
      exact mid_nil () ⟨rfl, rfl, rfl, rfl, rfl, rfl, rfl, rfl, rfl, trivial⟩ hM
    rintro _ w323 hM
    replace hx := hx319
    refine wl_sq ?_
    refine wc_cond rfl (fun hc324 => ?_) (fun hc324 => ?_)
    ·
     replace hx := xif_t hc324 hx
     refine wc_sr ?_
     refine was rfl rfl ?_
     refine wl_sq ?_
     refine wc_ret ?_
     refine sq_ret ?_
     obtain rfl := Option.some.inj hx
     refine fin_ret [(.bool false)] ⟨rfl, trivial⟩ ?_
     replace hM := hM.t0
     have hM := hM.fewer rsN
     exact ⟨(), rfl, hM.gives⟩
    ·
     replace hx := xif_f hc324 hx
     refine wc_skip ?_
     refine sq_n ?_
     refine wc_sr ?_
     refine was rfl rfl ?_
     refine wl_sq ?_
     refine wc_sr ?_
     refine wmv rfl rfl ?_
     refine wmv rfl rfl ?_
     replace hM := hM.p2
     obtain ⟨r329, h330, hx⟩ := bind_some' hx
     refine w_call rfl rfl (hM.callO (l := [oC (cSl 3 fDMark r241.1) s244.v]) fun X S oL hS hR hO => ct_laws_markMarkS _ X S r241.1 s244 (1 : Int) hS  oL h330) ?_
     rintro _ w331 ⟨_, rfl, hM⟩
     dsimp only [List.cons_append, List.nil_append] at hM
     refine was rfl rfl ?_
     refine wl_sq ?_
     refine wc_sr ?_
     refine was rfl rfl ?_
     refine wl_sq ?_
     refine wc_sr ?_
     refine wmv rfl rfl ?_
     refine wmv rfl rfl ?_
     obtain ⟨r336, h337, hx⟩ := bind_some' hx
     refine w_call rfl rfl (hM.callV fun X S oL hS hR hO => ct_laws_heldMarkS _ X S r329.2 s244 (1 : Int) hS (seeA hO (.head _)) oL h337) ?_
     rintro _ w338 ⟨rfl, hR339⟩
     have hM := hM.call hR339
     refine was rfl rfl ?_
     refine wl_sq ?_
     refine wc_seq ?_
     refine wc_sr ?_
     refine wmv rfl rfl ?_
     refine wv rfl (r_lss rfl rfl) ?_
     refine wl_sq ?_
     refine wc_cond rfl (fun hc343 => ?_) (fun hc343 => ?_)
     ·
      replace hx := xif_t hc343 hx
      refine wc_sr ?_
      refine was rfl rfl ?_
      refine wl_sq ?_
      refine wc_ret ?_
      refine sq_ret ?_
      obtain rfl := Option.some.inj hx
      refine fin_ret [(.bool false)] ⟨rfl, trivial⟩ ?_
      replace hM := hM.t0
      have hM := hM.fewer rsN
      exact ⟨(), rfl, hM.gives⟩
     ·
      replace hx := xif_f hc343 hx
      refine wc_skip ?_
      refine sq_n ?_
      refine wc_seq ?_
      refine wc_sr ?_
      refine wmv rfl rfl ?_
      refine wmv rfl rfl ?_
      refine wv rfl (r_neq rfl rfl) ?_
      refine wl_sq ?_
      refine wc_cond rfl (fun hc348 => ?_) (fun hc348 => ?_)
      ·
       replace hx := xif_t hc348 hx
       refine wc_sr ?_
       refine was rfl rfl ?_
       refine wl_sq ?_
       refine wc_ret ?_
       refine sq_ret ?_
       obtain rfl := Option.some.inj hx
       refine fin_ret [(.bool false)] ⟨rfl, trivial⟩ ?_
       replace hM := hM.t0
       have hM := hM.fewer rsN
       exact ⟨(), rfl, hM.gives⟩
      ·
       replace hx := xif_f hc348 hx
       refine wc_skip ?_
       refine sq_n ?_
       refine wc_sr ?_
       refine wmv rfl rfl ?_
       obtain ⟨r351, h352, hx⟩ := bind_some' hx
       refine w_call rfl rfl (hM.callO (l := []) fun X S oL hS hR hO => ct_laws_toMarkS _ X S aL s_aL hS (hR _ (.head _)) oL h352) ?_
       rintro _ w353 ⟨s354, rfl, hM⟩
       dsimp only [List.cons_append, List.nil_append] at hM
       refine wmv rfl rfl ?_
       refine wmv rfl rfl ?_
       refine wmv rfl rfl ?_
       refine wmv rfl rfl ?_
       obtain ⟨r360, h361, hx⟩ := bind_some' hx
       refine w_call rfl rfl (hM.callO (l := []) fun X S oL hS hR hO => ct_impl_MarkAdd _ X S r351 s354 aN aId aFrom aTo hS (seeA hO (.head _)) oL h361) ?_
       rintro _ w362 ⟨s363, rfl, hM⟩
       dsimp only [List.cons_append, List.nil_append] at hM
       refine wmv rfl rfl ?_
       refine wv rfl (r_extract rfl rfl) ?_
       refine wv rfl (r_extract rfl rfl) ?_
       refine was rfl rfl ?_
       refine was rfl rfl ?_
       refine wl_sq ?_
       refine wc_seq ?_
       refine wc_sr ?_
       refine wmv rfl rfl ?_
       refine wmv rfl rfl ?_
       obtain ⟨r372, h373, hx⟩ := bind_some' hx
       refine w_call rfl rfl (hM.callV fun X S oL hS hR hO => ct_laws_eqMarkS _ X S r360.1 s363 r219.1 s222 hS (seeA hO (.head _)) (seeA hO (.tail _ (.tail _ (.tail _ (.tail _ (.tail _ (.head _))))))) oL h373) ?_
       rintro _ w374 ⟨rfl, hR375⟩
       have hM := hM.call hR375
       refine wv rfl (r_not rfl) ?_
       refine wmv rfl rfl ?_
       obtain ⟨c378, hx, hx383⟩ := bind_some' hx
       refine wl_mid 4 (fun _ : Unit => [(107, (.bool c378)), (15, s244.v), (18, (.int .i64 r329.1))]) (fun _ w' => St ⟨w, X, S⟩ [oC (cSl 3 fDMark r360.1) s363.v, oC (cSl 3 fDMark r351) s354.v, oC (cSl 3 fDMark r329.2) s244.v, oC (cSl 3 fDMark r288.2) s233.v, oC (cSl 3 fDMark r273) s276.v, oC (cSl 3 fDMark r219.1) s222.v, oC (cSl 3 fDMark r210) s213.v] [rV s_aL.v (cSl 3 fDMark aL)] w') ?_ ?_
       ·
        rcases Bool.eq_false_or_eq_true (!r372) with hg379 | hg379
        ·
         replace hx := xif_t hg379 hx
         refine gs rfl (isB_no hg379) rfl ?_
         refine gs rfl (isB_no hg379) rfl ?_
         refine gs rfl (isB_no hg379) rfl ?_
         refine wv rfl (p_t rfl hg379 rfl) ?_
         obtain rfl := Option.some.inj hx
         exact mid_nil () ⟨rfl, rfl, rfl, trivial⟩ hM
        ·
         replace hx := xif_f hg379 hx
         refine gv rfl hg379 rfl (r_move rfl) ?_
         refine gv rfl hg379 rfl (r_move rfl) ?_
         refine gv rfl hg379 rfl (r_neqb Try.underlying4 rfl rfl) ?_
         refine wv rfl (p_f rfl hg379 rfl) ?_
         obtain rfl := Option.some.inj hx
         exact mid_nil () ⟨rfl, rfl, rfl, trivial⟩ hM
       rintro _ w387 hM
       replace hx := hx383
       refine wl_sq ?_
       refine wc_cond rfl (fun hc388 => ?_) (fun hc388 => ?_)
       ·
        replace hx := xif_t hc388 hx
        refine wc_sr ?_
        refine was rfl rfl ?_
        refine wl_sq ?_
        refine wc_ret ?_
        refine sq_ret ?_
        obtain rfl := Option.some.inj hx
        refine fin_ret [(.bool false)] ⟨rfl, trivial⟩ ?_
        replace hM := hM.t0
        have hM := hM.fewer rsN
        exact ⟨(), rfl, hM.gives⟩
       ·
        replace hx := xif_f hc388 hx
        refine wc_skip ?_
        refine sq_n ?_
        refine wc_sr ?_
        refine was rfl rfl ?_
        refine wl_sq ?_
        refine wc_sr ?_
        refine wmv rfl rfl ?_
        refine wmv rfl rfl ?_
        obtain ⟨r393, h394, hx⟩ := bind_some' hx
        refine w_call rfl rfl (hM.callV fun X S oL hS hR hO => ct_laws_heldMarkS _ X S r329.2 s244 (1 : Int) hS (seeA hO (.tail _ (.tail _ (.head _)))) oL h394) ?_
        rintro _ w395 ⟨rfl, hR396⟩
        have hM := hM.call hR396
        refine was rfl rfl ?_
        refine wl_sq ?_
        refine wc_seq ?_
        refine wc_sr ?_
        refine wmv rfl rfl ?_
        refine wv rfl (r_lss rfl rfl) ?_
        refine wl_sq ?_
        refine wc_cond rfl (fun hc400 => ?_) (fun hc400 => ?_)
        ·
         replace hx := xif_t hc400 hx
         refine wc_sr ?_
         refine was rfl rfl ?_
         refine wl_sq ?_
         refine wc_ret ?_
         refine sq_ret ?_
         obtain rfl := Option.some.inj hx
         refine fin_ret [(.bool false)] ⟨rfl, trivial⟩ ?_
         replace hM := hM.t0
         have hM := hM.fewer rsN
         exact ⟨(), rfl, hM.gives⟩
        ·
         replace hx := xif_f hc400 hx
         refine wc_skip ?_
         refine sq_n ?_
         refine wc_seq ?_
         refine wc_sr ?_
         refine wmv rfl rfl ?_
         refine wmv rfl rfl ?_
         refine wv rfl (r_neq rfl rfl) ?_
         refine wl_sq ?_
         refine wc_cond rfl (fun hc405 => ?_) (fun hc405 => ?_)
         ·
          replace hx := xif_t hc405 hx
          refine wc_sr ?_
          refine was rfl rfl ?_
          refine wl_sq ?_
          refine wc_ret ?_
          refine sq_ret ?_
          obtain rfl := Option.some.inj hx
          refine fin_ret [(.bool false)] ⟨rfl, trivial⟩ ?_
          replace hM := hM.t0
          have hM := hM.fewer rsN
          exact ⟨(), rfl, hM.gives⟩
         ·
          replace hx := xif_f hc405 hx
          refine wc_skip ?_
          refine sq_n ?_
          refine wc_sr ?_
          refine was rfl rfl ?_
          refine wl_sq ?_
          refine wc_ret ?_
          obtain rfl := Option.some.inj hx
          refine fin_ret [(.bool true)] ⟨rfl, trivial⟩ ?_
          replace hM := hM.t0
          have hM := hM.fewer rsN
          exact ⟨(), rfl, hM.gives⟩

end Go.Proofs.Ytdfjkipdmeomdaa
