/- The given library's Insert, at a row of marks and one element. No condition. -/
import Derived.Test.YtdfjkipdmeomdaaDoorTy3
import Derived.Test.YtdfjkipdmeomdaaDoorNv
namespace Go.Proofs.YtdfjkipdmeomdaaDoor
open Go.RowKit

section
variable {k i n : Nat} {xs zs ys vs : List Value}
theorem ins_new (hx : xs.length = n * k) (hz : zs.length = (n + 1 - i) * k) (hv : vs.length = k) (hi : i ≤ n) :
    (((xs.take (i * k) ++ zs).take (i * k) ++ vs ++ (xs.take (i * k) ++ zs).drop (i * k + vs.length)).take ((i + 1) * k) ++ xs.drop (i * k) ++ ((xs.take (i * k) ++ zs).take (i * k) ++ vs ++ (xs.take (i * k) ++ zs).drop (i * k + vs.length)).drop ((i + 1) * k + (xs.drop (i * k)).length))
      = xs.take (i * k) ++ vs ++ xs.drop (i * k) := by
  have h1 := Nat.mul_le_mul_right k hi
  have e1 : (i + 1) * k = i * k + k := by rw [Nat.add_mul, Nat.one_mul]
  have e2 : (n + 1 - i) * k = n * k + k - i * k := by rw [Nat.sub_mul, Nat.add_mul, Nat.one_mul]
  have lA : (xs.take (i * k)).length = i * k := by rw [List.length_take]; omega
  have key : ∀ (X T : List Value) (q : Nat), T.length ≤ q → X ++ T.drop q = X := fun X T q h => by rw [List.drop_of_length_le h, List.append_nil]
  rw [List.take_left' lA]
  refine (key _ _ _ ?_).trans ?_
  · simp only [List.length_append, List.length_drop, lA, hz, hv, hx, e1, e2]
    omega
  · rw [List.take_left' (by rw [List.length_append, lA, hv, e1])]
theorem ins_room (hx : xs.length = n * k) (hy : ys.length = 1 * k) (hv : vs.length = k) (hi : i + 1 ≤ n) :
    (((xs ++ ys).take ((i + 1) * k) ++ xs.drop (i * k) ++ (xs ++ ys).drop ((i + 1) * k + (xs.drop (i * k)).length)).take (i * k) ++ vs ++ ((xs ++ ys).take ((i + 1) * k) ++ xs.drop (i * k) ++ (xs ++ ys).drop ((i + 1) * k + (xs.drop (i * k)).length)).drop (i * k + vs.length))
      = xs.take (i * k) ++ vs ++ xs.drop (i * k) := by
  have h1 := Nat.mul_le_mul_right k hi
  have e1 : (i + 1) * k = i * k + k := by rw [Nat.add_mul, Nat.one_mul]
  have lA : ((xs ++ ys).take ((i + 1) * k)).length = i * k + k := by rw [List.length_take, List.length_append, hx, hy, e1]; omega
  rw [List.drop_of_length_le (l := xs ++ ys), List.append_nil, hv, List.drop_left' lA, List.take_append_of_le_length (by omega), List.take_take, Nat.min_eq_left (by omega), List.take_append_of_le_length (by omega)]
  simp only [List.length_append, List.length_drop, hx, hy, e1]
  omega
end

section
variable {P : Program} {n : Nat} {env : Env} {w : World} {d : Option Tmp} {ty : TypeId} {pos : String} {af : Array Edge} {g : Option (Nat × Bool)} {k : Nat}
theorem r_bl {x lo : Operand} {t e : TypeId} {bytes : Nat} {z : Value} {b off l c i : Nat} {j : Int} (ht : P.underlying t = some (.slice e)) (hs : Sz P e k bytes z)
    (hx : ev env x = some (Sv.v ⟨some ⟨b, off, none⟩, l, c⟩)) (hlo : ev env lo = some (.int .i64 j)) (hj : j = (i : Int)) (h0 : i ≤ l) (hc : l ≤ c) (hi : i < c) :
    Runs P n env w ⟨d, .slice t x (some lo) none none, ty, pos, af, g⟩ (Sv.v ⟨some ⟨b, off + i * k, none⟩, l - i, c - i⟩) w := by
  subst hj
  rw [← cut_lo hi]
  exact r_slv_lo ht hs hx hlo ⟨by omega, by simp only; omega⟩ hc
theorem r_bh {x hi : Operand} {t e : TypeId} {bytes : Nat} {z : Value} {b off l c i : Nat} {j : Int} (ht : P.underlying t = some (.slice e)) (hs : Sz P e k bytes z)
    (hx : ev env x = some (Sv.v ⟨some ⟨b, off, none⟩, l, c⟩)) (hhi : ev env hi = some (.int .i64 j)) (hj : j = (i : Int)) (h0 : i ≤ c) (hc : 0 < c) :
    Runs P n env w ⟨d, .slice t x none (some hi) none, ty, pos, af, g⟩ (Sv.v ⟨some ⟨b, off, none⟩, i, c⟩) w := by
  subst hj
  rw [← cut_hi (k := k) (n := l) hc]
  exact r_slv_hi ht hs hx hhi ⟨by omega, by simp only; omega⟩
end

noncomputable def x_insertMark (L : List DMark) (i : Int) (M : List DMark) : Option (List DMark) :=
  if 0 ≤ i ∧ i ≤ (L.length : Int) ∧ M.length = 1 ∧ L.length ≤ 1000000 then some (L.take i.toNat ++ M ++ L.drop i.toNat) else none
theorem ct_insertMark (w : World) (X S : Bs) (L : List DMark) (s : Sv) (i : Int) (M : List DMark) (v : Sv) (hS : ∀ b, S b → b < w.heap.size ∧ ¬ X b) (oL : Sep [oC (cSl 3 fDMark L) s.v, oC (cSl 3 fDMark M) v.v] X w) {r : List DMark} (hx : x_insertMark L i M = some r) :
    Ret Tryd.prog 29 [s.v, (.int .i64 i), v.v] w (fun u w' => ∃ y : Sv, u = y.v ∧ Gives X S w [oC (cSl 3 fDMark r) y.v] [] w') := by
  unfold x_insertMark at hx
  split at hx
  rotate_left
  · cases hx
  rename_i hc
  obtain ⟨hi0, hiL, hm, hL⟩ := hc
  obtain ⟨p, rfl⟩ := Int.eq_ofNat_of_zero_le hi0
  obtain rfl := Option.some.inj hx
  rw [Int.toNat_natCast]
  have hp : p ≤ L.length := by omega
  refine enter Tryd.func29 rfl Tryd.ntmps29 (by kernel_rfl) rfl ?_
  have hM0 := St.enter oL hS
  have hsn : s.n = L.length ∧ s.n ≤ s.c := by
    obtain ⟨a, cap, e, h1, h2, _⟩ := hM0.seeO (.head _)
    obtain ⟨_, e2, e3⟩ : s.p = a ∧ s.n = L.length ∧ s.c = cap := by simpa [Sv.v] using e
    omega
  obtain ⟨xs, hxs, hM1⟩ := hM0.unrow
  have hM1 : St ⟨w, X, S⟩ (oC (cSl 3 fDMark M) v.v :: (oRow 3 s.v L.length xs :: zipC (L.flatMap fDMark) xs)) [] w := hM1.perm (List.perm_append_comm (l₁ := oRow 3 s.v L.length xs :: zipC (L.flatMap fDMark) xs) (l₂ := [oC (cSl 3 fDMark M) v.v]))
  obtain ⟨vs, hvs, hM2⟩ := hM1.unrow
  rw [hm] at hM2
  have hM : St ⟨w, X, S⟩ (oRow 3 s.v L.length xs :: oRow 3 v.v 1 vs :: (zipC (L.flatMap fDMark) xs ++ (zipC (M.flatMap fDMark) vs ++ []))) [] w := by
    rw [List.append_nil]
    exact hM2.perm ((List.perm_append_comm (l₁ := oRow 3 v.v 1 vs :: zipC (M.flatMap fDMark) vs) (l₂ := oRow 3 s.v L.length xs :: zipC (L.flatMap fDMark) xs)).trans (List.Perm.cons _ List.perm_middle))
  clear hM1 hM2
  obtain ⟨vb, voff, vcap, vcur, ve, rfl, vhg, vnc, vcm, vcs, vlen, vcells⟩ := hM.rowAt (.tail _ (.head _)) (by decide)
  have hf3 : ∀ x, (fDMark x).length = 3 := fun _ => rfl
  refine wc_sr ?_
  refine was rfl rfl ?_
  refine wl_sq ?_
  refine wc_sr ?_
  refine wmv rfl rfl ?_
  refine wmv rfl rfl ?_
  refine wv rfl (r_slv_lo Tryd.underlying33 sz25 rfl rfl ⟨by omega, by omega⟩ hsn.2) ?_
  refine wl_sq ?_
  refine wc_sr ?_
  refine wmv rfl rfl ?_
  refine wv rfl (r_len Tryd.underlying33 rfl) ?_
  refine was rfl rfl ?_
  refine wl_sq ?_
  refine wc_seq ?_
  refine wc_sr ?_
  refine wmv rfl rfl ?_
  refine wv rfl (r_eql rfl rfl) ?_
  refine wl_sq ?_
  refine wc_cond rfl (fun hc => absurd (of_decide_eq_true hc) (by simp)) (fun _ => ?_)
  refine wc_skip ?_
  refine sq_n ?_
  refine wc_sr ?_
  refine wmv rfl rfl ?_
  refine wv rfl (r_len Tryd.underlying33 rfl) ?_
  refine was rfl rfl ?_
  refine wl_sq ?_
  refine wc_seq ?_
  refine wc_sr ?_
  refine wmv rfl rfl ?_
  refine wmv rfl rfl ?_
  refine wv rfl (r_eql rfl rfl) ?_
  refine wl_sq ?_
  refine wc_cond rfl (fun hc => ?_) (fun hc => ?_)
  · have hpn : p = L.length := by
      have := of_decide_eq_true hc
      omega
    refine wc_sr ?_
    refine wmv rfl rfl ?_
    refine wmv rfl rfl ?_
    refine w_ex rfl (x_appendO Tryd.underlying33 sz25 rfl rfl hM0 (by omega) rfl ?_); intro s' w1 hM
    refine was rfl rfl ?_
    refine wl_sq ?_
    refine wc_ret ?_
    refine sq_ret ?_
    refine fin_ret [s'.v] ⟨rfl, trivial⟩ ?_
    rw [hpn, List.take_length, List.drop_length, List.append_nil]
    exact ⟨s', rfl, hM.gives⟩
  have hpn : p < L.length := by
    have := of_decide_eq_false hc
    omega
  obtain ⟨b, off, cap, cur, e, rfl, hg, hnc, hcm, hcs, hlen, hcells⟩ := hM.rowAt (.head _) (by omega)
  have hvb := hM.apart
  have h1x := St.zipOne hxs hM.drop.drop
  have h1v : ∀ u ∈ vs, u.oneCell' = true := St.zipOne (m := zipC (L.flatMap fDMark) xs) hvs (hM.drop.drop.perm (by rw [List.append_nil]; exact List.perm_append_comm))
  simp only [maxLen] at hcm
  refine wc_skip ?_
  refine sq_n ?_
  refine wc_seq ?_
  refine wc_sr ?_
  refine wmv rfl rfl ?_
  refine wmv rfl rfl ?_
  refine wv rfl (r_add rfl rfl ⟨by simp only; omega, by simp only; omega⟩) ?_
  refine wmv rfl rfl ?_
  refine wv rfl (r_cap Tryd.underlying33 rfl) ?_
  refine wv rfl (r_gtr rfl rfl) ?_
  refine wl_sq ?_
  refine wc_cond rfl (fun hc => ?_) (fun hc => ?_)
  · have hgrow : cap < L.length + 1 := by
      have := of_decide_eq_true hc
      simp only at this
      omega
    have hxl : (xs.drop (p * 3)).length = (L.length - p) * 3 := by rw [List.length_drop, hlen, Nat.sub_mul]
    have hp3 := Nat.mul_le_mul_right 3 hpn
    obtain ⟨info, hinfo, hz, hsz, hbt⟩ := sz25.info
    refine wc_sr ?_
    refine wmv rfl rfl ?_
    refine wmv rfl rfl ?_
    refine wv rfl (r_bh (i := p) Tryd.underlying33 sz25 rfl rfl rfl (by omega) (by omega)) ?_
    refine wmv rfl rfl ?_
    refine wmv rfl rfl ?_
    refine wv rfl (r_add rfl rfl ⟨by simp only; omega, by simp only; omega⟩) ?_
    refine wmv rfl rfl ?_
    refine wv rfl (r_sub rfl rfl ⟨by simp only; omega, by simp only; omega⟩) ?_
    have htl : (xs.take (p * 3)).length = p * info.size := by rw [List.length_take, hlen, hsz]; omega
    have hold : (Builtin.firstCells info.size p (.slice (some ⟨b, off, none⟩) p cap)).run Tryd.prog w.drew = .ok (xs.take (p * 3)).toArray w.drew :=
      run_firstCells_some w.drew info.size p ⟨b, off, none⟩ p cap _ htl fun j u hj => by
        rw [Addr.add_lit]
        rw [List.getElem?_take] at hj
        split at hj
        · exact hcells _ _ hj
        · cases hj
    have hap := Lib.run_append_grow_zeros (P := Tryd.prog) w 33 3 33 25 info _ .i64 .i64 Tryd.underlying33 Tryd.underlying3 hinfo hz (some ⟨b, off, none⟩) p cap (xs.take (p * 3)) hold (L.length + 1 - p) (by omega) (by omega) (by omega) (by omega) (by rw [hbt]; omega) (by rw [hbt]; exact growslice_fits (by omega) (by omega))
    have hj : (((L.length : Nat) : Int) + ((1 : Nat) : Int) - (p : Int)) = ((L.length + 1 - p : Nat) : Int) := by omega
    have hq : p + (L.length + 1 - p) = L.length + 1 := by omega
    rw [hq] at hap
    have hG := grownCap_ge w (L.length + 1) cap 25
    have hGm := grownCap_le_maxLen w (L.length + 1) cap 25 (by simp only [maxLen]; omega)
    have hzs : ∀ q, (Builtin.zeroCells (Value.agg #[Value.int IntKind.i64 0, Value.int IntKind.i64 0, Value.int IntKind.i64 0]).cells q).size = q * 3 := fun q => by rw [size_zeroCells]; rfl
    have hM := hM.drew.allocRow (k := 3) (n := L.length + 1) (cap := grownCap w (L.length + 1) cap 25) (xs.take (p * 3) ++ (Builtin.zeroCells (Value.agg #[Value.int IntKind.i64 0, Value.int IntKind.i64 0, Value.int IntKind.i64 0]).cells (L.length + 1 - p)).toList)
      (Builtin.zeroCells (Value.agg #[Value.int IntKind.i64 0, Value.int IntKind.i64 0, Value.int IntKind.i64 0]).cells (grownCap w (L.length + 1) cap 25 - (L.length + 1))).toList ((xs.take (p * 3)).toArray ++ Builtin.zeroCells (Value.agg #[Value.int IntKind.i64 0, Value.int IntKind.i64 0, Value.int IntKind.i64 0]).cells (L.length + 1 - p) ++ Builtin.zeroCells (Value.agg #[Value.int IntKind.i64 0, Value.int IntKind.i64 0, Value.int IntKind.i64 0]).cells (grownCap w (L.length + 1) cap 25 - (L.length + 1))) 25 (by rw [Array.toList_append, Array.toList_append]) (by rw [List.length_append, htl, Array.length_toList, hzs, hsz]; omega) hG hGm
      (by rw [Array.size_append, Array.size_append, hzs, hzs, List.size_toArray, htl, hsz]; omega)
    refine w_ex rfl (x_appM rfl rfl (by simp only [Int.ofNat_eq_natCast] at hj ⊢; rw [hj]; exact hap) ?_)
    generalize grownCap w (L.length + 1) cap 25 = G at hM hG hGm ⊢
    generalize World.alloc _ _ = w1 at hM ⊢
    rw [show w.drew.heap.size = w.heap.size from rfl] at hM
    generalize w.heap.size = nb at hM ⊢
    refine was rfl rfl ?_
    refine wl_sq ?_
    refine wc_sr ?_
    refine wmv rfl rfl ?_
    refine wmv rfl rfl ?_
    refine wv rfl (r_bl (i := p) Tryd.underlying33 sz25 rfl rfl rfl (by omega) (by omega) (by omega)) ?_
    refine wmv rfl rfl ?_
    obtain ⟨b3, off3, cap3, cur3, e3, q3, hg3, hnc3, _, hcs3, _, hcells3⟩ := hM.rowAt (.head _) (by omega)
    obtain ⟨⟨rfl, rfl⟩, rfl⟩ : (nb = b3 ∧ 0 = off3) ∧ G = cap3 := by simpa using q3
    have hk := row_cells hg3 hcs3 hnc3
    obtain ⟨b4, off4, cap4, cur4, e4, q4, _, _, _, _, _, vcells4⟩ := hM.rowAt (.tail _ (.tail _ (.head _))) (by omega)
    obtain ⟨⟨rfl, rfl⟩, rfl⟩ : (vb = b4 ∧ voff = off4) ∧ vcap = cap4 := by simpa using q4
    refine w_ex rfl (x_copy rfl rfl (run_copyK w1 33 33 _ 25 info nb (0 + p * 3) _ _ ⟨vb, voff, none⟩ 1 vcap 1 vs Tryd.underlying33 hinfo (by simp only [Nat.min_def]; split <;> omega) (by rw [hsz]; exact vlen) (fun j u hj => ?_) (fun j hj => ?_) (fun j _ => hk.2 _) h1v) ?_)
    · rw [Addr.add_lit]
      exact vcells4 _ _ hj
    · rw [Nat.add_assoc]
      refine hk.1 _ ?_
      omega
    have hM := hM.blit (o := p * 3) (cs := vs) (by omega)
    refine wl_sq ?_
    refine wc_seq ?_
    refine wc_draw [(0, 0), (1, 0), (2, 0), (3, 0), (4, 0), (5, 0), (6, 0), (7, 0), (8, 2)] Tryd_mixed (by kernel_rfl) rfl (by kernel_rfl) rfl ?_
    refine omv rfl rfl ?_
    refine omv rfl rfl ?_
    refine omv rfl rfl ?_
    refine ov rfl (fun _ _ => r_add rfl rfl ⟨by simp only; omega, by simp only; omega⟩) ?_
    refine ov rfl (fun _ _ => r_bl (i := p + 1) Tryd.underlying33 sz25 rfl rfl (by simp) (by omega) (by omega) (by omega)) ?_
    refine omv rfl rfl ?_
    refine omv rfl rfl ?_
    refine ov rfl (fun _ _ => r_bl (i := p) Tryd.underlying33 sz25 rfl rfl rfl (by omega) (by omega) (by omega)) ?_
    refine o_ex rfl fun w2 hR => ?_
    have hM := hM.call hR
    obtain ⟨b2, off2, cap2, cur2, e2, q2, hg2, hnc2, _, hcs2, _, _⟩ := hM.rowAt (.head _) (by omega)
    obtain ⟨⟨rfl, rfl⟩, rfl⟩ : (nb = b2 ∧ 0 = off2) ∧ G = cap2 := by simpa using q2
    obtain ⟨b5, off5, cap5, cur5, e5, q5, _, _, _, _, _, hcells5⟩ := hM.rowAt (.tail _ (.head _)) (by omega)
    obtain ⟨⟨rfl, rfl⟩, rfl⟩ : (b = b5 ∧ off = off5) ∧ cap = cap5 := by simpa using q5
    have hk := row_cells hg2 hcs2 hnc2
    refine x_copy rfl rfl (run_copyK w2 33 33 _ 25 info nb (0 + (p + 1) * 3) _ _ ⟨b, off + p * 3, none⟩ _ _ (L.length - p) (xs.drop (p * 3)) Tryd.underlying33 hinfo (by simp only [Nat.min_def]; split <;> omega) (by rw [hsz, hxl]) (fun j u hj => ?_) (fun j hj => ?_) (fun j _ => hk.2 _) (fun u hu => h1x u (List.mem_of_mem_drop hu))) ?_
    · rw [List.getElem?_drop] at hj
      rw [Addr.add_lit, Nat.add_assoc]
      exact hcells5 _ _ hj
    · rw [Nat.add_assoc]
      refine hk.1 _ ?_
      omega
    have hM := hM.blit (o := (p + 1) * 3) (cs := xs.drop (p * 3)) (by omega)
    rw [ins_new hlen (by rw [Array.length_toList, hzs]) (by omega) (by omega)] at hM
    refine o_nilM hM fun w3 hM => ?_
    refine sq_n ?_
    refine wc_sr ?_
    refine wmv rfl rfl ?_
    refine was rfl rfl ?_
    refine wl_sq ?_
    refine wc_ret ?_
    refine sq_ret ?_
    refine fin_ret [Sv.v ⟨some ⟨nb, 0, none⟩, L.length + 1, G⟩] ⟨rfl, trivial⟩ ?_
    have hM := ((((hM.perm (List.Perm.swap ..)).drop).perm (List.Perm.swap ..)).drop)
    rw [← hm] at hM ⊢
    exact ⟨_, rfl, (St.insDone hf3 hp hxs hvs hM).gives⟩
  have hroom : L.length + 1 ≤ cap := by
    have := of_decide_eq_false hc
    simp only at this
    omega
  refine wc_skip ?_
  refine sq_n ?_
  obtain ⟨ys, hys, hM⟩ := hM.spare 1 hroom
  refine wc_sr ?_
  refine wmv rfl rfl ?_
  refine wmv rfl rfl ?_
  refine wmv rfl rfl ?_
  refine wv rfl (r_add rfl rfl ⟨by simp only; omega, by simp only; omega⟩) ?_
  refine wv rfl (r_bh (i := L.length + 1) Tryd.underlying33 sz25 rfl rfl (by simp) hroom (by omega)) ?_
  refine was rfl rfl ?_
  refine wl_sq ?_
  refine wc_seq ?_
  refine wc_sr ?_
  refine wmv rfl rfl ?_
  refine wmv rfl rfl ?_
  refine wmv rfl rfl ?_
  refine wmv rfl rfl ?_
  refine wv rfl (r_add rfl rfl ⟨by simp only; omega, by simp only; omega⟩) ?_
  refine wv rfl (r_bl (i := p + 1) Tryd.underlying33 sz25 rfl rfl (by simp) (by omega) (by omega) (by omega)) ?_
  refine wv rfl (r_ext rfl (v := .bool false) ?_) ?_
  · rw [run_callFunc_extern Tryd.func39 (by kernel_rfl) (by kernel_rfl) (by kernel_rfl) (e := Extern.SlicesOverlaps.overlaps #[33, 33] #[4]) (by kernel_rfl)]
    simp only [Sv.v]
    rw [Lib.run_overlaps_apart w 33 4 25 Tryd.underlying33 3 sz25.run ⟨vb, voff, none⟩ ⟨b, off + (p + 1) * 3, none⟩ 1 vcap _ _ hvb ve e vcur.size cur.size (by simp [World.shape?, vhg]) (by simp [World.shape?, hg]) (by omega) ((row_cells vhg vcs vnc).2 _) ((row_cells vhg vcs vnc).2 _)]
    rfl
  refine wv rfl (r_not rfl) ?_
  refine wl_sq ?_
  refine wc_cond rfl (fun _ => ?_) (fun hc => absurd hc (by simp))
  have hxl : (xs.drop (p * 3)).length = (L.length - p) * 3 := by rw [List.length_drop, hlen, Nat.sub_mul]
  have hp3 := Nat.mul_le_mul_right 3 hpn
  refine wc_seq ?_
  refine wc_draw [(0, 0), (1, 0), (2, 0), (3, 0), (4, 0), (5, 0), (6, 0), (7, 0), (8, 2)] Tryd_mixed (by kernel_rfl) rfl (by kernel_rfl) rfl ?_
  refine omv rfl rfl ?_
  refine omv rfl rfl ?_
  refine omv rfl rfl ?_
  refine ov rfl (fun _ _ => r_add rfl rfl ⟨by simp only; omega, by simp only; omega⟩) ?_
  refine ov rfl (fun _ _ => r_bl (i := p + 1) Tryd.underlying33 sz25 rfl rfl (by simp) (by omega) (by omega) (by omega)) ?_
  refine omv rfl rfl ?_
  refine omv rfl rfl ?_
  refine ov rfl (fun _ _ => r_bl (i := p) Tryd.underlying33 sz25 rfl rfl rfl (by omega) (by omega) (by omega)) ?_
  refine o_ex rfl fun w1 hR => ?_
  have hM := hM.call hR
  obtain ⟨b2, off2, cap2, cur2, e2, q2, hg2, hnc2, _, hcs2, _, hcells2⟩ := hM.rowAt (.head _) (by omega)
  obtain ⟨⟨rfl, rfl⟩, rfl⟩ : (b = b2 ∧ off = off2) ∧ cap = cap2 := by simpa using q2
  obtain ⟨info, hinfo, _, hsz, _⟩ := sz25.info
  have hk := row_cells hg2 hcs2 hnc2
  refine x_copy rfl rfl (run_copyK w1 33 33 _ 25 info b (off + (p + 1) * 3) _ _ ⟨b, off + p * 3, none⟩ _ _ (L.length - p) (xs.drop (p * 3)) Tryd.underlying33 hinfo (by simp only [Nat.min_def]; split <;> omega) (by rw [hsz, hxl]) (fun j u hj => ?_) (fun j hj => ?_) (fun j _ => hk.2 _) (fun u hu => h1x u (List.mem_of_mem_drop hu))) ?_
  · rw [List.getElem?_drop] at hj
    rw [Addr.add_lit, Nat.add_assoc]
    refine hcells2 _ _ ?_
    rw [List.getElem?_append_left (List.getElem?_eq_some_iff.1 hj).1]
    exact hj
  · rw [Nat.add_assoc]
    refine hk.1 _ ?_
    omega
  have hM := hM.blit (o := (p + 1) * 3) (cs := xs.drop (p * 3)) (by omega)
  refine o_nilM hM fun w2 hM => ?_
  refine sq_n ?_
  refine wc_sr ?_
  refine wmv rfl rfl ?_
  refine wmv rfl rfl ?_
  refine wv rfl (r_bl (i := p) Tryd.underlying33 sz25 rfl rfl rfl (by omega) (by omega) (by omega)) ?_
  refine wmv rfl rfl ?_
  obtain ⟨b3, off3, cap3, cur3, e3, q3, hg3, hnc3, _, hcs3, _, hcells3⟩ := hM.rowAt (.head _) (by omega)
  obtain ⟨⟨rfl, rfl⟩, rfl⟩ : (b = b3 ∧ off = off3) ∧ cap = cap3 := by simpa using q3
  have hk := row_cells hg3 hcs3 hnc3
  obtain ⟨b4, off4, cap4, cur4, e4, q4, _, _, _, _, _, vcells4⟩ := hM.rowAt (.tail _ (.head _)) (by omega)
  obtain ⟨⟨rfl, rfl⟩, rfl⟩ : (vb = b4 ∧ voff = off4) ∧ vcap = cap4 := by simpa using q4
  refine w_ex rfl (x_copy rfl rfl (run_copyK w2 33 33 _ 25 info b (off + p * 3) _ _ ⟨vb, voff, none⟩ 1 vcap 1 vs Tryd.underlying33 hinfo (by simp only [Nat.min_def]; split <;> omega) (by rw [hsz]; exact vlen) (fun j u hj => ?_) (fun j hj => ?_) (fun j _ => hk.2 _) h1v) ?_)
  · rw [Addr.add_lit]
    exact vcells4 _ _ hj
  · rw [Nat.add_assoc]
    refine hk.1 _ ?_
    omega
  have hM := hM.blit (o := p * 3) (cs := vs) (by omega)
  rw [ins_room hlen hys (by omega) (by omega)] at hM
  refine wl_sq ?_
  refine wc_sr ?_
  refine wmv rfl rfl ?_
  refine was rfl rfl ?_
  refine wl_sq ?_
  refine wc_ret ?_
  refine sq_ret ?_
  refine fin_ret [Sv.v ⟨some ⟨b, off, none⟩, L.length + 1, cap⟩] ⟨rfl, trivial⟩ ?_
  have hM := (hM.perm (List.Perm.swap ..)).drop
  rw [← hm] at hM ⊢
  exact ⟨_, rfl, (St.insDone hf3 hp hxs hvs hM).gives⟩
end Go.Proofs.YtdfjkipdmeomdaaDoor
