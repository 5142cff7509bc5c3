/- Part 3 of the proof: lemmas. No condition. -/
import Derived.Test.YtipinmfmejccdaaGreatZ2
namespace Go.Proofs.YtipinmfmejccdaaGreat
section
open Go.RowKit
section
variable {ρ ρ' : List HV} {rs rs' : List Rd} {B : Base} {amb : List Rd} {st : SSt} {env : Env} {w : World} {m : List As} {R : Type} {r : R} {op : Op}
def StOk (B : Base) (amb : List Rd) (ρ : List HV) (st : SSt) (env : Env) (w : World) (op : Op) (K : SSt -> Option R) (r : R) : Prop :=
 ∀ n ty pos af, ExU Tryz.prog n env w ⟨none, op, ty, pos, af, none⟩ fun w' => ∃ st' ρ', K st' = some r /\ Ext ρ ρ' /\ Sat B amb ρ' st' env w' /\ Grow st st' /\ st'.env = st.env
theorem Pl : ∀ {cs : List Cell} {vs : List Value}, All2 (Cell.Den ρ) cs vs -> (vs.all (·.oneCell')) = true
 | [], [], _ => rfl
 | _ :: _, _ :: _, ⟨h1, h2⟩ => by simp only [List.all_cons, h1.one, Bool.true_and]; exact Pl h2
 | [], _ :: _, h => h.elim
 | _ :: _, [], h => h.elim
theorem Atz {S : Bs} {k : Nat} {T : Type} {f : T -> List Ce} {L : List T} {s : Sv} (h : (Ad k f L).rd S w s.v) : s.n = L.length := by
 obtain ⟨sf, e, h2, _⟩ := Cs.form h
 rw [Afl e, h2]
theorem Sat.box (hs : Sat B amb ρ st env w) {h b : Nat} {e : TypeId} {cs : List Cell} {vs : List Value} {own' : List Chunk} {m' : List As} {rs : List Rd} {w' : World} (hb : ρ[h]? = some (.box b)) (h1 : OwnOk ρ rs own' m') (h2 : RdsOk ρ st.rds rs) (h3 : ∀ r ∈ amb, r ∈ rs) (hd : All2 (Cell.Den ρ) cs vs) (hM : St B (Aw b vs.toArray e :: m') rs w') :
  Sat B amb (ρ ++ [.num 0]) { st with own := .box h st.nxt cs :: own', nxt := st.nxt + 1 } env w' := by
 have hx := Ext.one ρ (.num 0)
 exact ⟨by simp [hs.len], hs.env.mono hx, Aw b vs.toArray e :: m', rs, ⟨⟨b, e, vs, hx.get hb, hd.mono fun _ _ => Cell.Den.mono hx, rfl⟩, OwnOk.mono hx (fun _ h => h) h1⟩, h2.mono hx fun _ h => h, h3, hM⟩
theorem Sat.rowAt (hs : Sat B amb ρ st env w) {h : Nat} {s : Sv} {t : Ty} {L : List (Ax t)} {own' : List Chunk} {m' : List As} {rs : List Rd} {w' : World} (hb : ρ[h]? = some (.row s)) (h1 : OwnOk ρ rs own' m') (h2 : RdsOk ρ st.rds rs) (h3 : ∀ r ∈ amb, r ∈ rs) (hM : St B (oC (Ad (sz t) (fD t) L) s.v :: m') rs w') :
  Sat B amb (ρ ++ [.num 0]) { st with own := .row h st.nxt t L [] :: own', nxt := st.nxt + 1 } env w' := by
 have hx := Ext.one ρ (.num 0)
 exact ⟨by simp [hs.len], hs.env.mono hx, oV (oC (Ad (sz t) (fD t) L) s.v) [] :: m', rs, ⟨⟨s, [], hx.get hb, rfl, rfl⟩, OwnOk.mono hx (fun _ h => h) h1⟩, h2.mono hx fun _ h => h, h3, hM.z Z.toV⟩
theorem St.stE2 {P : Program} {n : Nat} {ty : TypeId} {pos : String} {af : Array Edge} {own : List As} {T : Type} {k : Nat} {f : T -> List Ce} {L : List T} [Inhabited T] {t : TypeId} {x y : Operand} {s : Sv} {u : Value} {size bytes : Nat} {z : Value} {i j : Nat} (a : T) (cs : List Ce) (hs : Sz P t size bytes z) (hf : ∀ x, (f x).length = k) (hx : ev env x = some (.pointer (some (Bq s.v (i * k + j))))) (hy : ev env y = some u) (hi : i < L.length)
  (hu : u.cells.size = size) (hl : cs.length = u.cells.toList.length) (hj : Nat.ble (j + u.cells.toList.length) k = true) (hone : u.cells.toList.all (·.oneCell') = true) (ha : f a = (f (el L i)).take j ++ cs ++ (f (el L i)).drop (j + u.cells.toList.length)) (hz : ∀ w, Z w own (Ao cs u.cells.toList))
  (hM : St B (oC (Ad k f L) s.v :: (own ++ m)) rs w) : ∃ w', RunsU P n env w ⟨none, .store t x y, ty, pos, af, none⟩ w' /\ St B (oC (Ad k f (L.set i a)) s.v :: m) rs w' /\ ∀ q v, u.cells.toList[q]? = some v -> w'.cell? (Bq s.v (i * k + (j + q))) = some v := by
 obtain ⟨b, o, cur, e, hd, ep, ⟨hg, hwr⟩, hfit, h3⟩ := hM.upds hf hi hl (by simpa using hj) ha hz
 have e1 : s.v = .slice (some ⟨b, o, none⟩) s.n s.c := by rw [<- ep]; rfl
 refine ⟨w.setCells b (o + i * k + j) u.cells.toList, fun a ha => ?_, h3, fun q v hq => ?_⟩
 ·have hx' := ha.ev hx
  rw [e1] at hx'
  simp only [Bq, <- Nat.add_assoc] at hx'
  have h5 := Aet (P := P) (t := t) hs hu hone hg hwr hfit
  simp [execOp, hx', ha.ev hy, Instr.storeAt, Instr.sureAddr, h5]
 ·have hq' : q < u.cells.toList.length := (List.getElem?_eq_some_iff.1 hq).1
  rw [e1]
  simp only [Bq, World.cell?, Qu _ _ _ _ hg]
  rw [Ji _ _ _ (by rw [Array.length_toList]; exact hfit)]
  have hlen : (cur.toList.take (o + i * k + j)).length = o + i * k + j := by rw [List.length_take, Array.length_toList]; omega
  simp only [Option.isSome_none, Bool.false_eq_true, if_false, List.getElem?_toArray]
  rw [List.append_assoc, List.getElem?_append_right (by omega), hlen, show o + (i * k + (j + q)) - (o + i * k + j) = q by omega, List.getElem?_append_left hq']
  exact hq
theorem St.app2 {P : Program} {own : List As} {T : Type} {f : T -> List Ce} {L : List T} {t tx tyy e : TypeId} {size bytes : Nat} {z : Value} {s : Sv} {n' : Nat} {news : List Value} {x : Value} {M : List T} (ht : P.underlying t = some (.slice e)) (hs : Sz P e size bytes z) (h : St B (oC (Ad size f L) s.v :: (own ++ m)) rs w) (hsrc : Src P size tx x n' news w)
  (hM : M.length = n') (hl : (M.flatMap f).length = news.length) (hz : Z w own (Ao (M.flatMap f) news)) (h63 : L.length + n' <= maxLen) (hby : (L.length + n') * bytes <= 140737488355328) (hf : (L.flatMap f).length = L.length * size) :
  ∃ (s' : Sv) (w' : World), (Builtin.append_ #[t, tx] tyy #[s.v, x]).run P w = .ok s'.v w' /\ St B (oC (Ad size f (L ++ M)) s'.v :: m) rs w' /\ ∀ q v, news[q]? = some v -> w'.cell? (Bq s'.v (L.length * size + q)) = some v := by
 obtain ⟨xs, h1, h2⟩ := h.unrow
 have h2' : St B (Bf size s.v L.length xs :: (Ao (L.flatMap f) xs ++ (Ao (M.flatMap f) news ++ m))) rs w := by
  refine (St.iso (l := own) (l' := Ao (M.flatMap f) news) (m := Bf size s.v L.length xs :: (Ao (L.flatMap f) xs ++ m)) (h2.perm ?_) hz).perm ?_
  ·exact (List.perm_append_comm_assoc ..).cons _ |>.trans List.perm_middle.symm
  ·exact List.perm_middle.trans ((List.perm_append_comm_assoc ..).cons _)
 obtain ⟨s', w', hr, h3⟩ := h2'.appRow (tyy := tyy) ht hs hsrc h63 hby
 refine ⟨s', w', hr, St.rerow (xs := xs ++ news) (by rw [List.flatMap_append, List.length_append, List.length_append, h1, hl]) ?_, fun q v hq => ?_⟩
 ·rw [List.flatMap_append, J3 h1, List.append_assoc, List.length_append, hM]
  exact h3
 ·obtain ⟨F, hF⟩ := h3.at' (List.mem_cons_self ..)
  refine Ys hF (j := L.length * size + q) ?_
  rw [<- hf, h1, List.getElem?_append_right (by omega), Nat.add_sub_cancel_left]
  exact hq
theorem Afe {t : Ty} {L : List (Ax t)} {s : Sv} {i : Nat} (hi : i < L.length) : ∀ (cs : List Cell) (ls : List Leaf) (us : List Value) (j : Nat), All2 (Cell.Den ρ) cs us -> ls.length = us.length -> (∀ q x, ls[q]? = some x -> (Ay t (el L i))[j + q]? = some x) -> (∀ q u, us[q]? = some u -> w.cell? (Bq s.v (i * sz t + (j + q))) = some u) -> St B (oC (Ad (sz t) (fD t) L) s.v :: m) rs w ->
  ∃ vl, ViewsAre ρ s t L (Qy i j cs ls) vl /\ St B (oV (oC (Ad (sz t) (fD t) L) s.v) vl :: m) rs w
 | [], ls, us, j, _, _, _, _, hM => ⟨[], by cases ls <;> rfl, hM.z Z.toV⟩
 | _ :: _, _, [], _, h, _, _, _, _ => h.elim
 | _ :: _, [], _ :: _, _, _, h, _, _, _ => by simp at h
 | c :: cs, l :: ls, u :: us, j, ⟨h1, h2⟩, hn, hl, hc, hM => by
  obtain ⟨vl, k1, k2⟩ := Afe hi cs ls us (j + 1) h2 (by simpa using hn) (fun q x hq => by
   have := hl (q + 1) x (by simpa using hq)
   rwa [show j + (q + 1) = j + 1 + q by omega] at this) (fun q v hq => by
   have := hc (q + 1) v (by simpa using hq)
   rwa [show j + (q + 1) = j + 1 + q by omega] at this) hM
  unfold Qy
  split
  ·rename_i hh t0 L0
   obtain ⟨s0, s1, rfl⟩ := h1
   have h0 := hl 0 _ rfl
   have hc0 := hc 0 _ rfl
   rw [Nat.add_zero] at h0 hc0
   obtain ⟨s', hM', hcell⟩ := k2.leafV (C1 t) hi (j := j) (L' := L0) (k' := sz t0) (f' := fD t0) (by rw [Dc, List.getElem?_map, h0]; rfl)
   have e := hcell w (Rel.refl w)
   rw [hc0] at e
   obtain rfl : s0 = s' := Afl (Option.some.inj e)
   exact ⟨_, ⟨[_, _], vl, rfl, ⟨s0, _, s1, ⟨hi, h0, rfl⟩, rfl⟩, k1⟩, hM'⟩
  ·exact ⟨vl, k1, k2⟩
theorem St.stH {P : Program} {n : Nat} {ty : TypeId} {pos : String} {af : Array Edge} {T : Type} {k : Nat} {f : T -> List Ce} {L : List T} [Inhabited T] {t : TypeId} {x y : Operand} {s q0 : Sv} {u : Value} {bytes : Nat} {z : Value} {i j : Nat} {c' : Ce} (a : T) (hs : Sz P t 1 bytes z) (hf : ∀ x, (f x).length = k) (hx : ev env x = some (.pointer (some (Bq s.v (i * k + j))))) (hy : ev env y = some u) (hone : u.oneCell' = true) (hcs : u.cells = #[u]) (hi : i < s.n) (hj : j < k) (ha : f a = (f (el L i)).set j c')
  (hM : St B (Hz k f L s.v (i * k + j) q0.v :: oC c' u :: m) rs w) : ∃ w', RunsU P n env w ⟨none, .store t x y, ty, pos, af, none⟩ w' /\ St B (oC (Ad k f (L.set i a)) s.v :: m) rs w' := by
 obtain ⟨L1, a1, a2, a3⟩ := Aqz (f := f) (L := L) (v := s.v) (q := i * k + j) (u := q0.v) rfl hf
 have hM1 : St B (oC (Ad k Subtype.val L1) s.v :: ([oC c' u] ++ m)) rs w := St.iso (l := [Hz k f L s.v (i * k + j) q0.v]) (l' := [oC (Ad k Subtype.val L1) s.v]) hM fun F ⟨h0, F1, F2, f1, f⟩ => ⟨h0, F1, F2, a3 F1 w f1, f⟩
 have hlen := Atz (hM1.seeO (List.mem_cons_self ..))
 have hi1 : i < L1.length := by omega
 have hi2 : i < L.length := by omega
 have hl1 : (el L1 i).val.length = k := (el L1 i).property
 obtain ⟨w', hr, hM2⟩ := St.stE (P := P) (n := n) (ty := ty) (pos := pos) (af := af) (f := Subtype.val) (⟨(el L1 i).val.set j c', by rw [List.length_set]; exact hl1⟩ : Ck k) [c'] hs (fun x => x.property) hx hy hi1 (by rw [hcs]; rfl) (by rw [hcs]; rfl) (Nat.ble_eq_true_of_le (by rw [hcs]; exact hj)) (by rw [hcs]; simp [hone]) (by
  rw [hcs]
  exact Ae6 (by rw [hl1]; exact hj)) (fun w => by rw [hcs]; exact zI) hM1
 refine ⟨w', hr, hM2.z fun F hF => ?_⟩
 obtain ⟨h0, F1, F2, ⟨xs, f1, f2⟩, f9⟩ := hF
 have e1 : (L1.set i (⟨(el L1 i).val.set j c', by rw [List.length_set]; exact hl1⟩ : Ck k)).flatMap Subtype.val = (L.set i a).flatMap f := by
  rw [Abx (f := Subtype.val) (fun x : Ck k => x.property) L1 i j c' _ hi1 hj rfl, a2, List.set_set, Abx hf L i j c' a hi2 hj ha]
 refine ⟨h0, F1, F2, ⟨xs, by rw [<- e1]; exact f1, ?_⟩, f9⟩
 rw [<- e1, List.length_set, <- a1]
 rw [List.length_set] at f2
 exact f2
theorem Bbl {u : Value} (h : u.oneCell' = true) : u.cells = #[u] := by
 cases u <;> first | rfl | cases h
theorem Bf2 {K : SSt -> Option R} (hs : Sat B amb ρ st env w) {h0 k i j : Nat} {c : Cell} (h : Afg st h0 k i j c K = some r) {t : TypeId} {x y : Operand} {s : Sv} {u : Value} {bytes : Nat} {z : Value} (hz : Sz Tryz.prog t 1 bytes z) (hx : ev env x = some (.pointer (some (Bq s.v (i * k + j))))) (hy : ev env y = some u) (hd : c.Den ρ u) (hh : ρ[h0]? = some (.row s)) (hi : i < s.n) : StOk B amb ρ st env w (.store t x y) K r := fun n ty pos af => by
 unfold Afg at h
 split at h
 ·rename_i d own ho
  have hb := (bt h).1; replace h := (bt h).2
  simp only [Bool.and_eq_true] at hb
  have b1 := Nat.eq_of_beq_eq_true hb.1.1
  have b2 := Nat.eq_of_beq_eq_true hb.1.2
  have b3 : j < k := by simpa using hb.2
  subst b1
  split at h
  ·rename_i e he
   split at h
   ·rename_i l own' hl
    split at h
    ·rename_i a ha
     have hg := (Bp h).1; replace h := (Bp h).2
     obtain ⟨m, rs, h1, h2, h3, hM⟩ := hs.mem
     obtain ⟨l1, q, q0, m', k1, k2, k3⟩ := Aqy ho h1
     rw [hh] at k1; cases k1
     obtain ⟨l2, m2, k4, k5⟩ := Adx hl hd k2
     rw [b2, hg] at k3
     have hM' := (hM.z (k3 w)).z (k5 w).cons
     have hone := hd.one
     have hjl : j < (Ay d.t (el d.L i)).length := by rw [Fm]; exact b3
     obtain ⟨w', hr, hM2⟩ := St.stH (P := Tryz.prog) (n := n) (ty := ty) (pos := pos) (af := af) a hz (C1 d.t) hx hy hone (Bbl hone) hi b3 (c' := l.ce) (by
      have hsp : splice (Ay d.t (el d.L i)) j [l] = (Ay d.t (el d.L i)).set j l := (Ae6 hjl).symm
      rw [Dc, D5 ha, Dc, hsp, List.map_set]) hM'
     exact ⟨w', hr, _, _, h, Ext.one ρ _, hs.rowAt hh k4 h2 h3 hM2, Grow.fresh rfl (l1.trans l2), rfl⟩
    ·cases h
   ·cases h
  ·cases h
 ·cases h
theorem Au4 {K : SSt -> Option R} (hs : Sat B amb ρ st env w) {t : TypeId} {x y : Operand} (h : Y7 st t x y K = some r) : StOk B amb ρ st env w (.store t x y) K r := fun n ty pos af => by
 unfold Y7 at h
 split at h
 ·rename_i q o v ti hx hy ht
  obtain ⟨_, z, hz, _⟩ := Ey ht
  obtain ⟨u, u1, b, u2, rfl⟩ := hs.env.evC hx
  obtain ⟨v', v1, v2⟩ := hs.env.ev1 hy
  have v3 := v2.cells
  have hv := v3.len
  rw [Array.length_toList] at hv
  split at h
  ·rename_i cs own hb
   have hc := (bt h).1; replace h := (bt h).2
   simp only [Bool.and_eq_true] at hc
   have c1 := Nat.eq_of_beq_eq_true hc.1
   have c2 : o + ti.size <= cs.length := Nat.le_of_ble_eq_true hc.2
   have hsz : v'.cells.size = ti.size := by rw [<- Array.length_toList, <- v3.len]; exact c1
   obtain ⟨g, hb'⟩ := Ajx hb
   obtain ⟨m, rs, h1, h2, h3, hM⟩ := hs.mem
   obtain ⟨l1, _, b', e, vs, m', k1, k2, k3, k4⟩ := J7 hb' h1
   rw [u2] at k1; cases k1
   have hl := k2.len
   simp only at hl
   obtain ⟨w', r1, r2⟩ := St.stB (P := Tryz.prog) (n := n) (ty := ty) (pos := pos) (af := af) (cs' := (splice vs o v'.cells.toList).toArray) hz u1 v1 hsz (Pl v3) (Nat.ble_eq_true_of_le (by rw [Array.length_toList, hsz]; simpa using (by omega : o + ti.size <= vs.length))) (by simp [splice]) (hM.z (k4 w))
   exact ⟨w', r1, _, _, h, Ext.one ρ _, hs.box u2 k3 h2 h3 (k2.splice v3) r2, Grow.fresh rfl l1, rfl⟩
  ·cases h
 ·rename_i q k i j v ti hx hy ht
  obtain ⟨_, z, hz, _⟩ := Ey ht
  obtain ⟨u, u1, s, u2, rfl, u3, p1, p2, u4⟩ := hs.env.evC hx
  obtain ⟨v', v1, v2⟩ := hs.env.ev1 hy
  have v3 := v2.cells
  have hv := v3.len
  rw [Array.length_toList] at hv
  split at h
  ·split at h
   ·rename_i cc
    have b1 := Nat.eq_of_beq_eq_true (bt h).1; replace h := (bt h).2
    have v4 : cc.Den ρ v' := v2
    rw [b1] at hz
    exact Bf2 hs h hz u1 v1 v4 u2 u3 n ty pos af
   ·cases h
  split at h
  ·rename_i c own hc
   have hb := (bt h).1; replace h := (bt h).2
   simp only [Bool.and_eq_true] at hb
   have b1 := Nat.eq_of_beq_eq_true hb.1.1
   have b2 := Nat.eq_of_beq_eq_true hb.1.2
   have b3 : j + ti.size <= k := Nat.le_of_ble_eq_true hb.2
   subst b1
   have hsz : v'.cells.size = ti.size := by rw [<- Array.length_toList, <- v3.len]; exact b2
   split at h
   ·rename_i ls own' ho
    split at h
    ·rename_i a ha
     obtain ⟨m, rs, h1, h2, h3, hM⟩ := hs.mem
     obtain ⟨l1, s', m', k1, k2, k3⟩ := Of hc h1
     rw [u2] at k1; cases k1
     obtain ⟨l2, l3, m2, k4, k5⟩ := Ie ho v3 k2
     have hM' := hM.z (k3 w)
     have hlen := Atz (hM'.seeO (List.mem_cons_self ..))
     have hsp : j + ls.length <= (Ay c.t (el c.L i)).length := by
      rw [Fm]; have := l3; simp only at this; rw [this, Array.length_toList, hsz]; exact b3
     have hi : i < c.L.length := by have := hlen; simp only at this; omega
     have hfa : fD c.t a = (fD c.t (el c.L i)).take j ++ ls.map Leaf.ce ++ (fD c.t (el c.L i)).drop (j + v'.cells.toList.length) := by
      rw [Dc, D5 ha, Dc]
      unfold splice
      rw [l3]
      simp
     obtain ⟨w', hr, hM2, hcell⟩ := St.stE2 (P := Tryz.prog) (n := n) (ty := ty) (pos := pos) (af := af) a (ls.map Leaf.ce) hz (C1 c.t) u1 v1 hi hsz (by rw [List.length_map]; exact l3) (Nat.ble_eq_true_of_le (by rw [Array.length_toList, hsz]; exact b3)) (Pl v3) hfa (fun w => zI) (hM'.z (k5 w).cons)
     have hel : el (c.L.set i a) i = a := by
      rw [G9 (by rw [List.length_set]; exact hi)]; simp
     obtain ⟨vl, q1, q2⟩ := Afe (t := c.t) (L := c.L.set i a) (s := s) (i := i) (by rw [List.length_set]; exact hi) v.cells ls v'.cells.toList j v3 (by rw [l3]) (fun q x hq => by
      rw [hel, D5 ha]
      have hq' : q < ls.length := (List.getElem?_eq_some_iff.1 hq).1
      unfold splice
      rw [List.append_assoc, List.getElem?_append_right (by rw [List.length_take]; omega), List.length_take, show j + q - min j (Ay c.t (el c.L i)).length = q by omega, List.getElem?_append_left hq']
      exact hq) (fun q u hq => hcell q u hq) hM2
     have hx' := Ext.one ρ (.num 0)
     refine ⟨w', hr, _, _, h, hx', ⟨by simp [hs.len], hs.env.mono hx', oV (oC (Ad (sz c.t) (fD c.t) (c.L.set i a)) s.v) vl :: m2, rs, ⟨⟨s, vl, hx'.get u2, q1.mono hx', rfl⟩, OwnOk.mono hx' (fun _ h => h) k4⟩, h2.mono hx' fun _ h => h, h3, q2⟩, Grow.fresh rfl (l1.trans l2), rfl⟩
    ·cases h
   ·cases h
  ·cases h
 ·cases h
theorem Bf3 {K : SSt -> Option R} (hs : Sat B amb ρ st env w) {t : TypeId} {x y : Operand} (h : Afh st t x y K = some r) : StOk B amb ρ st env w (.store t x y) K r := by
 unfold Afh at h
 split at h
 ·rename_i v _ hy
  obtain ⟨ρ1, a1, a2, a3, a4⟩ := X9 (l := v.cells) hs
  intro n ty pos af
  obtain ⟨w', hr, st', ρ', b1, b2, b3, b4, b5⟩ := Au4 a2 h n ty pos af
  exact ⟨w', hr, st', ρ', b1, a1.trans b2, b3, a3.trans b4, b5.trans a4⟩
 ·exact Au4 hs h
theorem Ape {se : List (Nat × Option SV)} {d : Nat} {o : Operand} {sv : SV} (h : evS ((d, none) :: se) o = some sv) : evS se o = some sv := by
 cases o with
 | tmp t =>
  simp only [evS, Ap] at h ⊢
  cases hb : Nat.beq d t with
  | true => rw [hb] at h; cases h
  | false => rw [hb] at h; exact h
 | _ => exact h
theorem Apb {se : List (Nat × Option SV)} {d : Nat} {o : Operand} {x : V1} (h : ev1 ((d, none) :: se) o = some x) : ev1 se o = some x := by
 unfold ev1 at h ⊢
 split at h
 ·rename_i y hy; cases h; rw [Ape hy]
 ·cases h
variable {n : Nat} {ops rest : List Oper} {Q : Post}
theorem Bck {K : SV -> SSt -> Option R} (hs : Sat B amb ρ st env w) {t : TypeId} {x y : Operand} {d1 d2 : Nat} (hd1 : Nat.blt d1 n = true) (hd2 : Nat.blt d2 n = true) {ty ty2 : TypeId} {pos pos2 : String} {af af2 : Array Edge} {aops : Array Oper}
  (h : Aec { st with env := (d1, none) :: st.env } t x y K = some r)
  (hk : ∀ u v w' sv st' ρ', K sv st' = some r -> Ext ρ ρ' -> Sat B amb ρ' st' ((d1, u) :: env) w' -> sv.Den ρ' v -> Grow st st' -> st'.env = (d1, none) :: st.env -> WL Tryz.prog n aops rest Q ((d2, v) :: (d1, u) :: env) w') :
  WL Tryz.prog n aops (⟨some d1, .buildSlice t 1 #[(0, x)], ty, pos, af, none⟩ :: ⟨some d2, .call ⟨.builtin .append, #[y, .tmp d1], #[t, t]⟩, ty2, pos2, af2, none⟩ :: rest) Q env w := by
 unfold Aec at h
 split at h
 ·rename_i v cy e ei te hx hy ht
  have hc := (bt h).1; replace h := (bt h).2
  simp only [Bool.and_eq_true] at hc
  have hs' : ∀ u, Sat B amb ρ { st with env := (d1, none) :: st.env } ((d1, u) :: env) w := fun u => ⟨hs.len, hs.env.none d1, hs.mem⟩
  obtain ⟨t1, _, z, hz, _⟩ := I3 ht
  obtain ⟨u, u1, u2⟩ := hs.env.ev1 (Apb hx)
  obtain ⟨c, c1, c2⟩ := (hs' .nilFunc).env.evC hy
  have u3 := u2.cells
  have hsz := Nat.eq_of_beq_eq_true hc.1.2
  rw [<- hsz] at hz
  have hsv : ∀ (s : Sv) u, c = s.v -> ev ((d1, u) :: env) y = some s.v := fun s u e => by
   subst e
   obtain ⟨c', g1, g2⟩ := (hs' u).env.evC hy
   rw [g1]
   cases y with
   | tmp q =>
    simp only [ev, lk] at g1 c1
    cases hq : Nat.beq d1 q with
    | true => simp [evC, evS, Ap, hq] at hy
    | false => rw [hq] at g1 c1; simp only [cond_false] at g1 c1; rw [<- g1, c1]
   | _ => rw [<- g1]; exact c1
  unfold Yh at h
  split at h
  ·rename_i L own a hL ha
   have hb := (Bp h).1; replace h := (Bp h).2
   obtain ⟨q1, q2, q3⟩ := Qs (l := v.cells) (hs' .nilFunc)
   obtain ⟨m, rs, h1, h2, h3, hM⟩ := q1.mem
   obtain ⟨l1, s, xs, m', rs', e0, hr, k2, k3, k4⟩ := Ae7 hL c2 h1 hM
   have hrd := Aem (h2.mono (Ext.refl ρ) hr) ha u3
   have hl : u.cells.toList.length = sz te := by
    have := Ob (hrd (al w) w fun r hr' => k3.sees.1 r hr')
    rw [this, C1]
   refine Av4 (L := L) a hd1 hd2 t1 hz u1 (by simpa using hl) (by rw [hsz]; exact hc.2) (fun u => hsv s u e0) k3 k4 hrd (Pl u3) hb hc.1.1 fun u s' xs' w' hM2 => ?_
   have hx1 : ∀ r ∈ rs', r ∈ rX xs' ((L ++ [a]).flatMap (fD te)) :: rs' := fun _ h => List.mem_cons_of_mem _ h
   have q1' : Sat B amb ρ (Gf v.cells { st with env := (d1, none) :: st.env }) ((d1, u) :: env) w := ⟨q1.len, by rw [q3]; exact (hs' u).env, q1.mem⟩
   have hsat := q1'.sha (L := L ++ [a]) (OwnOk.mono (Ext.refl ρ) hx1 k2) (h2.mono (Ext.refl ρ) fun r h => hx1 r (hr r h)) (fun r h => hx1 r (hr r (h3 r h))) (List.mem_cons_self ..) hM2
   rw [Oj] at hsat
   have hg := Grow.sha q2 Oj (L := L ++ [a]) l1
   exact hk u s'.v w' _ _ _ h (Ext.one ρ _) hsat (hs.rowDen s') ⟨hg.nxt, hg.own, hg.rds⟩ q3
  ·cases h
 ·cases h
theorem Bcl {K : SV -> SSt -> Option R} (hs : Sat B amb ρ st env w) {t : TypeId} {x y : Operand} {d1 d2 : Nat} (hd1 : Nat.blt d1 n = true) (hd2 : Nat.blt d2 n = true) {ty ty2 : TypeId} {pos pos2 : String} {af af2 : Array Edge} {aops : Array Oper}
  (h : Yg { st with env := (d1, none) :: st.env } t x y K = some r)
  (hk : ∀ u v w' sv st' ρ', K sv st' = some r -> Ext ρ ρ' -> Sat B amb ρ' st' ((d1, u) :: env) w' -> sv.Den ρ' v -> Grow st st' -> st'.env = (d1, none) :: st.env -> WL Tryz.prog n aops rest Q ((d2, v) :: (d1, u) :: env) w') :
  WL Tryz.prog n aops (⟨some d1, .buildSlice t 1 #[(0, x)], ty, pos, af, none⟩ :: ⟨some d2, .call ⟨.builtin .append, #[y, .tmp d1], #[t, t]⟩, ty2, pos2, af2, none⟩ :: rest) Q env w := by
 unfold Yg at h
 split at h
 ·rename_i v cy e ei te hx hy ht
  have hc := (bt h).1; replace h := (bt h).2
  simp only [Bool.and_eq_true] at hc
  have hs' : ∀ u, Sat B amb ρ { st with env := (d1, none) :: st.env } ((d1, u) :: env) w := fun u => ⟨hs.len, hs.env.none d1, hs.mem⟩
  obtain ⟨t1, _, z, hz, _⟩ := I3 ht
  obtain ⟨u, u1, u2⟩ := hs.env.ev1 (Apb hx)
  obtain ⟨c, c1, c2⟩ := (hs' .nilFunc).env.evC hy
  have u3 := u2.cells
  have hsz := Nat.eq_of_beq_eq_true hc.1.2
  rw [<- hsz] at hz
  have hsv : ∀ (s : Sv) u, c = s.v -> ev ((d1, u) :: env) y = some s.v := fun s u e => by
   subst e
   obtain ⟨c', g1, g2⟩ := (hs' u).env.evC hy
   rw [g1]
   cases y with
   | tmp q =>
    simp only [ev, lk] at g1 c1
    cases hq : Nat.beq d1 q with
    | true => simp [evC, evS, Ap, hq] at hy
    | false => rw [hq] at g1 c1; simp only [cond_false] at g1 c1; rw [<- g1, c1]
   | _ => rw [<- g1]; exact c1
  split at h
  ·rename_i L vs a own ho
   have hb := (Bp h).1; replace h := (Bp h).2
   unfold Ati at ho
   obtain ⟨p, hL, ho⟩ := Af ho
   obtain ⟨q, ho2, ho⟩ := Af ho
   obtain ⟨a', ha, ho⟩ := Af ho
   cases ho
   obtain ⟨m, rs, h1, h2, h3, hM⟩ := hs.mem
   obtain ⟨l1, s, m', e0, k2, k3⟩ := Aa6 hL c2 h1
   obtain ⟨l2, l3, m2, k4, k5⟩ := Ie ho2 u3 k2
   have hf : fD te a = q.1.map Leaf.ce := by rw [Dc, D5 ha]
   have hl : u.cells.toList.length = sz te := by rw [<- l3, <- Fm te a, D5 ha]
   have hb1 := At4 (P := Tryz.prog) (w := w) t1 hz (by simpa using hl) (by rw [hsz]; exact hc.2)
   have hby' : ei.bytes <= 127 := by simpa using hc.1.1
   refine wv hd1 (v := .slice (some ⟨w.heap.size, 0, none⟩) 1 1) (w' := w.alloc (.cells u.cells e)) (fun a ha => by simp [execOp, ha.ev u1, hb1]) ?_
   have hM1 := ((hM.z (k3 w)).z (k5 w).cons).call (Rel.alloc w (.cells u.cells e))
   have hbox : (w.alloc (.cells u.cells e)).heap[w.heap.size]? = some (.cells u.cells e (0, 0)) := heap_alloc_new w _
   have hsrc : Src Tryz.prog (sz te) t (.slice (some ⟨w.heap.size, 0, none⟩) 1 1) 1 u.cells.toList (w.alloc (.cells u.cells e)) :=
    Src.ofSlice _ t1 _ _ _ _ (by rw [hl]; simp) (fun j v hj => by
     rw [Addr.add_lit, Nat.zero_add]
     rw [Array.getElem?_toList] at hj
     simp only [World.cell?, hbox, Option.isSome_none, Bool.false_eq_true, if_false, hj]) (fun v hv => List.all_eq_true.1 (Pl u3) v hv)
   obtain ⟨s', w', hr, hM2, hcell⟩ := St.app2 (own := Ao (q.1.map Leaf.ce) u.cells.toList) (tyy := ty2) (M := [a]) (f := fD te) t1 hz hM1 hsrc rfl (by simp [C1, hl]) (by rw [List.flatMap_cons, List.flatMap_nil, List.append_nil, hf]; exact zI) (by simp only [maxLen]; omega) (by
    have := Nat.mul_le_mul (show p.1.length + 1 <= 1099511627776 by omega) hby'
    omega) (Kd (C1 te) p.1)
   have hel : el (p.1 ++ [a]) p.1.length = a := by rw [G9 (by simp)]; simp
   have h1' : OwnOk ρ rs q.2 m2 := k4
   obtain ⟨vl, q1, q2⟩ := Afe (t := te) (L := p.1 ++ [a]) (s := s') (i := p.1.length) (by simp) v.cells q.1 u.cells.toList 0 u3 (by rw [l3]) (fun j x hj => by
    rw [hel, D5 ha, Nat.zero_add]; exact hj) (fun j x hj => by rw [Nat.zero_add]; exact hcell j x hj) hM2
   refine wv hd2 (v := s'.v) (w' := w') (fun a ha => ?_) ?_
   ·have e1 := ha.ev (hsv s _ e0)
    have e2 : a.eval (.tmp d1) = .slice (some ⟨w.heap.size, 0, none⟩) 1 1 := ha.ev (x := .tmp d1) (by simp [ev, lk])
    simp [execOp, resolve, invoke, builtin, e1, e2, hr]
   have hx := Ext.one ρ (.row s')
   have hlast := Di ρ (.row s')
   rw [hs.len] at hlast
   exact hk _ s'.v w' _ _ _ h hx ⟨by simp [hs.len], (hs' _).env.mono hx, oV (oC (Ad (sz te) (fD te) (p.1 ++ [a])) s'.v) vl :: m2, rs, ⟨⟨s', vl, hlast, q1.mono hx, rfl⟩, OwnOk.mono hx (fun _ h => h) h1'⟩, h2.mono hx fun _ h => h, h3, q2⟩ (hs.rowDen s') (Grow.env (Grow.fresh (st := st) rfl (l1.trans l2)) st.env _) rfl
  ·unfold Yh at h
   split at h
   ·rename_i L own a hL ha
    have hb := (Bp h).1; replace h := (Bp h).2
    obtain ⟨q1, q2, q3⟩ := Qs (l := v.cells) (hs' .nilFunc)
    obtain ⟨m, rs, h1, h2, h3, hM⟩ := q1.mem
    obtain ⟨l1, s, xs, m', rs', e0, hr, k2, k3, k4⟩ := Ae7 hL c2 h1 hM
    have hrd := Aem (h2.mono (Ext.refl ρ) hr) ha u3
    have hl : u.cells.toList.length = sz te := by
     have := Ob (hrd (al w) w fun r hr' => k3.sees.1 r hr')
     rw [this, C1]
    refine Av4 (L := L) a hd1 hd2 t1 hz u1 (by simpa using hl) (by rw [hsz]; exact hc.2) (fun u => hsv s u e0) k3 k4 hrd (Pl u3) hb hc.1.1 fun u s' xs' w' hM2 => ?_
    have hx1 : ∀ r ∈ rs', r ∈ rX xs' ((L ++ [a]).flatMap (fD te)) :: rs' := fun _ h => List.mem_cons_of_mem _ h
    have q1' : Sat B amb ρ (Gf v.cells { st with env := (d1, none) :: st.env }) ((d1, u) :: env) w := ⟨q1.len, by rw [q3]; exact (hs' u).env, q1.mem⟩
    have hsat := q1'.sha (L := L ++ [a]) (OwnOk.mono (Ext.refl ρ) hx1 k2) (h2.mono (Ext.refl ρ) fun r h => hx1 r (hr r h)) (fun r h => hx1 r (hr r (h3 r h))) (List.mem_cons_self ..) hM2
    rw [Oj] at hsat
    have hg := Grow.sha q2 Oj (L := L ++ [a]) l1
    exact hk u s'.v w' _ _ _ h (Ext.one ρ _) hsat (hs.rowDen s') ⟨hg.nxt, hg.own, hg.rds⟩ q3
   ·cases h
 ·cases h
theorem Bbv {o : Operand} : ∀ {st : SSt} {e : List (Nat × Option SV)}, evC e o = evC st.env o -> Hf o { st with env := e } = { Hf o st with env := e } := fun {st e} he => by
 have hH : ∀ (h : Nat) (st : SSt), L7 h { st with env := e } = { L7 h st with env := e } := fun h st => by
  unfold L7
  simp only
  split <;> rfl
 have hC : ∀ (l : List Cell) (st : SSt), Ic l { st with env := e } = { Ic l st with env := e } := fun l => by
  induction l with
  | nil => intro st; rfl
  | cons c l ih =>
   intro st
   unfold Ic
   split
   ·rw [hH]; exact ih _
   ·exact ih _
 unfold Hf
 simp only
 rw [he]
 split
 ·exact hC _ _
 ·rfl
theorem A03 {se : List (Nat × Option SV)} {d : Nat} {o : Operand} {x : Cell} (h : evC ((d, none) :: se) o = some x) : evC se o = some x := by
 unfold evC at h ⊢
 split at h
 ·rename_i y hy; cases h; rw [Ape hy]
 ·cases h
theorem Bcm {K : SV -> SSt -> Option R} (hs : Sat B amb ρ st env w) {t : TypeId} {x y : Operand} {d1 d2 : Nat} (hd1 : Nat.blt d1 n = true) (hd2 : Nat.blt d2 n = true) {ty ty2 : TypeId} {pos pos2 : String} {af af2 : Array Edge} {aops : Array Oper}
  {sh : Bool} (h : Aed sh { st with env := (d1, none) :: st.env } t x y K = some r)
  (hk : ∀ u v w' sv st' ρ', K sv st' = some r -> Ext ρ ρ' -> Sat B amb ρ' st' ((d1, u) :: env) w' -> sv.Den ρ' v -> Grow st st' -> st'.env = (d1, none) :: st.env -> WL Tryz.prog n aops rest Q ((d2, v) :: (d1, u) :: env) w') :
  WL Tryz.prog n aops (⟨some d1, .buildSlice t 1 #[(0, x)], ty, pos, af, none⟩ :: ⟨some d2, .call ⟨.builtin .append, #[y, .tmp d1], #[t, t]⟩, ty2, pos2, af2, none⟩ :: rest) Q env w := by
 unfold Aed at h
 cases sh with
 | true => exact Bck hs hd1 hd2 h hk
 | false =>
 simp only [cond_false] at h
 cases hy : evC ((d1, none) :: st.env) y with
 | none =>
  exfalso
  unfold Yg at h
  have : (Hf y { st with env := (d1, none) :: st.env }).env = (d1, none) :: st.env := by unfold Hf; simp only; rw [hy]
  rw [this, hy] at h
  split at h
  ·rename_i h9 _; cases h9
  ·cases h
 | some c =>
  rw [Bbv (by rw [hy, A03 hy])] at h
  obtain ⟨ρ1, a1, a2, a3, a4⟩ := As5 hs y
  rw [<- a4] at h
  refine Bcl a2 hd1 hd2 h fun u v w' sv st' ρ' k1 k2 k3 k4 k5 k6 => hk u v w' sv st' ρ' k1 (a1.trans k2) k3 k4 (a3.trans k5) ?_
  rw [k6, a4]
end
end
section
open Go.RowKit
def Mb (t : Ty) (vs : List Value) : Value := bif Ix t then .agg vs.toArray else vs.headD .nilFunc
abbrev Bx := Nat × TypeId × List Value
inductive PIn (S : Bs) (w : World) : (ps : List PK) -> PArgs ps -> List Value -> List Value -> List As -> List Bx -> Prop
 | nil : PIn S w [] () [] [] [] []
 | ro {t : Ty} {ps : List PK} {x : Ax t} {q : PArgs ps} {vs vals caps : List Value} {own : List As} {bx : List Bx} (h : Br S w (fD t x) vs) (k : PIn S w ps q vals caps own bx) : PIn S w (.val false t :: ps) (x, q) (Mb t vs :: vals) caps own bx
 | ow {t : Ty} {ps : List PK} {x : Ax t} {q : PArgs ps} {vs vals caps : List Value} {own : List As} {bx : List Bx} (h : vs.length = sz t) (k : PIn S w ps q vals caps own bx) : PIn S w (.val true t :: ps) (x, q) (Mb t vs :: vals) caps (Ao (fD t x) vs ++ own) bx
 | bo {t : Ty} {ps : List PK} {x : Ax t} {q : PArgs ps} {b : Nat} {e : TypeId} {vs vals caps : List Value} {own : List As} {bx : List Bx} (h : vs.length = sz t) (k : PIn S w ps q vals caps own bx) : PIn S w (.box .ow t :: ps) (x, q) (pt b 0 :: vals) caps (Aw b vs.toArray e :: (Ao (fD t x) vs ++ own)) ((b, e, vs) :: bx)
 | ea {t : Ty} {ps : List PK} {x : Ax t} {q : PArgs ps} {b : Nat} {e : TypeId} {vs vals caps : List Value} {own : List As} {bx : List Bx} (h : vs.length = sz t) (k : PIn S w ps q vals caps own bx) : PIn S w (.eat t :: ps) (x, q) (pt b 0 :: vals) caps (Aw b vs.toArray e :: (Ao (fD t x) vs ++ own)) bx
 | li {t : Ty} {ps : List PK} {x : Ax t} {q : PArgs ps} {b : Nat} {e : TypeId} {vs vals caps : List Value} {own : List As} {bx : List Bx} (h : vs.length = sz t) (k : PIn S w ps q vals caps own bx) : PIn S w (.lit t :: ps) (x, q) (Sv.v ⟨some ⟨b, 0, none⟩, 1, 1⟩ :: vals) caps (Aw b vs.toArray e :: (Ao (fD t x) vs ++ own)) bx
 | br {mm : BM} (hm : mm.isOw = false) {t : Ty} {ps : List PK} {x : Ax t} {q : PArgs ps} {b : Nat} {e : TypeId} {vs vals caps : List Value} {own : List As} {bx : List Bx} (h : Br S w (fD t x) vs) (k : PIn S w ps q vals caps own bx) : PIn S w (.box mm t :: ps) (x, q) (pt b 0 :: vals) caps (Aw b vs.toArray e :: own) ((b, e, vs) :: bx)
 | fn {f n : Nat} {ps : List PK} {q : PArgs ps} {cs vals caps : List Value} {own : List As} {bx : List Bx} (h : cs.length = n) (k : PIn S w ps q vals (caps ++ cs) own bx) : PIn S w (.fn f n :: ps) q (.func (.func f) #[] cs.toArray :: vals) caps own bx
 | co {t : Ty} {ps : List PK} {x : Ax t} {q : PArgs ps} {b : Nat} {e : TypeId} {vs vals caps : List Value} {own : List As} {bx : List Bx} (h : vs.length = sz t) (k : PIn S w ps q vals caps own bx) : PIn S w (.cap .ow t :: ps) (x, q) vals (pt b 0 :: caps) (Aw b vs.toArray e :: (Ao (fD t x) vs ++ own)) ((b, e, vs) :: bx)
 | cr {mm : BM} (hm : mm.isOw = false) {t : Ty} {ps : List PK} {x : Ax t} {q : PArgs ps} {b : Nat} {e : TypeId} {vs vals caps : List Value} {own : List As} {bx : List Bx} (h : Br S w (fD t x) vs) (k : PIn S w ps q vals caps own bx) : PIn S w (.cap mm t :: ps) (x, q) vals (pt b 0 :: caps) (Aw b vs.toArray e :: own) ((b, e, vs) :: bx)
def F7 : List PK -> List BM
 | [] => []
 | .box m _ :: r => m :: F7 r
 | .cap m _ :: r => m :: F7 r
 | _ :: r => F7 r
def RPack : List RK -> List (List Leaf) -> List Value -> List As -> List Rd -> Prop
 | [], [], vals, own, rds => vals = [] /\ own = [] /\ rds = []
 | k :: ks, l :: ls, vals, own, rds => ∃ vs vals' own' rds' bo, vs.length = l.length /\ l.length = sz k.t /\ RPack ks ls vals' own' rds' /\ (bif k.bx then ∃ b e, vals = pt b 0 :: vals' /\ bo = [Aw b (List.toArray vs) e] else vals = Mb k.t vs :: vals' /\ bo = []) /\ (bif k.own then own = bo ++ (Ao (l.map Leaf.ce) vs ++ own') /\ rds = rds' else own = bo ++ own' /\ rds = rX vs (l.map Leaf.ce) :: rds')
 | _, _, _, _, _ => False
def OPack : List Bx -> List BM -> List (List Leaf) -> List As -> List Rd -> Prop
 | [], [], [], own, rds => own = [] /\ rds = []
 | (b, _, _) :: bx, .ow :: ms, l :: ls, own, rds => ∃ vs own' e, vs.length = l.length /\ own = Aw b (List.toArray vs) e :: (Ao (l.map Leaf.ce) vs ++ own') /\ OPack bx ms ls own' rds
 | (b, _, _) :: bx, .rd :: ms, l :: ls, own, rds => ∃ vs own' rds' e, vs.length = l.length /\ own = Aw b (List.toArray vs) e :: own' /\ rds = rX vs (l.map Leaf.ce) :: rds' /\ OPack bx ms ls own' rds'
 | (b, _, vs) :: bx, .lo :: ms, ls, own, rds => ∃ own' e, own = Aw b (List.toArray vs) e :: own' /\ OPack bx ms ls own' rds
 | _, _, _, _, _ => False
def Left (c : Con) (bx : List Bx) (r : PRes c.ps c.rs) (vs : List Value) (own : List As) (rds : List Rd) : Prop :=
 ∃ lsR lsO own1 own2 rds1 rds2, Gh _ r = lsR ++ lsO /\ RPack c.rs lsR vs own1 rds1 /\ OPack bx (F7 c.ps) lsO own2 rds2 /\ own = own1 ++ own2 /\ rds = rds1 ++ rds2
def Holds (amb : List Rd) (c : Con) : Prop := ∀ (w : World) (X S : Bs) (a : PArgs c.ps) (vals : List Value) (own : List As) (bx : List Bx) (r : PRes c.ps c.rs),
 PIn S w c.ps a vals [] own bx -> Sep own X w -> SX X S w -> (∀ r ∈ amb, r.ok S w) -> c.x a = some r ->
  Ret Tryz.prog c.f vals w fun u w' => ∃ vs own' rds, u = Gy vs /\ Left c bx r vs own' rds /\ Gives X S w own' rds w'
section
variable {ρ ρ' : List HV} {rs rs' : List Rd} {B : Base} {amb : List Rd} {st : SSt} {env : Env} {w : World} {m : List As} {R : Type} {r : R} {K : SV -> SSt -> Option R}
theorem Vt {t : Ty} {v : V1} {cs : List Cell} {u : Value} (h : Ng t v = some cs) (hd : v.Den ρ u) : ∃ vs, u = Mb t vs /\ All2 (Cell.Den ρ) cs vs := by
 unfold Ng at h
 split at h
 ·cases hb : Ix t with
  | true => rw [hb] at h; cases h
  | false => rw [hb] at h; cases h; exact ⟨[u], by simp [Mb, hb], hd, trivial⟩
 ·cases hb : Ix t with
  | true => rw [hb] at h; cases h; obtain ⟨vs, h1, rfl⟩ := hd; exact ⟨vs, by simp [Mb, hb], h1⟩
  | false => rw [hb] at h; cases h
def BxIs (ρ : List HV) (x : Nat × Nat × BM × List Cell) (y : Bx) : Prop := ρ[x.1]? = some (.box y.1) /\ All2 (Cell.Den ρ) x.2.2.2 y.2.2
theorem Bhs {mm : BM} {t : Ty} {h : Nat} {own : List Chunk} {p : List (List Leaf) × (Nat × Nat × BM × List Cell) × List Chunk} (hp : T3 mm t h own = some p) (h1 : OwnOk ρ rs own m) :
  OwnLe own p.2.2 /\ p.2.1.1 = h /\ p.2.1.2.2.1 = mm /\ Chunk.box h p.2.1.2.1 p.2.1.2.2.2 ∈ own /\ ∃ (b : Nat) (e : TypeId) (vs : List Value) (m' : List As), BxIs ρ p.2.1 (b, e, vs) /\ OwnOk ρ rs p.2.2 m' /\
   ((mm = .ow /\ ∃ l, p.1 = [l] /\ l.length = vs.length /\ ∀ w, Z w m (Aw b vs.toArray e :: (Ao (l.map Leaf.ce) vs ++ m'))) \/ (mm.isOw = false /\ p.1 = [] /\ ∀ w, Z w m (Aw b vs.toArray e :: m'))) := by
 unfold T3 at hp
 obtain ⟨q, q1, hp⟩ := Af hp
 obtain ⟨l1, l2, b, e, vs, m', k1, k2, k3, k4⟩ := J7 q1 h1
 cases mm with
 | ow =>
  simp only [BM.isOw, cond_true] at hp
  obtain ⟨z, z1, hp⟩ := Af hp
  cases hp
  obtain ⟨l3, l4, m2, k5, k6⟩ := Ie z1 k2 k3
  exact ⟨l1.trans l3, rfl, rfl, l2, b, e, vs, m2, ⟨k1, k2⟩, k5, .inl ⟨rfl, z.1, rfl, l4, fun w => (k4 w).trans (k6 w).cons⟩⟩
 | lo =>
  cases hp
  exact ⟨l1, rfl, rfl, l2, b, e, vs, m', ⟨k1, k2⟩, k3, .inr ⟨rfl, rfl, k4⟩⟩
 | rd =>
  cases hp
  exact ⟨l1, rfl, rfl, l2, b, e, vs, m', ⟨k1, k2⟩, k3, .inr ⟨rfl, rfl, k4⟩⟩
theorem Z.app2 {a b c d : List As} (h : Z w b (c ++ d)) : Z w (a ++ b) ((a ++ c) ++ d) := fun F hF => by
 rw [List.append_assoc]
 obtain ⟨F1, F2, g1, g2, g3, g4, g5⟩ := hF.split
 exact (Sep.join g1 (h F2 g2) g3).up (fun b hb => hb.elim (g4 b) (g5 b)) hF.lt
def Reads (ρ : List HV) (st : SSt) (S : Bs) (w : World) : Prop := ∀ es cs ls us, Hh st es cs = some ls -> All2 (Cell.Den ρ) cs us -> Br S w (ls.map Leaf.ce) us
def TakeOk (ρ : List HV) (rs : List Rd) (ps : List PK) (vs : List V1) (own : List Chunk) (p : Lent × List Chunk) (vals caps : List Value) (m : List As) : Prop :=
 OwnLe own p.2 /\ (∀ x ∈ p.1.bx, Chunk.box x.1 x.2.1 x.2.2.2 ∈ own) /\ ∃ lo m' bx, OwnOk ρ rs p.2 m' /\ (∀ w, Z w m (lo ++ m')) /\ All2 (BxIs ρ) p.1.bx bx /\ p.1.bx.map (·.2.2.1) = F7 ps /\
  ∀ (st : SSt) (S : Bs) (w : World) (a : PArgs ps), Reads ρ st S w -> Fl st ps vs p.1.ls p.1.bx = some a -> PIn S w ps a vals caps lo bx
variable {ps : List PK} {vs : List V1} {own own' : List Chunk} {p : Lent × List Chunk} {vals caps : List Value}
theorem Bhx {t : Ty} {v : V1} {u : Value} (d1 : v.Den ρ u) (h : TakeOk ρ rs ps vs own p vals caps m) : TakeOk ρ rs (.val false t :: ps) (v :: vs) own p (u :: vals) caps m := by
 obtain ⟨l1, l2, lo, m', bx, k1, k2, k3, k4, k5⟩ := h
 refine ⟨l1, l2, lo, m', bx, k1, k2, k3, k4, fun st S w a hr ha => ?_⟩
 simp only [Fl, cond_false] at ha
 obtain ⟨cs, c1, ha⟩ := Af ha
 obtain ⟨l, c2, ha⟩ := Af ha
 obtain ⟨x, c3, ha⟩ := Af ha
 obtain ⟨q, c4, ha⟩ := Af ha
 cases ha
 obtain ⟨us, rfl, e2⟩ := Vt c1 d1
 exact .ro (by rw [Dc, D5 c3]; exact hr _ _ _ _ c2 e2) (k5 st S w q hr c4)
theorem Bhw {t : Ty} {v : V1} {u : Value} {cs : List Cell} {z : List Leaf × List Chunk} (d1 : v.Den ρ u) (c1 : Ng t v = some cs) (c2 : E6 (D4 t) cs own = some z) (h1 : OwnOk ρ rs own m)
  (h : ∀ m1, OwnOk ρ rs z.2 m1 -> TakeOk ρ rs ps vs z.2 p vals caps m1) : TakeOk ρ rs (.val true t :: ps) (v :: vs) own (⟨z.1 :: p.1.ls, p.1.bx⟩, p.2) (u :: vals) caps m := by
 obtain ⟨us, rfl, e2⟩ := Vt c1 d1
 obtain ⟨l0, l00, m1, k6, k7⟩ := Ie c2 e2 h1
 obtain ⟨l1, l2, lo, m', bx, k1, k2, k3, k4, k5⟩ := h m1 k6
 refine ⟨l0.trans l1, fun x hx => l0 _ (l2 x hx), Ao (z.1.map Leaf.ce) us ++ lo, m', bx, k1, fun w => (k7 w).trans (k2 w).app2, k3, k4, fun st S w a hr ha => ?_⟩
 simp only [Fl, cond_true] at ha
 obtain ⟨x, c4, ha⟩ := Af ha
 obtain ⟨y, c5, ha⟩ := Af ha
 cases ha
 have hf : fD t x = z.1.map Leaf.ce := by rw [Dc, D5 c4]
 rw [<- hf]
 exact .ow (by rw [<- l00, <- Fm t x, D5 c4]) (k5 st S w y hr c5)
theorem Avp {mm : BM} {t : Ty} {hh b0 : Nat} {z : List (List Leaf) × (Nat × Nat × BM × List Cell) × List Chunk} (b1 : ρ[hh]? = some (.box b0)) (c1 : T3 mm t hh own = some z) (h1 : OwnOk ρ rs own m)
  (h : ∀ m1, OwnOk ρ rs z.2.2 m1 -> TakeOk ρ rs ps vs z.2.2 p vals caps m1) : TakeOk ρ rs (.box mm t :: ps) (.c (.ptr hh 0) :: vs) own (⟨z.1 ++ p.1.ls, z.2.1 :: p.1.bx⟩, p.2) (pt b0 0 :: vals) caps m /\
   TakeOk ρ rs (.cap mm t :: ps) vs own (⟨z.1 ++ p.1.ls, z.2.1 :: p.1.bx⟩, p.2) vals (pt b0 0 :: caps) m := by
 obtain ⟨l0, n1, n2, n3, b, e, us, m1, n4, k6, hcase⟩ := Bhs c1 h1
 obtain ⟨l1, l2, lo, m', bx, k1, k2, k3, k4, k5⟩ := h m1 k6
 have hb : b0 = b := by have := n4.1; rw [n1, b1] at this; cases this; rfl
 subst hb
 have hbx : ∀ x ∈ z.2.1 :: p.1.bx, Chunk.box x.1 x.2.1 x.2.2.2 ∈ own := fun x hx => by
  rcases List.mem_cons.1 hx with rfl | hx
  ·rw [n1]; exact n3
  ·exact l0 _ (l2 x hx)
 rcases hcase with ⟨rfl, l, e1, e2, e3⟩ | ⟨hmm, e1, e3⟩
 ·have hz : ∀ w, Z w m ((Aw b0 us.toArray e :: (Ao (l.map Leaf.ce) us ++ lo)) ++ m') := fun w => (e3 w).trans (Z.cons (k2 w).app2)
  refine ⟨⟨l0.trans l1, hbx, _, m', (b0, e, us) :: bx, k1, hz, ⟨n4, k3⟩, by simp [F7, n2, k4], fun st S w a hr ha => ?_⟩, ⟨l0.trans l1, hbx, _, m', (b0, e, us) :: bx, k1, hz, ⟨n4, k3⟩, by simp [F7, n2, k4], fun st S w a hr ha => ?_⟩⟩
  all_goals
   simp only [Fl, Yo, e1, BM.isOw, List.cons_append, List.nil_append, List.tail_cons, cond_true] at ha
   obtain ⟨zz, c4, ha⟩ := Af ha
   obtain ⟨x, c5, c6⟩ := Af c4
   cases c6
   obtain ⟨y, c7, ha⟩ := Af ha
   cases ha
   have hf : fD t x = l.map Leaf.ce := by rw [Dc, D5 c5]
   rw [<- hf]
   have hl : us.length = sz t := by rw [<- e2, <- Fm t x, D5 c5]
  ·exact .bo hl (k5 st S w y hr c7)
  ·exact .co hl (k5 st S w y hr c7)
 ·have hz : ∀ w, Z w m ((Aw b0 us.toArray e :: lo) ++ m') := fun w => (e3 w).trans (k2 w).cons
  refine ⟨⟨l0.trans l1, hbx, _, m', (b0, e, us) :: bx, k1, hz, ⟨n4, k3⟩, by simp [F7, n2, k4], fun st S w a hr ha => ?_⟩, ⟨l0.trans l1, hbx, _, m', (b0, e, us) :: bx, k1, hz, ⟨n4, k3⟩, by simp [F7, n2, k4], fun st S w a hr ha => ?_⟩⟩
  all_goals
   simp only [Fl, Yo, e1, hmm, List.nil_append, List.tail_cons, cond_false] at ha
   obtain ⟨zz, c4, ha⟩ := Af ha
   obtain ⟨l, c8, c4⟩ := Af c4
   obtain ⟨x, c5, c6⟩ := Af c4
   cases c6
   obtain ⟨y, c7, ha⟩ := Af ha
   cases ha
   have hl : Br S w (fD t x) us := by rw [Dc, D5 c5]; exact hr _ _ _ _ c8 n4.2
  ·exact .br hmm hl (k5 st S w y hr c7)
  ·exact .cr hmm hl (k5 st S w y hr c7)
theorem Bht {t : Ty} {hh b0 : Nat} {b : (Nat × List Cell) × List Chunk} {z : List Leaf × List Chunk} (b1 : ρ[hh]? = some (.box b0)) (c1 : Df hh own = some b) (c2 : E6 (D4 t) b.1.2 b.2 = some z) (h1 : OwnOk ρ rs own m)
  (h : ∀ m1, OwnOk ρ rs z.2 m1 -> TakeOk ρ rs ps vs z.2 p vals caps m1) : TakeOk ρ rs (.eat t :: ps) (.c (.ptr hh 0) :: vs) own (⟨z.1 :: p.1.ls, p.1.bx⟩, p.2) (pt b0 0 :: vals) caps m := by
 obtain ⟨l3, _, b', e, us, m1, n1, n2, n3, n4⟩ := J7 c1 h1
 rw [b1] at n1; cases n1
 obtain ⟨l4, l5, m2, k6, k7⟩ := Ie c2 n2 n3
 obtain ⟨l1, l2, lo, m', bx, k1, k2, k3, k4, k5⟩ := h m2 k6
 refine ⟨l3.trans (l4.trans l1), fun x hx => l3 _ (l4 _ (l2 x hx)), Aw b0 us.toArray e :: (Ao (z.1.map Leaf.ce) us ++ lo), m', bx, k1, fun w => (n4 w).trans (Z.cons ((k7 w).trans (k2 w).app2)), k3, k4, fun st S w a hr ha => ?_⟩
 simp only [Fl, List.tail_cons] at ha
 obtain ⟨x, c4, ha⟩ := Af ha
 obtain ⟨y, c5, ha⟩ := Af ha
 cases ha
 have hf : fD t x = z.1.map Leaf.ce := by rw [Dc, D5 c4]
 rw [<- hf]
 exact .ea (by rw [<- l5, <- Fm t x, D5 c4]) (k5 st S w y hr c5)
theorem Bhv {t : Ty} {hh b0 : Nat} {b : (Nat × List Cell) × List Chunk} {z : List Leaf × List Chunk} (b1 : ρ[hh]? = some (.box b0)) (c1 : Df hh own = some b) (c2 : E6 (D4 t) b.1.2 b.2 = some z) (h1 : OwnOk ρ rs own m)
  (h : ∀ m1, OwnOk ρ rs z.2 m1 -> TakeOk ρ rs ps vs z.2 p vals caps m1) : TakeOk ρ rs (.lit t :: ps) (.c (.lt hh) :: vs) own (⟨z.1 :: p.1.ls, p.1.bx⟩, p.2) (Sv.v ⟨some ⟨b0, 0, none⟩, 1, 1⟩ :: vals) caps m := by
 obtain ⟨l3, _, b', e, us, m1, n1, n2, n3, n4⟩ := J7 c1 h1
 rw [b1] at n1; cases n1
 obtain ⟨l4, l5, m2, k6, k7⟩ := Ie c2 n2 n3
 obtain ⟨l1, l2, lo, m', bx, k1, k2, k3, k4, k5⟩ := h m2 k6
 refine ⟨l3.trans (l4.trans l1), fun x hx => l3 _ (l4 _ (l2 x hx)), Aw b0 us.toArray e :: (Ao (z.1.map Leaf.ce) us ++ lo), m', bx, k1, fun w => (n4 w).trans (Z.cons ((k7 w).trans (k2 w).app2)), k3, k4, fun st S w a hr ha => ?_⟩
 simp only [Fl, List.tail_cons] at ha
 obtain ⟨x, c4, ha⟩ := Af ha
 obtain ⟨y, c5, ha⟩ := Af ha
 cases ha
 have hf : fD t x = z.1.map Leaf.ce := by rw [Dc, D5 c4]
 rw [<- hf]
 exact .li (by rw [<- l5, <- Fm t x, D5 c4]) (k5 st S w y hr c5)
theorem Bhu {f n : Nat} {l : List (Nat × Nat)} {us : List Value} (e1 : l.length = us.length) (hn : l.length = n) (h : TakeOk ρ rs ps vs own p vals (caps ++ us) m) :
  TakeOk ρ rs (.fn f n :: ps) (.c (.fn f l) :: vs) own p (.func (.func f) #[] us.toArray :: vals) caps m := by
 obtain ⟨l1, l2, lo, m', bx, k1, k2, k3, k4, k5⟩ := h
 refine ⟨l1, l2, lo, m', bx, k1, k2, k3, k4, fun st S w a hr ha => ?_⟩
 simp only [Fl, List.tail_cons] at ha
 exact .fn (by rw [<- e1, hn]) (k5 st S w a hr ha)
theorem Bhr : ∀ {ps : List PK} {vs : List V1} {cp : List (Nat × Nat)} {own : List Chunk} {p : Lent × List Chunk} {vals caps : List Value} {m : List As}, El ps vs cp own = some p -> All2 (V1.Den ρ) vs vals -> All2 (CapIs ρ) cp caps -> OwnOk ρ rs own m -> TakeOk ρ rs ps vs own p vals caps m := by
 intro ps
 induction ps with
 | nil =>
  intro vs cp own p vals caps m h hv hc h1
  unfold El at h
  split at h
  ·cases h
   cases vals with
   | cons _ _ => exact hv.elim
   | nil =>
    cases caps with
    | cons _ _ => exact hc.elim
    | nil => exact ⟨OwnLe.refl _, (fun _ h => by cases h), [], m, [], h1, fun w => zI, trivial, rfl, fun _ _ _ _ _ _ => .nil⟩
  ·cases h
 | cons k ps ih =>
  intro vs cp own p vals caps m h hv hc h1
  cases k with
  | val o t =>
   unfold El at h
   split at h
   ·cases vals with
    | nil => exact hv.elim
    | cons u vals =>
     cases o with
     | false => exact Bhx hv.1 (ih h hv.2 hc h1)
     | true =>
      simp only [cond_true] at h
      obtain ⟨cs, c1, h⟩ := Af h
      obtain ⟨z, c2, h⟩ := Af h
      obtain ⟨q, c3, h⟩ := Af h
      cases h
      exact Bhw hv.1 c1 c2 h1 fun m1 h2 => ih c3 hv.2 hc h2
   ·cases h
  | box mm t =>
   unfold El at h
   split at h
   ·cases vals with
    | nil => exact hv.elim
    | cons u vals =>
     obtain ⟨b, b1, rfl⟩ := hv.1
     obtain ⟨z, c1, h⟩ := Af h
     obtain ⟨q, c3, h⟩ := Af h
     cases h
     exact (Avp b1 c1 h1 fun m1 h2 => ih c3 hv.2 hc h2).1
   ·cases h
  | eat t =>
   unfold El at h
   split at h
   ·cases vals with
    | nil => exact hv.elim
    | cons u vals =>
     obtain ⟨b, b1, rfl⟩ := hv.1
     obtain ⟨z, c1, h⟩ := Af h
     obtain ⟨q, c2, h⟩ := Af h
     obtain ⟨q3, c3, h⟩ := Af h
     cases h
     exact Bht b1 c1 c2 h1 fun m1 h2 => ih c3 hv.2 hc h2
   ·cases h
  | lit t =>
   unfold El at h
   split at h
   ·cases vals with
    | nil => exact hv.elim
    | cons u vals =>
     obtain ⟨b, b1, rfl⟩ := hv.1
     obtain ⟨z, c1, h⟩ := Af h
     obtain ⟨q, c2, h⟩ := Af h
     obtain ⟨q3, c3, h⟩ := Af h
     cases h
     exact Bhv b1 c1 c2 h1 fun m1 h2 => ih c3 hv.2 hc h2
   ·cases h
  | fn f n =>
   unfold El at h
   split at h
   ·cases vals with
    | nil => exact hv.elim
    | cons u vals =>
     obtain ⟨us, rfl, e1⟩ := hv.1
     have hb := (bt h).1; replace h := (bt h).2
     simp only [Bool.and_eq_true] at hb
     cases Nat.eq_of_beq_eq_true hb.1
     exact Bhu e1.len (Nat.eq_of_beq_eq_true hb.2) (ih h hv.2 (hc.append e1) h1)
   ·cases h
  | cap mm t =>
   unfold El at h
   split at h
   ·cases caps with
    | nil => exact hc.elim
    | cons u caps =>
     obtain ⟨b, b1, rfl⟩ := hc.1
     obtain ⟨z, c1, h⟩ := Af h
     obtain ⟨q, c3, h⟩ := Af h
     cases h
     exact (Avp b1 c1 h1 fun m1 h2 => ih c3 hv hc.2 h2).2
   ·cases h
end
end
section
open Go.RowKit
section
variable {ρ ρ' : List HV} {rs rs' : List Rd} {B : Base} {amb : List Rd} {st : SSt} {env : Env} {w : World} {m : List As} {R : Type} {r : R} {K : SV -> SSt -> Option R}
theorem Azx {t : Ty} (h : Ix t = false) : sz t = 1 := by
 cases t with
 | sl e => rfl
 | b n =>
  match n, h with
  | 0, _ => rfl
  | 1, _ => rfl
  | 2, _ => rfl
  | 3, _ => rfl
  | n + 4, h =>
   have : Nat.ble 4 (n + 4) = true := Nat.ble_eq_true_of_le (by omega)
   rw [show Ix (.b (n + 4)) = Nat.ble 4 (n + 4) from rfl, this] at h
   cases h
theorem Adg {t : Ty} {cs : List Cell} {vs : List Value} (h : All2 (Cell.Den ρ) cs vs) (hl : vs.length = sz t) : (Sy t cs).Den ρ (Mb t vs) := by
 unfold Sy Mb
 cases hb : Ix t with
 | true => exact ⟨vs, h, rfl⟩
 | false =>
  rw [Azx hb] at hl
  match cs, vs, h, hl with
  | [c], [v], h, _ => exact h.1
  | [], [v], h, _ => exact h.elim
  | _ :: _ :: _, [v], h, _ => exact h.2.elim
structure Mem (B : Base) (amb : List Rd) (ρ : List HV) (st : SSt) (x : List As) (rs : List Rd) (w : World) : Prop where
 len : ρ.length = st.nxt
 mem : ∃ m, OwnOk ρ rs st.own m /\ RdsOk ρ st.rds rs /\ St B (m ++ x) rs w
 amb : ∀ r ∈ amb, r ∈ rs
theorem Ab3 {x : List As} {lsO : List (List Leaf)} : ∀ {ks : List RK} {lsR : List (List Leaf)} {vals : List Value} {own : List As} {rds rs : List Rd} {st : SSt} {ρ : List HV}, RPack ks lsR vals own rds -> (∀ r ∈ rds, r ∈ rs) -> Mem B amb ρ st (own ++ x) rs w ->
  (Ed ks (lsR ++ lsO) st).2.1 = lsO /\ ∃ ρ' rs', Ext ρ ρ' /\ (∀ r ∈ rs, r ∈ rs') /\ Mem B amb ρ' (Ed ks (lsR ++ lsO) st).2.2 x rs' w /\ All2 (V1.Den ρ') (Ed ks (lsR ++ lsO) st).1 vals /\ Grow st (Ed ks (lsR ++ lsO) st).2.2 /\ (Ed ks (lsR ++ lsO) st).2.2.env = st.env
 | [], [], vals, own, rds, rs, st, ρ, h, _, hM => by
  obtain ⟨rfl, rfl, rfl⟩ := h
  have : Ed [] ([] ++ lsO) st = ([], lsO, st) := by cases lsO <;> rfl
  rw [this]
  exact ⟨rfl, ρ, rs, Ext.refl ρ, fun _ h => h, hM, trivial, Grow.refl st, rfl⟩
 | k :: ks, l :: ls, vals, own, rds, rs, st, ρ, h, hr, hM => by
  obtain ⟨vs, vals', own', rds', bo, h1, h2, h3, h5, h4⟩ := h
  obtain ⟨m, m1, m2, m3⟩ := hM.mem
  have bound : ∃ ρ' rs', Ext ρ ρ' /\ (∀ r ∈ rs, r ∈ rs') /\ (∀ r ∈ rds', r ∈ rs') /\ Mem B amb ρ' (Ar k.own l st).2 (bo ++ (own' ++ x)) rs' w /\ All2 (Cell.Den ρ') (Ar k.own l st).1 vs /\ Grow st (Ar k.own l st).2 /\ (Ar k.own l st).2.env = st.env := by
   cases hk : k.own with
   | true =>
    rw [hk] at h4
    obtain ⟨rfl, rfl⟩ := h4
    have m4 : St B (Ao (l.map Leaf.ce) vs ++ (m ++ (bo ++ (own' ++ x)))) rs w := by
     refine m3.perm ?_
     simp only [List.append_assoc]
     refine ((List.perm_append_comm_assoc bo (Ao (l.map Leaf.ce) vs) (own' ++ x)).append_left m).trans ?_
     exact List.perm_append_comm_assoc ..
    obtain ⟨ρ', m', a1, a2, a3, a4, a5, a6, a7, a8⟩ := J6 l st ρ vs m hM.len m1 h1.symm m4
    exact ⟨ρ', rs, a1, fun _ h => h, hr, ⟨a2, ⟨m', a3, by rw [a8]; exact m2.mono a1 fun _ h => h, a4⟩, hM.amb⟩, a5, a6, a7⟩
   | false =>
    rw [hk] at h4
    obtain ⟨rfl, rfl⟩ := h4
    obtain ⟨ρ', rs', a1, a2, a3, a4, a5, a6, a7, a8, a9, a10⟩ := Nb (x0 := (bo ++ own') ++ x) l st ρ vs rs hM.len m1 m2 (fun S hS => hS _ (hr _ (List.mem_cons_self ..))) m3
    exact ⟨ρ', rs', a1, a2, fun r h => a2 r (hr r (List.mem_cons_of_mem _ h)), ⟨a3, ⟨m, a4, a5, by simpa [List.append_assoc] using a6⟩, fun r h => a2 r (hM.amb r h)⟩, a7, a8, a9⟩
  obtain ⟨ρ1, rs1, a1, a2, a3, a4, a5, a6, a7⟩ := bound
  cases hb : k.bx with
  | false =>
   rw [hb] at h5
   obtain ⟨rfl, rfl⟩ := h5
   obtain ⟨b0, ρ2, rs2, b1, b2, b3, b4, b5, b6⟩ := Ab3 (lsO := lsO) (st := (Ar k.own l st).2) (ρ := ρ1) (rs := rs1) (x := x) h3 a3 (by simpa using a4)
   refine ⟨?_, ρ2, rs2, a1.trans b1, fun r h => b2 r (a2 r h), ?_, ?_, ?_, ?_⟩
   ·simp only [List.cons_append, Ed, hb]; exact b0
   ·simp only [List.cons_append, Ed, hb]; exact b3
   ·simp only [List.cons_append, Ed, hb]; exact ⟨(Adg a5 (h1.trans h2)).mono b1, b4⟩
   ·simp only [List.cons_append, Ed, hb]; exact a6.trans b5
   ·simp only [List.cons_append, Ed, hb]; exact b6.trans a7
  | true =>
   rw [hb] at h5
   obtain ⟨b, e, rfl, rfl⟩ := h5
   have hx := Ext.one ρ1 (.box b)
   have hlast := Di ρ1 (.box b)
   rw [a4.len] at hlast
   obtain ⟨m', n1, n2, n3⟩ := a4.mem
   have m5 : Mem B amb (ρ1 ++ [.box b]) { (Ar k.own l st).2 with own := .box (Ar k.own l st).2.nxt (Ar k.own l st).2.nxt (Ar k.own l st).1 :: (Ar k.own l st).2.own, nxt := (Ar k.own l st).2.nxt + 1 } (own' ++ x) rs1 w :=
    ⟨by simp [a4.len], ⟨Aw b vs.toArray e :: m', ⟨⟨b, e, vs, hlast, a5.mono fun _ _ => Cell.Den.mono hx, rfl⟩, OwnOk.mono hx (fun _ h => h) n1⟩, n2.mono hx fun _ h => h, n3.perm List.perm_middle⟩, a4.amb⟩
   obtain ⟨b0, ρ2, rs2, b1, b2, b3, b4, b5, b6⟩ := Ab3 (lsO := lsO) (x := x) h3 a3 m5
   refine ⟨?_, ρ2, rs2, (a1.trans hx).trans b1, fun r h => b2 r (a2 r h), ?_, ?_, ?_, ?_⟩
   ·simp only [List.cons_append, Ed, hb]; exact b0
   ·simp only [List.cons_append, Ed, hb]; exact b3
   ·simp only [List.cons_append, Ed, hb]; exact ⟨⟨b, b1.get hlast, rfl⟩, b4⟩
   ·simp only [List.cons_append, Ed, hb]; exact (a6.trans (Grow.fresh rfl (OwnLe.refl _))).trans b5
   ·simp only [List.cons_append, Ed, hb]; exact b6.trans a7
 | [], _ :: _, _, _, _, _, _, _, h, _, _ => h.elim
 | _ :: _, [], _, _, _, _, _, _, h, _, _ => h.elim
theorem Ws {st0 : SSt} : ∀ {xs : List (Nat × Nat × BM × List Cell)} {bx : List Bx} {ls : List (List Leaf)} {own : List As} {rds rs : List Rd} {st : SSt} {ρ : List HV}, OPack bx (xs.map (·.2.2.1)) ls own rds -> (∀ r ∈ rds, r ∈ rs) -> All2 (BxIs ρ) xs bx -> (∀ y ∈ xs, Chunk.box y.1 y.2.1 y.2.2.2 ∈ st0.own) -> Grow st0 st -> Mem B amb ρ st own rs w ->
  ∃ ρ' rs', Ext ρ ρ' /\ Mem B amb ρ' (Ht xs ls st) [] rs' w /\ Grow st0 (Ht xs ls st) /\ (Ht xs ls st).env = st.env
 | [], [], ls, own, rds, rs, st, ρ, h, _, _, _, hg, hM => by
  cases ls with
  | cons _ _ => exact h.elim
  | nil =>
   have h' : own = [] := h.1
   subst h'
   exact ⟨ρ, rs, Ext.refl ρ, hM, hg, rfl⟩
 | (hh, g, mm, cs) :: xs, (b, _, vs0) :: bx, ls, own, rds, rs, st, ρ, h, hr, ⟨⟨h0, h00⟩, h1⟩, h2, hg, hM => by
  cases mm with
  | ow =>
   cases ls with
   | nil => exact h.elim
   | cons l ls =>
    obtain ⟨vs, own', e, k1, rfl, k2⟩ := h
    obtain ⟨m, m1, m2, m3⟩ := hM.mem
    have m4 : St B (Ao (l.map Leaf.ce) vs ++ (m ++ (Aw b vs.toArray e :: own'))) rs w := by
     exact m3.perm (((List.perm_middle (a := Aw b vs.toArray e) (l₁ := Ao (l.map Leaf.ce) vs) (l₂ := own')).symm.append_left m).trans (List.perm_append_comm_assoc ..))
    obtain ⟨ρ', m', a1, a2, a3, a4, a5, a6, a7, a8⟩ := J6 l st ρ vs m hM.len m1 k1.symm m4
    have hx := Ext.one ρ' (.num 0)
    have m5 : Mem B amb (ρ' ++ [.num 0]) { (Ar true l st).2 with own := .box hh (Ar true l st).2.nxt (Ar true l st).1 :: (Ar true l st).2.own, nxt := (Ar true l st).2.nxt + 1 } own' rs w :=
     ⟨by simp [a2], ⟨Aw b vs.toArray e :: m', ⟨⟨b, e, vs, hx.get (a1.get h0), a5.mono fun _ _ => Cell.Den.mono hx, rfl⟩, OwnOk.mono hx (fun _ h => h) a3⟩, by rw [a8]; exact m2.mono (a1.trans hx) fun _ h => h, a4.perm List.perm_middle⟩, hM.amb⟩
    obtain ⟨ρ2, rs2, b1, b2, b3, b4⟩ := Ws (st0 := st0) k2 hr (h1.mono fun _ _ hb => ⟨hx.get (a1.get hb.1), hb.2.mono fun _ _ => Cell.Den.mono (a1.trans hx)⟩) (fun y hy => h2 y (List.mem_cons_of_mem _ hy)) ((hg.trans a6).trans (Grow.fresh rfl (OwnLe.refl _))) m5
    exact ⟨ρ2, rs2, (a1.trans hx).trans b1, b2, b3, b4.trans a7⟩
  | rd =>
   cases ls with
   | nil => exact h.elim
   | cons l ls =>
    obtain ⟨vs, own', rds', e, k1, rfl, rfl, k2⟩ := h
    obtain ⟨m, m1, m2, m3⟩ := hM.mem
    obtain ⟨ρ', rs', a1, a2, a3, a4, a5, a6, a7, a8, a9, a10⟩ := Nb (x0 := Aw b vs.toArray e :: own') l st ρ vs rs hM.len m1 m2 (fun S hS => hS _ (hr _ (List.mem_cons_self ..))) m3
    have hx := Ext.one ρ' (.num 0)
    have m5 : Mem B amb (ρ' ++ [.num 0]) { (Ar false l st).2 with own := .box hh (Ar false l st).2.nxt (Ar false l st).1 :: (Ar false l st).2.own, nxt := (Ar false l st).2.nxt + 1 } own' rs' w :=
     ⟨by simp [a3], ⟨Aw b vs.toArray e :: m, ⟨⟨b, e, vs, hx.get (a1.get h0), a7.mono fun _ _ => Cell.Den.mono hx, rfl⟩, OwnOk.mono hx (fun _ h => h) a4⟩, a5.mono hx fun _ h => h, a6.perm List.perm_middle⟩, fun r h => a2 r (hM.amb r h)⟩
    obtain ⟨ρ2, rs2, b1, b2, b3, b4⟩ := Ws (st0 := st0) k2 (fun r h => a2 r (hr r (List.mem_cons_of_mem _ h))) (h1.mono fun _ _ hb => ⟨hx.get (a1.get hb.1), hb.2.mono fun _ _ => Cell.Den.mono (a1.trans hx)⟩) (fun y hy => h2 y (List.mem_cons_of_mem _ hy)) ((hg.trans a8).trans (Grow.fresh rfl (OwnLe.refl _))) m5
    exact ⟨ρ2, rs2, (a1.trans hx).trans b1, b2, b3, b4.trans a9⟩
  | lo =>
   obtain ⟨own', e, rfl, k2⟩ : ∃ own' e, own = Aw b vs0.toArray e :: own' /\ OPack bx (xs.map (·.2.2.1)) ls own' rds := by
    cases ls <;> exact h
   obtain ⟨m, m1, m2, m3⟩ := hM.mem
   have m5 : Mem B amb ρ { st with own := .box hh g cs :: st.own } own' rs w :=
    ⟨hM.len, ⟨Aw b vs0.toArray e :: m, ⟨⟨b, e, vs0, h0, h00, rfl⟩, m1⟩, m2, m3.perm List.perm_middle⟩, hM.amb⟩
   have hg2 : Grow st0 { st with own := .box hh g cs :: st.own } := ⟨hg.nxt, fun c' hc hlt => by
    rcases List.mem_cons.1 hc with rfl | hc
    ·exact ⟨_, h2 _ (List.mem_cons_self ..), .inl rfl⟩
    ·exact hg.own c' hc hlt, hg.rds⟩
   obtain ⟨ρ2, rs2, b1, b2, b3, b4⟩ := Ws (st0 := st0) k2 hr h1 (fun y hy => h2 y (List.mem_cons_of_mem _ hy)) hg2 m5
   have : Ht ((hh, g, .lo, cs) :: xs) ls st = Ht xs ls { st with own := .box hh g cs :: st.own } := by
    cases ls <;> rfl
   rw [this]
   exact ⟨ρ2, rs2, b1, b2, b3, b4⟩
 | [], _ :: _, _, _, _, _, _, _, h, _, _, _, _, _ => h.elim
 | _ :: _, [], _, _, _, _, _, _, h, _, _, _, _, _ => h.elim
theorem RPack.own : ∀ {ks : List RK} {ls : List (List Leaf)} {vals : List Value} {own : List As} {rds : List Rd}, RPack ks ls vals own rds -> ks.all (·.own) = true -> rds = []
 | [], [], _, _, _, h, _ => h.2.2
 | k :: ks, l :: ls, vals, own, rds, h, hk => by
  obtain ⟨vs, vals', own', rds', bo, _, _, h3, _, h4⟩ := h
  simp only [List.all_cons, Bool.and_eq_true] at hk
  rw [hk.1] at h4
  rw [h4.2]
  exact h3.own hk.2
 | [], _ :: _, _, _, _, h, _ => h.elim
 | _ :: _, [], _, _, _, h, _ => h.elim
theorem Kl : ∀ {ps : List PK}, X3 ps = true -> ∀ m ∈ F7 ps, m = .lo \/ m = .ow
 | [], _, m, hm => by cases hm
 | .val _ _ :: r, h, m, hm => Kl (ps := r) h m hm
 | .eat _ :: r, h, m, hm => Kl (ps := r) h m hm
 | .lit _ :: r, h, m, hm => Kl (ps := r) h m hm
 | .fn _ _ :: r, h, m, hm => Kl (ps := r) h m hm
 | .box .lo _ :: r, h, m, hm => by
  rcases List.mem_cons.1 hm with rfl | hm
  ·exact .inl rfl
  ·exact Kl (ps := r) h m hm
 | .box .ow _ :: r, h, m, hm => by
  rcases List.mem_cons.1 hm with rfl | hm
  ·exact .inr rfl
  ·exact Kl (ps := r) h m hm
 | .cap .lo _ :: r, h, m, hm => by
  rcases List.mem_cons.1 hm with rfl | hm
  ·exact .inl rfl
  ·exact Kl (ps := r) h m hm
 | .cap .ow _ :: r, h, m, hm => by
  rcases List.mem_cons.1 hm with rfl | hm
  ·exact .inr rfl
  ·exact Kl (ps := r) h m hm
 | .box .rd _ :: _, h, _, _ => by cases h
 | .cap .rd _ :: _, h, _, _ => by cases h
theorem OPack.noM : ∀ {ms : List BM} {bx : List Bx} {ls : List (List Leaf)} {own : List As} {rds : List Rd}, OPack bx ms ls own rds -> (∀ m ∈ ms, m = .lo \/ m = .ow) -> rds = []
 | [], [], [], _, _, h, _ => h.2
 | .ow :: ms, (b, e, vs) :: bx, l :: ls, own, rds, h, hm => by
  obtain ⟨_, _, _, _, _, h⟩ := h
  exact h.noM fun m h => hm m (List.mem_cons_of_mem _ h)
 | .lo :: ms, (b, e, vs) :: bx, ls, own, rds, h, hm => by
  obtain ⟨own', e, _, h⟩ : ∃ own' e, own = Aw b vs.toArray e :: own' /\ OPack bx ms ls own' rds := by
   cases ls <;> exact h
  exact h.noM fun m h => hm m (List.mem_cons_of_mem _ h)
 | .rd :: ms, _, _, _, _, _, hm => by have := hm _ (List.mem_cons_self ..); simp at this
 | [], [], _ :: _, _, _, h, _ => h.elim
 | [], _ :: _, _, _, _, h, _ => by simp [OPack] at h
 | .ow :: _, [], _, _, _, h, _ => by simp [OPack] at h
 | .ow :: _, _ :: _, [], _, _, h, _ => by simp [OPack] at h
 | .lo :: _, [], _, _, _, h, _ => by simp [OPack] at h
theorem OPack.no {ps : List PK} {bx : List Bx} {ls : List (List Leaf)} {own : List As} {rds : List Rd} (h : OPack bx (F7 ps) ls own rds) (hp : X3 ps = true) : rds = [] := h.noM (Kl hp)
theorem PIn.quiet {S : Bs} {ps : List PK} {a : PArgs ps} {vals caps : List Value} {own : List As} {bx : List Bx} (h : PIn S w ps a vals caps own bx) (hq : Ee ps = true) : own = [] := by
 induction h with
 | nil => rfl
 | ro _ _ ih => exact ih (by simpa [Ee] using hq)
 | fn _ _ ih => exact ih (by simp only [Ee, List.all_cons, Bool.and_eq_true] at hq; exact hq.2)
 | _ => simp [Ee] at hq
theorem Bf9 {l : List V1} {vs : List Value} (h : All2 (V1.Den ρ) l vs) : (T2 l).Den ρ (Gy vs) := by
 match l, vs, h with
 | [v], [u], h => exact h.1
 | [], [], _ => exact ⟨[], trivial, rfl⟩
 | a :: b :: l, u :: v :: vs, h => exact ⟨u :: v :: vs, h, rfl⟩
 | [], _ :: _, h => exact h.elim
 | [_], _ :: _ :: _, h => exact h.2.elim
 | _ :: _ :: _, [_], h => exact h.2.elim
 | _ :: _, [], h => exact h.elim
theorem Bae {c : Con} {xs : List (Nat × Nat × BM × List Cell)} {bx : List Bx} {rr : PRes c.ps c.rs} {vs : List Value} {own : List As} {rds : List Rd} {st0 : SSt} (h : Left c bx rr vs own rds) (hr : ∀ r ∈ rds, r ∈ rs) (hm : xs.map (·.2.2.1) = F7 c.ps) (hb : All2 (BxIs ρ) xs bx) (h2 : ∀ y ∈ xs, Chunk.box y.1 y.2.1 y.2.2.2 ∈ st0.own) (hg : Grow st0 st) (he : EnvOk ρ st.env env) (hM : Mem B amb ρ st own rs w)
  (hk : (let q := Ed c.rs (Gh _ rr) st; K (T2 q.1) (Ht xs q.2.1 q.2.2)) = some r) :
  ∃ sv st' ρ', K sv st' = some r /\ Ext ρ ρ' /\ Sat B amb ρ' st' env w /\ sv.Den ρ' (Gy vs) /\ Grow st0 st' /\ st'.env = st.env := by
 obtain ⟨lsR, lsO, own1, own2, rds1, rds2, e1, k1, k2, rfl, rfl⟩ := h
 rw [e1] at hk
 obtain ⟨b0, ρ1, rs1, b1, b2, b3, b4, b5, b6⟩ := Ab3 (lsO := lsO) k1 (fun r h => hr r (List.mem_append_left _ h)) hM
 simp only [b0] at hk
 rw [<- hm] at k2
 obtain ⟨ρ2, rs2, c1, c2, c3, c4⟩ := Ws (st0 := st0) k2 (fun r h => b2 r (hr r (List.mem_append_right _ h))) (hb.mono fun _ _ hb => ⟨b1.get hb.1, hb.2.mono fun _ _ => Cell.Den.mono b1⟩) h2 (hg.trans b5) b3
 obtain ⟨m, m1, m2, m3⟩ := c2.mem
 exact ⟨_, _, ρ2, hk, b1.trans c1, ⟨c2.len, by rw [c4, b6]; exact he.mono (b1.trans c1), m, rs2, m1, m2, c2.amb, by simpa using m3⟩, (Bf9 b4).mono c1, c3, c4.trans b6⟩
theorem Aj0 {c : Con} (hs : Sat B amb ρ st env w) (hc : Holds amb c) {vs : List V1} {vals : List Value} (hv : All2 (V1.Den ρ) vs vals) (h : Nf c vs st K = some (some r)) :
  Ret Tryz.prog c.f vals w fun u w' => (Ee c.ps = true -> Rel w w') /\ After B amb ρ st env K r u w' := by
 unfold Nf at h
 obtain ⟨p, p1, h⟩ := Af h
 obtain ⟨a, a1, h⟩ := Af h
 simp only [Option.some.injEq] at h
 obtain ⟨rr, r1, h⟩ := Af h
 obtain ⟨m, rs, h1, h2, h3, hM⟩ := hs.mem
 obtain ⟨l1, l2, lo, m', bx, k1, k2, k3, k4, k5⟩ := Bhr (caps := []) p1 hv trivial h1
 have hM' := hM.z (k2 w)
 have hg : Grow st { st with own := p.2 } := ⟨Nat.le_refl _, fun c' hc _ => ⟨c', l1 c' hc, .inl rfl⟩, [], rfl⟩
 have Bd : ∀ (rs1 : List Rd) (own' : List As) (rds : List Rd) (vs : List Value) (w' : World), Left c bx rr vs own' rds -> St B (own' ++ m') rs1 w' -> (∀ r ∈ rds, r ∈ rs1) -> (∀ r ∈ rs, r ∈ rs1) -> After B amb ρ st env K r (Gy vs) w' := fun rs1 own' rds vs w' hL hM2 hr1 hr2 => by
  obtain ⟨sv, st', ρ', q1, q2, q3, q4, q5, q6⟩ := Bae (st := { st with own := p.2 }) (B := B) (amb := amb) (env := env) (w := w') (rs := rs1) (K := K) (r := r) hL hr1 k4 k3 l2 hg hs.env ⟨hs.len, ⟨m', OwnOk.mono (Ext.refl ρ) hr2 k1, h2.mono (Ext.refl ρ) hr2, hM2.perm List.perm_append_comm⟩, fun r hr => hr2 r (h3 r hr)⟩ h
  exact ⟨sv, st', ρ', q1, q2, q3, q4, q5, q6⟩
 cases hall : c.shut with
 | true =>
  rw [hall] at a1
  have hin : ∀ X S : Bs, Sep lo X w -> SX X S w -> (∀ r ∈ rs, r.ok S w) -> (∀ a ∈ m', ∃ F, (∀ b, F b -> S b) /\ a.ok F w) -> Ret Tryz.prog c.f vals w (fun u w' => ∃ y : { q : List Value × List As // Left c bx rr q.1 q.2 [] }, u = Gy y.1.1 /\ Gives X S w y.1.2 [] w') := fun X S x1 x2 x3 x4 => by
   refine (hc w X S a vals lo bx rr (k5 { st with own := p.2 } S w a (fun es cs ls us q1 q2 => Oe (st := { st with own := p.2 }) (m := m') ⟨x3, x4⟩ k1 h2 q1 q2) a1) x1 x2 (fun r hr => x3 r (h3 r hr)) r1).mono fun u w' ⟨vs', own', rds, e1, e2, e3⟩ => ?_
   have hrd : rds = [] := by
    simp only [Con.shut, Bool.and_eq_true] at hall
    obtain ⟨_, _, _, _, _, _, _, q, q', _, rfl⟩ := e2
    rw [q.own hall.1, q'.no hall.2]; rfl
   subst hrd
   exact ⟨⟨(vs', own'), e2⟩, e1, e3⟩
  cases hq : Ee c.ps with
  | true =>
   have hlo : lo = [] := by
    have := k5 { st with own := p.2 } (al w) w a (fun es cs ls us q1 q2 => Oe (st := { st with own := p.2 }) (m := m') (hM'.z (m' := m') (fun F hF => by obtain ⟨F1, F2, _, g2, _, _, g5⟩ := hF.split; exact g2.up g5 hF.lt)).sees k1 h2 q1 q2) a1
    exact this.quiet hq
   subst hlo
   refine (St.callF (l' := fun y : { q : List Value × List As // Left c bx rr q.1 q.2 [] } => y.1.2) (val := fun y => Gy y.1.1) hM' fun X S x1 x2 x3 x4 => hin X S x1 x2 x3 x4).mono fun u w' ⟨q0, y, q1, q2⟩ => ⟨fun _ => q0, ?_⟩
   subst q1
   exact Bd rs y.1.2 [] y.1.1 w' y.2 q2 (fun _ h => by cases h) fun _ h => h
  | false =>
   refine (St.callO (l' := fun y : { q : List Value × List As // Left c bx rr q.1 q.2 [] } => y.1.2) (val := fun y => Gy y.1.1) hM' hin).mono fun u w' ⟨y, q1, q2⟩ => ⟨(fun h => by cases h), ?_⟩
   subst q1
   exact Bd rs y.1.2 [] y.1.1 w' y.2 q2 (fun _ h => by cases h) fun _ h => h
 | false =>
  rw [hall] at a1
  have hin : ∀ X S : Bs, Sep lo X w -> SX X S w -> (∀ r ∈ rs, r.ok S w) -> Ret Tryz.prog c.f vals w (fun u w' => ∃ y : { q : List Value × List As × List Rd // Left c bx rr q.1 q.2.1 q.2.2 }, u = Gy y.1.1 /\ Gives X S w y.1.2.1 y.1.2.2 w') := fun X S x1 x2 x3 => by
   refine (hc w X S a vals lo bx rr (k5 { st with own := [] } S w a (fun es cs ls us q1 q2 => Oe (st := { st with own := [] }) (m := []) (rs := rs) (ρ := ρ) ⟨x3, fun _ h => by cases h⟩ (show OwnOk ρ rs [] [] from trivial) h2 q1 q2) a1) x1 x2 (fun r hr => x3 r (h3 r hr)) r1).mono fun u w' ⟨vs', own', rds, e1, e2, e3⟩ => ?_
   exact ⟨⟨(vs', own', rds), e2⟩, e1, e3⟩
  cases hq : Ee c.ps with
  | true =>
   have hlo : lo = [] := by
    have := k5 { st with own := [] } (al w) w a (fun es cs ls us q1 q2 => Oe (st := { st with own := [] }) (m := []) (rs := rs) (ρ := ρ) ⟨hM.sees.1, fun _ h => by cases h⟩ (show OwnOk ρ rs [] [] from trivial) h2 q1 q2) a1
    exact this.quiet hq
   subst hlo
   refine (St.callFR (l' := fun y : { q : List Value × List As × List Rd // Left c bx rr q.1 q.2.1 q.2.2 } => y.1.2.1) (rs1 := fun y => y.1.2.2) (val := fun y => Gy y.1.1) hM' hin).mono fun u w' ⟨q0, y, q1, q2⟩ => ⟨fun _ => q0, ?_⟩
   subst q1
   exact Bd _ y.1.2.1 y.1.2.2 y.1.1 w' y.2 q2 (fun r h => List.mem_append_left _ h) fun r h => List.mem_append_right _ h
  | false =>
   refine (St.callR (l' := fun y : { q : List Value × List As × List Rd // Left c bx rr q.1 q.2.1 q.2.2 } => y.1.2.1) (rs1 := fun y => y.1.2.2) (val := fun y => Gy y.1.1) hM' hin).mono fun u w' ⟨y, q1, q2⟩ => ⟨(fun h => by cases h), ?_⟩
   subst q1
   exact Bd _ y.1.2.1 y.1.2.2 y.1.1 w' y.2 q2 (fun r h => List.mem_append_left _ h) fun r h => List.mem_append_right _ h
theorem Ml : ∀ {ps : List PK} {vs : List V1} {st : SSt}, Sat B amb ρ st env w -> Sat B amb ρ (Mk ps vs st) env w /\ Grow st (Mk ps vs st) /\ (Mk ps vs st).env = st.env
 | [], _, st, hs => ⟨hs, Grow.refl st, rfl⟩
 | .cap _ _ :: ps, vs, st, hs => Ml (ps := ps) (vs := vs) hs
 | .val o _ :: ps, vs, st, hs => by
  unfold Mk
  split
  ·cases o with
   | true => exact Ml hs
   | false =>
    rename_i v vs
    obtain ⟨a1, a2, a3⟩ := Qs (l := Aj5 v) hs
    obtain ⟨b1, b2, b3⟩ := Ml (ps := ps) (vs := vs) a1
    exact ⟨b1, a2.trans b2, b3.trans a3⟩
  ·exact ⟨hs, Grow.refl st, rfl⟩
 | .box _ _ :: ps, vs, st, hs => Ml (ps := ps) (vs := vs.tail) hs
 | .eat _ :: ps, vs, st, hs => Ml (ps := ps) (vs := vs.tail) hs
 | .lit _ :: ps, vs, st, hs => Ml (ps := ps) (vs := vs.tail) hs
 | .fn _ _ :: ps, vs, st, hs => Ml (ps := ps) (vs := vs.tail) hs
theorem Ajz {c : Con} (hs : Sat B amb ρ st env w) (hc : Holds amb c) {vs : List V1} {vals : List Value} (hv : All2 (V1.Den ρ) vs vals) (h : Iz c vs st K = some (some r)) :
  Ret Tryz.prog c.f vals w fun u w' => (Ee c.ps = true -> Rel w w') /\ After B amb ρ st env K r u w' := by
 unfold Iz at h
 cases hb : c.shut with
 | true => rw [hb] at h; exact Aj0 hs hc hv h
 | false =>
  rw [hb] at h
  obtain ⟨a1, a2, a3⟩ := Ml (ps := c.ps) (vs := vs) hs
  exact (Aj0 a1 hc hv h).mono fun u w' ⟨q1, sv, st', ρ', g1, g2, g3, g4, g5, g6⟩ => ⟨q1, sv, st', ρ', g1, g2, g3, g4, a2.trans g5, g6.trans a3⟩
theorem Vs {f : FuncId} (hs : Sat B amb ρ st env w) {vs : List V1} {vals : List Value} (hv : All2 (V1.Den ρ) vs vals) : ∀ {cs : List Con}, (∀ c ∈ cs, Holds amb c) -> callF f vs st K cs = some r ->
  Ret Tryz.prog f vals w fun u w' => ((∀ c ∈ cs, Ee c.ps = true) -> Rel w w') /\ After B amb ρ st env K r u w'
 | [], _, h => by cases h
 | c :: cs, hc, h => by
  unfold callF at h
  cases hb : Nat.beq c.f f with
  | false =>
   rw [hb] at h
   exact (Vs hs hv (fun c h => hc c (List.mem_cons_of_mem _ h)) h).mono fun u w' ⟨q1, q2⟩ => ⟨fun hq => q1 fun c h => hq c (List.mem_cons_of_mem _ h), q2⟩
  | true =>
   rw [hb] at h
   cases Nat.eq_of_beq_eq_true hb
   simp only [cond_true] at h
   split at h
   ·rename_i x hx
    subst h
    exact (Ajz hs (hc c (List.mem_cons_self ..)) hv hx).mono fun u w' ⟨q1, q2⟩ => ⟨fun hq => q1 (hq c (List.mem_cons_self ..)), q2⟩
   ·exact (Vs hs hv (fun c h => hc c (List.mem_cons_of_mem _ h)) h).mono fun u w' ⟨q1, q2⟩ => ⟨fun hq => q1 fun c h => hq c (List.mem_cons_of_mem _ h), q2⟩
end
end
section
open Go.RowKit
section
variable {ρ ρ' : List HV} {rs rs' : List Rd} {B : Base} {amb : List Rd} {st : SSt} {env : Env} {w : World} {m : List As} {R : Type} {r : R} {C : Ctx}
theorem Sat.put (hs : Sat B amb ρ st env w) {sv : SV} {v : Value} (hv : sv.Den ρ v) (d : Nat) : Sat B amb ρ (st.put d sv) ((d, v) :: env) w := ⟨hs.len, hs.env.put hv d, hs.mem⟩
theorem Bfr {c : Cell} {v : Value} (h : c.shut = true) (hd : c.Den ρ v) : v = c.val := by
 cases c with
 | raw u => exact hd.1
 | i k x => exact hd
 | y x => exact hd
 | b x => exact hd
 | s x => exact hd
 | nil => exact hd
 | _ => cases h
theorem Afp : ∀ {ps : List PK} {vs : List V1} {own : List Chunk} {p : Lent × List Chunk}, Ee ps = true -> El ps vs [] own = some p -> p = (⟨[], []⟩, own)
 | [], vs, own, p, _, h => by
  unfold El at h
  split at h
  ·cases h; rfl
  ·cases h
 | k :: ps, vs, own, p, hq, h => by
  simp only [Ee, List.all_cons, Bool.and_eq_true] at hq
  cases k with
  | val o t =>
   cases o with
   | true => simp at hq
   | false =>
    unfold El at h
    split at h
    ·exact Afp (by simpa [Ee] using hq.2) h
    ·cases h
  | fn f n =>
   unfold El at h
   split at h
   ·rename_i g l vs
    have hb := (bt h).1; replace h := (bt h).2
    simp only [Bool.and_eq_true] at hb
    have hn := Nat.eq_of_beq_eq_true hq.1
    have hl := Nat.eq_of_beq_eq_true hb.2
    rw [hn] at hl
    rw [List.eq_nil_of_length_eq_zero hl] at h
    exact Afp (by simpa [Ee] using hq.2) h
   ·cases h
  | _ => simp at hq
theorem A0e {R' : Type} {c : Con} {vs : List V1} {K : SV -> SSt -> Option R} (F : R -> Option R') : Nf c vs st (fun v s => Option.bind (K v s) F) = (Nf c vs st K).map (fun x => Option.bind x F) := by
 unfold Nf
 cases El c.ps vs [] st.own with
 | none => rfl
 | some p =>
  simp only [Option.bind_some]
  cases Fl { st with own := bif c.shut then p.2 else [] } c.ps vs p.1.ls p.1.bx with
  | none => rfl
  | some a =>
   simp only [Option.bind_some, Option.map_some]
   cases c.x a <;> rfl
theorem A0c {R' : Type} {c : Con} {vs : List V1} {K : SV -> SSt -> Option R} (F : R -> Option R') : Iz c vs st (fun v s => Option.bind (K v s) F) = (Iz c vs st K).map (fun x => Option.bind x F) := A0e F
theorem Adw : ∀ {ps : List PK}, Ee ps = true -> Jf ps = []
 | [], _ => rfl
 | k :: ps, h => by
  simp only [Ee, List.all_cons, Bool.and_eq_true] at h
  cases k with
  | val o t => exact Adw (ps := ps) (by simpa [Ee] using h.2)
  | fn f n => exact Adw (ps := ps) (by simpa [Ee] using h.2)
  | _ => simp at h
theorem A1t {k : RK} {n : Nat} (hk : k.t = .b n) (hbx : k.bx = false) (hn : n <= 3) {ps : List PK} (ho : Jf ps = []) (rr : PRes ps [k]) (K : SV -> SSt -> Option R) :
  ∃ cl : Cell, (let q := Ed [k] (Gh _ rr) st; K (T2 q.1) (Ht [] q.2.1 q.2.2)) = K (.v (.c cl)) st := by
 obtain ⟨ko, kt, kb⟩ := k
 simp only at hk hbx
 subst hk hbx
 have key : ∀ l : List Leaf, (l.length = 1) -> (∀ y ∈ l, ∀ t L, y ≠ Leaf.sl t L) -> ∃ cl, Ar ko l st = ([cl], st) := fun l hl hy => by
  match l, hl with
  | [y], _ =>
   cases y with
   | i z => exact ⟨_, rfl⟩
   | b z => exact ⟨_, rfl⟩
   | s z => exact ⟨_, rfl⟩
   | y z => exact ⟨_, rfl⟩
   | sl t L => exact absurd rfl (hy _ (List.mem_cons_self ..) t L)
 have hun : ∃ z : Ax (.b n), Gh (List.map (·.t) [(⟨ko, .b n, false⟩ : RK)] ++ Jf ps) rr = [Ay (.b n) z] := by
  revert rr
  show ∀ rr : Tup (List.map (·.t) [(⟨ko, .b n, false⟩ : RK)] ++ Jf ps), _
  rw [ho]
  intro rr
  exact ⟨rr, rfl⟩
 obtain ⟨z, hz⟩ := hun
 have hl : (Ay (.b n) z).length = 1 /\ (∀ y ∈ Ay (.b n) z, ∀ t L, y ≠ Leaf.sl t L) := by
  match n, hn, z with
  | 0, _, z => exact ⟨rfl, fun y hy t L => by simp [Ay, Eb] at hy; subst hy; exact Leaf.noConfusion⟩
  | 1, _, z => exact ⟨rfl, fun y hy t L => by simp [Ay, Eb] at hy; subst hy; exact Leaf.noConfusion⟩
  | 2, _, z => exact ⟨rfl, fun y hy t L => by simp [Ay, Eb] at hy; subst hy; exact Leaf.noConfusion⟩
  | 3, _, z => exact ⟨rfl, fun y hy t L => by simp [Ay, Eb] at hy; subst hy; exact Leaf.noConfusion⟩
 obtain ⟨cl, hcl⟩ := key _ hl.1 hl.2
 have hag : Ix (.b n) = false := by
  match n, hn with
  | 0, _ => rfl
  | 1, _ => rfl
  | 2, _ => rfl
  | 3, _ => rfl
 refine ⟨cl, ?_⟩
 simp only [hz, Ed, Ht, hcl, Sy, hag, cond_false, T2]
theorem A0d {c : Con} {vs : List V1} {K : SV -> SSt -> Option R} (hp : c.pure = true) (h : Iz c vs st K = some (some r)) : ∃ cl : Cell, K (.v (.c cl)) st = some r := by
 unfold Con.pure at hp
 simp only [Bool.and_eq_true] at hp
 obtain ⟨⟨hq, hp⟩, hsh⟩ := hp
 unfold Iz at h
 rw [hsh] at h
 simp only [cond_true] at h
 unfold Nf at h
 obtain ⟨p, p1, h⟩ := Af h
 obtain ⟨a, a1, h⟩ := Af h
 simp only [Option.some.injEq] at h
 obtain ⟨rr, r1, h⟩ := Af h
 have e := Afp hq p1
 subst e
 obtain ⟨f, ps, ks, x⟩ := c
 unfold As2 at hp
 simp only at hp
 split at hp
 ·rename_i k
  split at hp
  ·rename_i n hk
   simp only [Bool.and_eq_true] at hp
   obtain ⟨cl, h2⟩ := A1t (st := st) hk (by simpa using hp.2) (Nat.le_of_ble_eq_true hp.1) (Adw hq) rr K
   exact ⟨cl, h2.symm.trans h⟩
  ·cases hp
 ·cases hp
theorem Bci {f : FuncId} {vs : List V1} {K : SV -> SSt -> Option R} {cs : List Con} (h : callF f vs st K (Tc f cs) = some r) : ∃ c ∈ cs, c.f = f /\ c.pure = true /\ Iz c vs st K = some (some r) := by
 induction cs with
 | nil => cases h
 | cons d cs ih =>
  unfold Tc at h
  cases hb : Nat.beq d.f f && d.pure with
  | true =>
   rw [hb] at h
   simp only [cond_true, Bool.and_eq_true] at h hb
   unfold callF at h
   rw [hb.1] at h
   simp only [cond_true] at h
   split at h
   ·rename_i x hx
    subst h
    exact ⟨d, List.mem_cons_self .., Nat.eq_of_beq_eq_true hb.1, hb.2, hx⟩
   ·cases h
  | false =>
   rw [hb] at h
   obtain ⟨c, h1, h2⟩ := ih h
   exact ⟨c, List.mem_cons_of_mem _ h1, h2⟩
theorem Wa (hs : EnvOk ρ st.env env) : ∀ {os : List Operand} {l : List V1}, Pu st.env os = some l -> ∃ vs, evs env os = some vs /\ All2 (V1.Den ρ) l vs
 | [], l, h => by cases h; exact ⟨[], rfl, trivial⟩
 | o :: os, l, h => by
  unfold Pu at h
  obtain ⟨v, h1, h⟩ := Af h
  obtain ⟨l', h2, h⟩ := Af h
  cases h
  obtain ⟨u, g1, g2⟩ := hs.ev1 h1
  obtain ⟨us, k1, k2⟩ := Wa hs h2
  exact ⟨u :: us, by simp [evs, g1, k1], g2, k2⟩
structure QR (P : Program) (o : Oper) (a : Act) (w : World) (v : Value) : Prop where
 get : Qm P o a w v
theorem Bcq {P : Program} {n : Nat} {d : Nat} {f : FuncId} {args : Array Operand} {ats : Array TypeId} {vs : List Value} {v : Value} {ty : TypeId} {pos : String} {af : Array Edge} {g : Option (Nat × Bool)} {a : Act} (ha : Has n a env) (hv : evs env args.toList = some vs) (hc : ∀ w1, Rel w w1 -> Ret P f vs w1 fun u w' => u = v /\ Rel w1 w') :
  QR P ⟨some d, .call ⟨.value (.func f), args, ats⟩, ty, pos, af, g⟩ a w v := by
 cases args with
 | mk args => exact ⟨fun w1 h1 => Go.Proofs.YtipinmfmejccdaaGreat.call_wp ha hv (hc w1 h1) fun u w' hk => ⟨hk.2, by rw [hk.1]⟩⟩
theorem Sc (hC : ∀ c ∈ C.cons, Holds amb c) (hs : Sat B amb ρ st env w) {o : Oper} {K : SSt -> Option R} (h : I7 C o st K = some r) :
  ∃ d sv v st' ρ', o.dst = some d /\ Nat.blt d C.n = true /\ K (st'.put d sv) = some r /\ Ext ρ ρ' /\ Sat B amb ρ' st' env w /\ sv.Den ρ' v /\ Grow st st' /\ st'.env = st.env /\ ∀ n a, Has n a env -> QR Tryz.prog o a w v := by
 unfold I7 at h
 split at h
 ·rename_i d hd
  have hlt := (bt h).1; replace h := (bt h).2
  obtain ⟨dst, op, ty, pos, af, g⟩ := o
  simp only at hd h
  subst hd
  have Jb : ∀ {op : Op}, LkOk B amb ρ st env w op (fun v st => K (st.put d v)) r -> ∃ d' sv v st' ρ', some d = some d' /\ Nat.blt d' C.n = true /\ K (st'.put d' sv) = some r /\ Ext ρ ρ' /\ Sat B amb ρ' st' env w /\ sv.Den ρ' v /\ Grow st st' /\ st'.env = st.env /\ ∀ n a, Has n a env -> QR Tryz.prog ⟨some d, op, ty, pos, af, g⟩ a w v := fun hl => by
   obtain ⟨sv, v, st', ρ', h1, h2, h3, h4, h5, h6, h7⟩ := hl
   exact ⟨d, sv, v, st', ρ', rfl, hlt, h1, h2, h3, h4, h5, h6, fun n a ha => ⟨fun w1 h8 => by unfold Oper.wp; rw [h7 w1 h8 n (some d) ty pos af g a ha]; exact ⟨Rel.refl w1, rfl⟩⟩⟩
  split at h
  ·rename_i f args tys
   split at h
   ·rename_i vs hvs
    obtain ⟨vals, e1, e2⟩ := Wa hs.env hvs
    obtain ⟨c, c1, rfl, c3, c4⟩ := Bci h
    have hq : Ee c.ps = true := by
     unfold Con.pure at c3
     simp only [Bool.and_eq_true] at c3
     exact c3.1.1
    have h3 := A0c (c := c) (vs := vs) (st := st) (K := fun v s => some (v, s)) (fun p : SV × SSt => bif Ae8 p.1 then K (st.put d p.1) else none)
    simp only [Option.bind_some] at h3
    rw [c4] at h3
    obtain ⟨cl, h2, k1⟩ : ∃ cl, Iz c vs st (fun v s => some (v, s)) = some (some (SV.v (.c cl), st)) /\ (bif Ae8 (.v (.c cl)) then K (st.put d (.v (.c cl))) else none) = some r := by
     cases hx : Iz c vs st (fun v s => some (v, s)) with
     | none => rw [hx] at h3; cases h3
     | some x =>
      rw [hx] at h3
      cases x with
      | none => cases h3
      | some p =>
       obtain ⟨cl', k2⟩ := A0d c3 hx
       cases k2
       exact ⟨cl', rfl, (Option.some.inj h3).symm⟩
    have hsh := (bt k1).1; replace k1 := (bt k1).2
    refine ⟨d, .v (.c cl), cl.val, st, ρ, rfl, hlt, k1, Ext.refl ρ, hs, Ae9 hsh, Grow.refl st, rfl, fun n a ha => ?_⟩
    have hcall : ∀ w1, Rel w w1 -> Ret Tryz.prog c.f vals w1 fun u w' => u = cl.val /\ Rel w1 w' := fun w1 hw => by
     refine (Ajz (hs.rel hw) (hC c c1) e2 h2).mono fun u w' ⟨q1, sv, st', ρ', q2, q3, q4, q5, q6, q7⟩ => ⟨?_, q1 hq⟩
     cases q2
     exact Bfr hsh q5
    exact Bcq ha e1 hcall
   ·cases h
  ·rename_i t ps
   have := Jb (As3 (ps := ps.toList) hs h)
   simpa using this
  ·exact Jb (Ar9 hs h)
 ·cases h
end
end
section
open Go.RowKit
structure QT (P : Program) (n : Nat) (aops : Array Oper) (T : List Oper -> Env -> World -> Prop) (good : Oper -> Prop) : Prop where
 q : ∀ {o rest env w d v}, good o -> o.dst = some d -> Nat.blt d n = true -> (∀ a, Has n a env -> Region.wanted o (yielded aops a.tmps) = true) -> (∀ a, Has n a env -> QR P o a w v) -> (∀ w', Rel w w' -> T rest ((d, v) :: env) w') -> T (o :: rest) env w
 s : ∀ {o rest env w d}, good o -> o.dst = some d -> Nat.blt d n = true -> (∀ a, Has n a env -> Region.wanted o (yielded aops a.tmps) = false) -> (∀ w', Rel w w' -> T rest ((d, undef) :: env) w') -> T (o :: rest) env w
section
variable {P : Program} {n : Nat} {aops : Array Oper} {Q : Post}
theorem QT.wl : QT P n aops (fun l env w => WL P n aops l Q env w) (fun _ => True) where
 q := fun {o rest env w d v} _ hd hlt hw hq h a ha => by
  unfold wpList
  rw [if_pos (hw a ha)]
  exact .inl (Fa (fun a' w' ⟨h1, h2⟩ => by rw [h2, hd]; exact h w' h1 _ (ha.put hlt v)) ((hq a ha).get w (Rel.refl w)))
 s := fun {o rest env w d} _ hd hlt hw h a ha => by
  unfold wpList
  rw [if_neg (by rw [hw a ha]; exact Bool.false_ne_true), hd]
  exact h w (Rel.refl w) _ (ha.put hlt undef)
theorem QT.wo (k : Oper -> Nat) : QT P n aops (fun l env w => WO P n aops Q (l.map fun o => (o, k o)) env w) (fun o => Nat.ble (k o) 1 = true) where
 q := fun {o rest env w d v} hk hd hlt hw hq h a ha => by
  have hk' : k o = 0 \/ k o = 1 := by have := Nat.le_of_ble_eq_true hk; omega
  rcases hk' with hk | hk
  ·simp only [List.map_cons, hk]
   exact ⟨v, .inl ⟨hw a ha, (hq a ha).get⟩, by rw [hd]; exact h w (Rel.refl w) _ (ha.put hlt v)⟩
  ·simp only [List.map_cons, hk]
   exact .inl ⟨hw a ha, fun w1 h1 => Fa (fun a' w' ⟨h2, h3⟩ => ⟨.inr h2, v, h3, by rw [h3, hd]; exact h w' (h1.trans h2) _ (ha.put hlt v)⟩) ((hq a ha).get w1 h1)⟩
 s := fun {o rest env w d} hk hd hlt hw h a ha => by
  have hk' : k o = 0 \/ k o = 1 := by have := Nat.le_of_ble_eq_true hk; omega
  rcases hk' with hk | hk
  ·simp only [List.map_cons, hk]
   exact ⟨undef, .inr ⟨hw a ha, rfl⟩, by rw [hd]; exact h w (Rel.refl w) _ (ha.put hlt undef)⟩
  ·simp only [List.map_cons, hk]
   exact .inr ⟨hw a ha, fun w1 h1 => by rw [hd]; exact h w1 h1 _ (ha.put hlt undef)⟩
end
section
variable {ρ ρ' : List HV} {rs rs' : List Rd} {B : Base} {amb : List Rd} {st : SSt} {env : Env} {w : World} {m : List As} {R : Type} {r : R} {C : Ctx} {ops : List Oper} {n : Nat}
theorem Gr : ∀ {a b : List Nat} {t : Nat}, Am (a ++ b) t = (Am a t || Am b t)
 | [], _, _ => rfl
 | x :: a, b, t => by simp only [List.cons_append, Am, Gr (a := a), Bool.or_assoc]
theorem K5 : ∀ {a b : List Oper}, Bb (a ++ b) = Bb a ++ Bb b
 | [], _ => rfl
 | o :: a, b => by
  simp only [List.cons_append, Bb]
  split <;> simp [K5 (a := a)]
theorem Abk {j s : Nat} (h : Kb ops j = some s) : gd ops.toArray env j = lk env s := by
 unfold Kb at h
 split at h
 ·rename_i o ho
  rw [He] at ho
  unfold gd
  simp [ho, h]
 ·cases h
theorem Ade {kn : List (Nat × Bool)} {o : Oper} (h : Qh ops kn st.env o.guard = true) (he : EnvOk ρ st.env env) {a : Act} (ha : Has n a env) : Region.wanted o (yielded ops.toArray a.tmps) = true := by
 unfold Qh at h
 split at h
 ·rename_i hg
  simp [Region.wanted, hg]
 ·rename_i j b hg
  simp only [Bool.and_eq_true] at h
  have h := h.2
  split at h
  ·rename_i s hs
   split at h
   ·rename_i g hgg
    have h1 := he.evB hgg
    have h2 : gd ops.toArray env j = some (.bool g) := by rw [Abk hs]; exact h1
    exact Bjc ha h2 (by simpa using h) hg
   ·cases h
  ·cases h
theorem Tt {c : Nat} : ∀ {l : List Oper} {seg : List Oper} {p : Oper} {x y : Operand} {rest : List Oper}, Ol c l = some (seg, p, x, y, rest) -> l = seg ++ p :: rest /\ p.op = .pick (.tmp c) x y
 | [], _, _, _, _, _, h => by cases h
 | o :: l, seg, p, x, y, rest, h => by
  unfold Ol at h
  split at h
  ·rename_i t x' y' ho
   cases hb : Nat.beq t c with
   | true =>
    rw [hb] at h; cases h
    cases Nat.eq_of_beq_eq_true hb
    exact ⟨rfl, ho⟩
   | false =>
    rw [hb] at h
    simp only [cond_false, Option.map_eq_some_iff] at h
    obtain ⟨⟨a, b, c', d, e⟩, h1, h2⟩ := h
    cases h2
    obtain ⟨e1, e2⟩ := Tt h1
    exact ⟨by rw [e1]; rfl, e2⟩
  ·rw [Option.map_eq_some_iff] at h
   obtain ⟨⟨a, b, c', d, e⟩, h1, h2⟩ := h
   cases h2
   obtain ⟨e1, e2⟩ := Tt h1
   exact ⟨by rw [e1]; rfl, e2⟩
def H2 : List Oper -> Env -> Env
 | [], e => e
 | o :: r, e => match o.dst with
  | some d => H2 r ((d, undef) :: e)
  | none => H2 r e
theorem Y3 : ∀ {seg : List Oper} {se : List (Nat × Option SV)} {env : Env}, EnvOk ρ se env -> EnvOk ρ (C2 seg se) (H2 seg env)
 | [], _, _, h => h
 | o :: seg, se, env, h => by
  cases hd : o.dst with
  | some d => simp only [C2, H2, hd]; exact Y3 (h.none _)
  | none => simp only [C2, H2, hd]; exact Y3 h
theorem Y4 {T : List Oper -> Env -> World -> Prop} {good : Oper -> Prop} (hT : QT Tryz.prog n ops.toArray T good) {j : Nat} {b : Bool} {s : Nat} (hs : Kb ops j = some s) : ∀ {seg : List Oper} {sk : List Nat} {env : Env} {u : Value} {w : World}, (∀ o ∈ seg, good o) -> On n ops j b sk seg = true -> (∀ t, Am sk t = true -> lk env t = some undef) -> lk env s = some u -> N1 b u = false -> ∀ {tail : List Oper}, (∀ w', Rel w w' -> T tail (H2 seg env) w') -> T (seg ++ tail) env w
 | [], _, _, _, w, _, _, _, _, _, _, h => h w (Rel.refl w)
 | o :: seg, sk, env, u, w, hg, h, hsk, hu, hub, tail, hT' => by
  unfold On at h
  split at h
  ·rename_i k c d hgd hd
   simp only [Bool.and_eq_true] at h
   obtain ⟨h1, h2, h3⟩ := h
   have hun : N1 b undef = false := rfl
   have hw : ∀ a, Has n a env -> Region.wanted o (yielded ops.toArray a.tmps) = false := fun a ha => by
    simp only [Bool.or_eq_true, Bool.and_eq_true] at h1
    rcases h1 with ⟨h4, h5⟩ | h4
    ·cases Nat.eq_of_beq_eq_true h4
     have : c = b := by simpa using h5
     subst this
     exact Afw ha (by rw [Abk hs]; exact hu) hub hgd
    ·split at h4
     ·rename_i s' hs'
      exact Afw ha (by rw [Abk hs']; exact hsk _ h4) rfl hgd
     ·cases h4
   have hun' : ∀ t, lk ((d, undef) :: env) t = if d = t then some undef else lk env t := fun t => by
    simp only [lk]
    by_cases e : d = t
    ·subst e; simp
    ·rw [G3 e]; simp [e]
   refine hT.s (hg _ (List.mem_cons_self ..)) hd h2 hw fun w0 hr0 => ?_
   have hT'' : ∀ w', Rel w0 w' -> T tail (H2 seg ((d, undef) :: env)) w' := fun w' hr' => by
    have e : H2 (o :: seg) env = H2 seg ((d, undef) :: env) := by simp [H2, hd]
    rw [<- e]; exact hT' w' (hr0.trans hr')
   by_cases e : d = s
   ·refine Y4 hT hs (u := undef) (fun o ho => hg o (List.mem_cons_of_mem _ ho)) h3 (fun t ht => ?_) (by rw [hun', if_pos e]) rfl hT''
    rw [hun']
    by_cases e' : d = t
    ·rw [if_pos e']
    ·rw [if_neg e']; exact hsk t (by simp only [Am, Bool.or_eq_true] at ht; rcases ht with ht | ht; exact absurd (Nat.eq_of_beq_eq_true ht) e'; exact ht)
   ·refine Y4 hT hs (u := u) (fun o ho => hg o (List.mem_cons_of_mem _ ho)) h3 (fun t ht => ?_) (by rw [hun', if_neg e]; exact hu) hub hT''
    rw [hun']
    by_cases e' : d = t
    ·rw [if_pos e']
    ·rw [if_neg e']; exact hsk t (by simp only [Am, Bool.or_eq_true] at ht; rcases ht with ht | ht; exact absurd (Nat.eq_of_beq_eq_true ht) e'; exact ht)
  ·cases h
theorem Kj : ∀ {seg : List Oper} {e : List (Nat × Option SV)} {t : Nat}, Am (Bb seg) t = false -> Ap (C2 seg e) t = Ap e t
 | [], _, _, _ => rfl
 | o :: seg, e, t, h => by
  unfold Bb at h
  unfold C2
  split at h
  ·rename_i d hd
   simp only [Am, Bool.or_eq_false_iff] at h
   rw [Kj h.2]
   simp [Ap, h.1]
  ·exact Kj h
theorem Zh : ∀ {seg : List Oper} {e : List (Nat × Option SV)} {t : Nat} {sv : SV}, Ap (C2 seg e) t = some sv -> Am (Bb seg) t = false /\ Ap e t = some sv
 | [], _, _, _, h => ⟨rfl, h⟩
 | o :: seg, e, t, sv, h => by
  unfold C2 at h
  unfold Bb
  split at h
  ·rename_i d hd
   obtain ⟨h1, h2⟩ := Zh h
   simp only [Ap] at h2
   cases hb : Nat.beq d t with
   | true => rw [hb] at h2; cases h2
   | false => rw [hb] at h2; exact ⟨by simp [Am, hb, h1], h2⟩
  ·exact Zh h
theorem Sat.join (hs : Sat B amb ρ st env w) {seg : List Oper} {st' : SSt} {ρ' : List HV} {env' : Env} {w' : World} (hs' : Sat B amb ρ' st' env' w') (hx : Ext ρ ρ') (hr : Rel w w') (he : ∀ t sv, Ap (C2 seg st.env) t = some sv -> ∃ sv', Ap st'.env t = some sv' /\ ∀ v, sv'.Den ρ' v -> sv.Den ρ' v) :
  Sat B amb ρ { st with env := C2 seg st.env } env' w' := by
 obtain ⟨m, rs, h1, h2, h3, hM⟩ := (hs.rel hr).mem
 refine ⟨hs.len, fun t sv ht => ?_, m, rs, h1, h2, h3, hM⟩
 obtain ⟨sv', e1, e2⟩ := he t sv ht
 obtain ⟨v, v1, v2⟩ := hs'.env t sv' e1
 obtain ⟨u, _, u2⟩ := hs.env t sv (Zh ht).2
 exact ⟨v, v1, (e2 v v2).back hx u2⟩
theorem Atd {p : Oper} {s d : Nat} {x y : Operand} {g v : Bool} (hp : p.op = .pick (.tmp s) x y) (hd : p.dst = some d) (hc : ev env (.tmp s) = some (.bool g)) (hv : ev env (bif g then x else y) = some (.bool v)) {a : Act} (ha : Has n a env) : QR Tryz.prog p a w (.bool v) := by
 obtain ⟨dst, op, ty, pos, af, gu⟩ := p
 simp only at hp hd
 subst hp hd
 refine ⟨fun w1 _ => ?_⟩
 unfold Oper.wp
 have h1 : Runs Tryz.prog n env w1 ⟨some d, .pick (.tmp s) x y, ty, pos, af, gu⟩ (.bool v) w1 := by
  cases g with
  | true => exact Bdk hc hv
  | false => exact Bdj hc hv
 rw [h1 a ha]
 exact ⟨Rel.refl w1, rfl⟩
theorem EnvOk.lit (he : EnvOk ρ st.env env) {s : Nat} {g : Bool} (h : Go.Proofs.YtipinmfmejccdaaGreat.evB st.env (.tmp s) = some g) : EnvOk ρ ((s, some (.v (.c (.b g)))) :: st.env) env := fun t sv ht => by
 simp only [Ap] at ht
 cases hb : Nat.beq s t with
 | true =>
  rw [hb] at ht; cases ht
  cases Nat.eq_of_beq_eq_true hb
  exact ⟨_, he.evB h, rfl⟩
 | false => rw [hb] at ht; exact he t sv ht
theorem Apc {se : List (Nat × Option SV)} {s : Nat} {g : Bool} (h : evB se (.tmp s) = some g) : Ap se s = some (.v (.c (.b g))) := by
 unfold evB at h
 split at h
 ·rename_i x hx
  cases h
  unfold evC at hx
  split at hx
  ·rename_i y hy
   cases hx
   exact hy
  ·cases hx
 ·cases h
theorem Afx {T : List Oper -> Env -> World -> Prop} {good : Oper -> Prop} (hT : QT Tryz.prog n ops.toArray T good) (hs : Sat B amb ρ st env w) {j s d : Nat} {b g v : Bool} {seg : List Oper} {p : Oper} {x y : Operand} {tail : List Oper} {run : SSt -> (SSt -> Option Bool) -> Option Bool}
  (hj : Kb ops j = some s) (hgv : evB st.env (.tmp s) = some g) (hp : p.op = .pick (.tmp s) x y) (hd : p.dst = some d) (hlt : Nat.blt d n = true) (hsk : On n ops j b [] seg = true) (hns : Am (Bb seg) s = false) (hgs : ∀ o ∈ seg, good o) (hgp : good p)
  (hw : ∀ env', EnvOk ρ (C2 seg st.env) env' -> ∀ a, Has n a env' -> Region.wanted p (yielded ops.toArray a.tmps) = true) (h : T7 b run s st (C2 seg st.env) x y g = some v)
  (hrun : ∀ (g : Bool) (z : Operand) (tl : List Oper), run { st with env := (s, some (.v (.c (.b g)))) :: st.env } (fun st => evB st.env z) = some v -> Sat B amb ρ { st with env := (s, some (.v (.c (.b g)))) :: st.env } env w ->
   (∀ st' ρ' env' w', evB st'.env z = some v -> Sat B amb ρ' st' env' w' -> Ext ρ ρ' -> (∀ t, Am (Bb seg) t = false -> Ap st'.env t = Ap ((s, some (.v (.c (.b g)))) :: st.env) t) -> Rel w w' -> T tl env' w') -> T (seg ++ tl) env w)
  (hk : ∀ env' w', Rel w w' -> Sat B amb ρ { st with env := (d, some (.v (.c (.b v)))) :: C2 seg st.env } env' w' -> T tail env' w') : T (seg ++ p :: tail) env w := by
 have hlk := Apc hgv
 have done : ∀ (env' : Env) (w' : World), Rel w w' -> Sat B amb ρ { st with env := C2 seg st.env } env' w' -> ev env' (.tmp s) = some (.bool g) -> ev env' (bif g then x else y) = some (.bool v) -> T (p :: tail) env' w' := fun env' w' hr hs' hc hv => by
  refine hT.q hgp hd hlt (hw env' hs'.env) (fun a ha => Atd hp hd hc hv ha) fun w2 hr2 => hk _ w2 (hr.trans hr2) ?_
  have := (hs'.rel hr2).put (sv := .v (.c (.b v))) (v := .bool v) rfl d
  exact this
 have exec : ∀ z, z = (bif g then x else y) -> run { st with env := (s, some (.v (.c (.b g)))) :: st.env } (fun st => evB st.env z) = some v -> T (seg ++ p :: tail) env w := fun z hz h => by
  refine hrun g z _ h ⟨hs.len, hs.env.lit hgv, hs.mem⟩ fun st' ρ' env' w' h1 h2 h3 h4 h5 => ?_
  have hsl : Ap st'.env s = some (.v (.c (.b g))) := by rw [h4 s hns]; simp [Ap]
  have hj2 : Sat B amb ρ { st with env := C2 seg st.env } env' w' := hs.join h2 h3 h5 fun t sv ht => by
   obtain ⟨k1, k2⟩ := Zh ht
   by_cases e : s = t
   ·subst e
    rw [hlk] at k2; cases k2
    exact ⟨_, hsl, fun _ h => h⟩
   ·refine ⟨sv, ?_, fun _ h => h⟩
    rw [h4 t k1]
    simp only [Ap, G3 e]
    exact k2
  refine done env' w' h5 hj2 ?_ ?_
  ·obtain ⟨u, u1, u2⟩ := h2.env s _ hsl
   cases u2
   exact u1
  ·rw [<- hz]; exact h2.env.evB h1
 have skp : N1 b (.bool g) = false -> evB (C2 seg st.env) (bif g then x else y) = some v -> T (seg ++ p :: tail) env w := fun hb h => by
  refine Y4 hT hj hgs hsk (fun t ht => by cases ht) (hs.env.evB hgv) hb fun w' hr' => ?_
  have hs' : Sat B amb ρ { st with env := C2 seg st.env } (H2 seg env) w' := ⟨hs.len, Y3 hs.env, (hs.rel hr').mem⟩
  refine done _ w' hr' hs' ?_ (hs'.env.evB h)
  have : Ap (C2 seg st.env) s = some (.v (.c (.b g))) := by rw [Kj hns]; exact hlk
  obtain ⟨u, u1, u2⟩ := hs'.env s _ this
  cases u2
  exact u1
 unfold T7 at h
 cases g <;> cases b
 ·exact exec y rfl h
 ·exact skp rfl h
 ·exact skp rfl h
 ·exact exec x rfl h
def StepOk (B : Base) (amb : List Rd) (C : Ctx) (ops : List Oper) (T : List Oper -> Env -> World -> Prop) (good : Oper -> Prop) (E : (R : Type) -> Oper -> SSt -> (SSt -> Option R) -> Option R) : Prop :=
 ∀ (R : Type) (o : Oper) (st : SSt) (K : SSt -> Option R) (r : R) (ρ : List HV) (env : Env) (w : World) (rest : List Oper), good o -> E R o st K = some r -> Sat B amb ρ st env w -> (∀ a, Has C.n a env -> Region.wanted o (yielded ops.toArray a.tmps) = true) ->
  (∀ st' ρ' env' w', K st' = some r -> Sat B amb ρ' st' env' w' -> Ext ρ ρ' -> Grow st st' -> (∀ t, Am (Bb [o]) t = false -> Ap st'.env t = Ap st.env t) -> Rel w w' -> T rest env' w') -> T (o :: rest) env w
theorem Au3 (hC : ∀ c ∈ C.cons, Holds amb c) {T : List Oper -> Env -> World -> Prop} {good : Oper -> Prop} (hT : QT Tryz.prog C.n ops.toArray T good) : StepOk B amb C ops T good (fun _ o st K => I7 C o st K) := fun R o st K r ρ env w rest hg h hs hw hK => by
 obtain ⟨d, sv, v, st', ρ', e1, e2, e3, e4, e5, e6, e7, e8, e9⟩ := Sc hC hs h
 refine hT.q hg e1 e2 hw (fun a ha => e9 C.n a ha) fun w' hr => ?_
 refine hK (st'.put d sv) ρ' _ w' e3 ((e5.rel hr).put e6 d) e4 (Grow.trans e7 ⟨Nat.le_refl _, fun c h _ => ⟨c, h, .inl rfl⟩, [], rfl⟩) (fun t ht => ?_) hr
 simp only [Bb, e1, Am, Bool.or_eq_false_iff] at ht
 simp only [SSt.put, Ap, ht.1, cond_false, e8]
theorem Tm {E : (R : Type) -> Oper -> SSt -> (SSt -> Option R) -> Option R} {T : List Oper -> Env -> World -> Prop} {good : Oper -> Prop} (hT : QT Tryz.prog C.n ops.toArray T good) (hE : StepOk B amb C ops T good E) : ∀ (f : Nat) (kn : List (Nat × Bool)) (l : List Oper) (st : SSt) (R : Type) (K : SSt -> Option R) (r : R) (ρ : List HV) (env : Env) (w : World) (tail : List Oper), (∀ o ∈ l, good o) -> Og E C ops f kn l st R K = some r -> Sat B amb ρ st env w ->
  (∀ st' ρ' env' w', K st' = some r -> Sat B amb ρ' st' env' w' -> Ext ρ ρ' -> Grow st st' -> (∀ t, Am (Bb l) t = false -> Ap st'.env t = Ap st.env t) -> Rel w w' -> T tail env' w') -> T (l ++ tail) env w
 | 0, _, _, _, _, _, _, _, _, _, _, _, h, _, _ => by cases h
 | f + 1, kn, [], st, R, K, r, ρ, env, w, tail, _, h, hs, hK => hK st ρ env w h hs (Ext.refl ρ) (Grow.refl st) (fun _ _ => rfl) (Rel.refl w)
 | f + 1, kn, o :: rest, st, R, K, r, ρ, env, w, tail, hg, h, hs, hK => by
  unfold Og at h
  cases hm : Qh ops kn st.env o.guard with
  | true =>
   rw [hm] at h
   simp only [cond_true] at h
   refine hE R o st _ r ρ env w (rest ++ tail) (hg o (List.mem_cons_self ..)) h hs (fun a ha => Ade hm hs.env ha) fun st' ρ' env' w' e3 e5 e4 e7 e8 hr => ?_
   refine Tm hT hE f kn rest st' R K r ρ' env' w' tail (fun o ho => hg o (List.mem_cons_of_mem _ ho)) e3 e5 fun st2 ρ2 env2 w2 k1 k2 k3 k4 k5 k6 => hK st2 ρ2 env2 w2 k1 k2 (e4.trans k3) (e7.trans k4) (fun t ht => ?_) (hr.trans k6)
   rw [show Bb (o :: rest) = Bb [o] ++ Bb rest from K5 (a := [o]) (b := rest), Gr, Bool.or_eq_false_iff] at ht
   rw [k5 t ht.2, e8 t ht.1]
  | false =>
   rw [hm] at h
   simp only [cond_false] at h
   split at h
   ·cases h
   ·rename_i j b hgo
    split at h
    ·cases h
    ·rename_i s hj
     split at h
     ·rename_i g seg p x y rest' hgv hseg
      obtain ⟨hl, hp⟩ := Tt hseg
      split at h
      ·cases h
      ·rename_i d hd
       have hc := (bt h).1; replace h := (bt h).2
       simp only [Bool.and_eq_true] at hc
       obtain ⟨⟨⟨hsk, hns⟩, hlt⟩, hmp⟩ := hc
       have hns : Am (Bb seg) s = false := by simpa using hns
       obtain ⟨v, hv, h⟩ := Af h
       rw [hl]
       have hgl : ∀ o ∈ seg ++ p :: rest', good o := by rw [<- hl]; exact hg
       rw [List.append_assoc]
       refine Afx (tail := rest' ++ tail) hT hs hj hgv hp hd hlt hsk hns (fun o ho => hgl o (List.mem_append_left _ ho)) (hgl p (List.mem_append_right _ (List.mem_cons_self ..))) (fun env' he a ha => Ade (st := { st with env := C2 seg st.env }) hmp he ha) hv (fun g' z tl hz hs' hk' => ?_) fun env' w' hr hs' => ?_
       ·exact Tm hT hE f ((j, b) :: kn) seg _ Bool _ v ρ env w tl (fun o ho => hgl o (List.mem_append_left _ ho)) hz hs' fun st' ρ' env' w' q1 q2 q3 q4 q5 q6 => hk' st' ρ' env' w' q1 q2 q3 q5 q6
       ·refine Tm hT hE f kn rest' _ R K r ρ env' w' tail (fun o ho => hgl o (List.mem_append_right _ (List.mem_cons_of_mem _ ho))) h hs' fun st2 ρ2 env2 w2 k1 k2 k3 k4 k5 k6 => hK st2 ρ2 env2 w2 k1 k2 k3 ⟨k4.nxt, k4.own, k4.rds⟩ (fun t ht => ?_) (hr.trans k6)
        rw [hl, K5, Gr] at ht
        simp only [Bb, hd, Am, Bool.or_eq_false_iff] at ht
        rw [k5 t ht.2.2]
        simp only [Ap, ht.2.1, cond_false]
        exact Kj ht.1
     ·cases h
end
end
section
open Go.RowKit
def putE (d : Option Nat) (v : Value) (env : Env) : Env := match d with
 | some d => (d, v) :: env
 | none => env
structure OD (P : Program) (n : Nat) (env : Env) (w : World) (o : Oper) (N : Value -> World -> Prop) : Prop where
 get : ∀ a, Has n a env -> o.wp P a w (fun a' w' => ∃ v, a' = a.put o.dst v /\ N v w') Km
section
variable {P : Program} {n : Nat} {env : Env} {w : World} {o : Oper} {N N' : Value -> World -> Prop} {aops : Array Oper} {rest : List Oper} {Q : Post}
theorem OD.mono (h : OD P n env w o N) (hk : ∀ v w', N v w' -> N' v w') : OD P n env w o N' := ⟨fun a ha => Fa (fun _a' w' ⟨v, e, k⟩ => ⟨v, e, hk v w' k⟩) (h.get a ha)⟩
theorem OD.ex {d : Nat} {op : Op} {ty : TypeId} {pos : String} {af : Array Edge} (h : Ex P n env w ⟨some d, op, ty, pos, af, none⟩ N) : OD P n env w ⟨some d, op, ty, pos, af, none⟩ N := ⟨fun a ha => by
 obtain ⟨v, w', hr, hk⟩ := h
 unfold Oper.wp
 rw [hr a ha]
 exact ⟨v, rfl, hk⟩⟩
theorem OD.exu {op : Op} {ty : TypeId} {pos : String} {af : Array Edge} {K : World -> Prop} (h : ExU P n env w ⟨none, op, ty, pos, af, none⟩ K) : OD P n env w ⟨none, op, ty, pos, af, none⟩ (fun _ w' => K w') := ⟨fun a ha => by
 obtain ⟨w', hr, hk⟩ := h
 unfold Oper.wp
 rw [hr a ha]
 exact ⟨undef, rfl, hk⟩⟩
theorem OD.call {d : Nat} {f : FuncId} {args : Array Operand} {ats : Array TypeId} {vs : List Value} {ty : TypeId} {pos : String} {af : Array Edge} (hv : evs env args.toList = some vs) (hc : Ret P f vs w N) : OD P n env w ⟨some d, .call ⟨.value (.func f), args, ats⟩, ty, pos, af, none⟩ N := ⟨fun a ha => by
 cases args with
 | mk args => exact Go.Proofs.YtipinmfmejccdaaGreat.call_wp ha hv hc fun v w' hk => ⟨v, rfl, hk⟩⟩
theorem OD.callv {d : Nat} {f : FuncId} {x : Operand} {args : Array Operand} {ats : Array TypeId} {vs cap : List Value} {ty : TypeId} {pos : String} {af : Array Edge} (hx : ev env x = some (.func (.func f) #[] cap.toArray)) (hv : evs env args.toList = some vs) (hc : Ret P f (vs ++ cap) w N) : OD P n env w ⟨some d, .call ⟨.value x, args, ats⟩, ty, pos, af, none⟩ N := ⟨fun a ha => by
 cases args with
 | mk args =>
  obtain ⟨⟨fn, hf, hnm, hb⟩, hcalls⟩ := hc
  have h1 : (execOp a.eval ⟨some d, .call { callee := .value x, args := args.toArray, argTypes := ats }, ty, pos, af, none⟩).run P w = .ok (.enter f (vs ++ cap).toArray) w := by
   simp only [execOp, resolve, ha.ev hx, Deferred.ofValue, invoke, callFunc, Sem.run_bind, Sem.run_pure, Result.andThen_ok, run_program, hf, hnm, hb, List.map_toArray, ha.evs _ _ hv]
   simp
  show Oper.wp P ⟨some d, .call { callee := .value x, args := args.toArray, argTypes := ats }, ty, pos, af, none⟩ a w _ Km
  unfold Oper.wp
  rw [h1]
  exact hcalls.mono fun e w' ⟨v, he, hk⟩ => by subst he; exact ⟨v, rfl, hk⟩⟩
theorem Has.putE {a : Act} (ha : Has n a env) (hlt : ∀ d, o.dst = some d -> Nat.blt d n = true) (v : Value) : Has n (a.put o.dst v) (putE o.dst v env) := by
 cases hd : o.dst with
 | none => exact ha
 | some d => exact ha.put (hlt d hd) v
theorem A08 (f : Operand -> Value) {dst : Option Nat} {op : Op} {ty : TypeId} {pos : String} {af : Array Edge} {g : Option (Nat × Bool)} : execOp f ⟨dst, op, ty, pos, af, g⟩ = execOp f ⟨dst, op, ty, pos, af, none⟩ := by cases op <;> rfl
theorem Af7 {dst : Option Nat} {op : Op} {ty : TypeId} {pos : String} {af : Array Edge} {g : Option (Nat × Bool)} {a : Act} {nx : Act -> World -> Prop} {Q : Exit -> Act -> World -> Prop} (h : Oper.wp P ⟨dst, op, ty, pos, af, none⟩ a w nx Q) : Oper.wp P ⟨dst, op, ty, pos, af, g⟩ a w nx Q := by
 unfold Oper.wp at h ⊢
 rw [A08]
 exact h
theorem Av8 (hg : o.guard = none) (hlt : ∀ d, o.dst = some d -> Nat.blt d n = true) (h : OD P n env w o N) (hk : ∀ v w', N v w' -> WL P n aops rest Q (putE o.dst v env) w') : WL P n aops (o :: rest) Q env w := fun a ha => by
 unfold wpList
 rw [if_pos (by simp [Region.wanted, hg])]
 refine .inl (Fa (fun a' w' ⟨v, e, k⟩ => ?_) (h.get a ha))
 subst e
 exact hk v w' k _ (ha.putE hlt v)
theorem Af2 {r : List (Oper × Nat)} (hg : o.guard = none) (hlt : ∀ d, o.dst = some d -> Nat.blt d n = true) (h : ∀ w1, Rel w w1 -> OD P n env w1 o fun v w' => Rel w1 w' /\ WO P n aops Q r (putE o.dst v env) w') : WO P n aops Q ((o, 1) :: r) env w := fun a ha =>
 .inl ⟨by simp [Region.wanted, hg], fun w1 h1 => Fa (fun a' w' ⟨v, e, k⟩ => ⟨.inr k.1, v, e, by subst e; exact k.2 _ (ha.putE hlt v)⟩) ((h w1 h1).get a ha)⟩
theorem Bjf {r : List (Oper × Nat)} (hw : ∀ a, Has n a env -> Region.wanted o (yielded aops a.tmps) = true) (hlt : ∀ d, o.dst = some d -> Nat.blt d n = true) (h : ∀ w1, Rel w w1 -> OD P n env w1 o fun v w' => Rel w1 w' /\ WO P n aops Q r (putE o.dst v env) w') : WO P n aops Q ((o, 1) :: r) env w := fun a ha =>
 .inl ⟨hw a ha, fun w1 h1 => Fa (fun a' w' ⟨v, e, k⟩ => ⟨.inr k.1, v, e, by subst e; exact k.2 _ (ha.putE hlt v)⟩) ((h w1 h1).get a ha)⟩
theorem Bjg {r : List (Oper × Nat)} (hg : o.guard = none) (hlt : ∀ d, o.dst = some d -> Nat.blt d n = true) (h : ∀ w1, Rel w w1 -> OD P n env w1 o fun v w' => WO P n aops Q r (putE o.dst v env) w') : WO P n aops Q ((o, 2) :: r) env w := fun a ha =>
 .inl ⟨by simp [Region.wanted, hg], fun w1 h1 => Fa (fun a' w' ⟨v, e, k⟩ => ⟨.inl rfl, v, e, by subst e; exact k _ (ha.putE hlt v)⟩) ((h w1 h1).get a ha)⟩
end
section
variable {ρ ρ' : List HV} {rs rs' : List Rd} {B : Base} {amb : List Rd} {st : SSt} {env : Env} {w : World} {m : List As} {R : Type} {r : R} {C : Ctx} {ops : List Oper} {n : Nat}
theorem Vu {f : FuncId} : ∀ {cs : List Con}, ∀ c ∈ I0 f cs, c ∈ cs
 | [], c, h => by cases h
 | d :: cs, c, h => by
  unfold I0 at h
  cases hb : Nat.beq d.f f with
  | true =>
   rw [hb] at h
   rcases List.mem_cons.1 h with rfl | h
   ·exact List.mem_cons_self ..
   ·exact List.mem_cons_of_mem _ (Vu c h)
  | false =>
   rw [hb] at h
   exact List.mem_cons_of_mem _ (Vu c h)
theorem Aj2 : ∀ {caps : List (Nat × Nat)} {us : List Value}, All2 (CapIs ρ) caps us -> All2 (V1.Den ρ) (Abd caps) us
 | [], [], _ => trivial
 | _p :: _caps, _u :: _us, ⟨⟨b, h1, h2⟩, h3⟩ => ⟨⟨b, h1, h2⟩, Aj2 h3⟩
 | [], _ :: _, h => h.elim
 | _ :: _, [], h => h.elim
theorem Bbz (hC : ∀ c ∈ C.cons, Holds amb c) (hs : Sat B amb ρ st env w) {op : Op} {K : SV -> SSt -> Option R} (h : Adu C st op K = some r) (n d : Nat) (ty : TypeId) (pos : String) (af : Array Edge) :
  OD Tryz.prog n env w ⟨some d, op, ty, pos, af, none⟩ fun v w' => (Bv C [] ⟨some d, op, ty, pos, af, none⟩ = 1 -> Rel w w') /\ After B amb ρ st env K r v w' := by
 unfold Adu at h
 split at h
 ·exact (OD.ex (Bbm hs h n d ty pos af)).mono fun v w' ⟨q1, q2⟩ => ⟨fun _ => q1 rfl, q2⟩
 ·exact (OD.ex (Bbn hs h n d ty pos af)).mono fun v w' ⟨q1, q2⟩ => ⟨fun _ => q1 rfl, q2⟩
 ·rename_i t ps
  have := (As3 (ps := ps.toList) hs h).mk true n d ty pos af
  rw [Array.toArray_toList] at this
  exact (OD.ex this).mono fun v w' ⟨q1, q2⟩ => ⟨fun _ => q1 rfl, q2⟩
 ·rename_i t len ps
  have := Bbp (ps := ps.toList) hs h n d ty pos af
  rw [Array.toArray_toList] at this
  exact (OD.ex this).mono fun v w' ⟨q1, q2⟩ => ⟨fun _ => q1 rfl, q2⟩
 ·exact (OD.ex (Bbr hs h n d ty pos af)).mono fun v w' ⟨q1, q2⟩ => ⟨fun _ => q1 rfl, q2⟩
 ·rename_i args tys
  split at h
  ·rename_i x y t t' ha ht
   have e := Nat.eq_of_beq_eq_true (bt h).1
   replace h := (bt h).2
   subst e
   have e1 : args = #[x, y] := by cases args; simpa using ha
   have e2 : tys = #[t, t] := by cases tys; simpa using ht
   subst e1 e2
   refine (OD.ex (Az2 hs h n d ty pos af)).mono fun v w' ⟨q1, q2⟩ => ⟨fun hq => q1 ?_, q2⟩
   unfold Bv at hq
   simp only at hq
   split at hq
   ·rename_i y' he
    simp only [List.cons.injEq] at he
    cases hf : I8 t with
    | false => rw [hf] at hq; simp at hq
    | true =>
     rw [he.1]
     have hnl : L4 st (.const (.slice none 0 0)) = true := rfl
     rw [hnl]; rfl
   ·simp [Am] at hq
   ·cases hq
  ·cases h
 ·rename_i f args tys
  split at h
  ·rename_i vs hvs
   obtain ⟨vals, e1, e2⟩ := Wa hs.env hvs
   refine OD.call e1 ((Vs hs e2 (fun c hc => hC c (Vu c hc)) h).mono fun u w' ⟨q1, q2⟩ => ⟨fun hq => q1 fun c hc => ?_, q2⟩)
   have hcc := hc
   unfold Bv at hq
   simp only at hq
   split at hq
   ·cases hb : (I0 f C.cons).all fun c => Ee c.ps with
    | true => exact List.all_eq_true.1 hb c hc
    | false => rw [hb] at hq; simp at hq
   ·cases hq
  ·cases h
 ·rename_i t args tys
  split at h
  ·rename_i f caps vs hf hvs
   obtain ⟨vals, e1, e2⟩ := Wa hs.env hvs
   obtain ⟨u, u1, us, rfl, u2⟩ := hs.env.evC hf
   exact OD.callv u1 e1 ((Vs hs (e2.append (Aj2 u2)) (fun c hc => hC c (Vu c hc)) h).mono fun u w' ⟨_, q2⟩ => ⟨fun hq => absurd hq (by simp [Bv]), q2⟩)
  ·cases h
 ·exact (OD.ex ((Ar9 hs h).mk true n d ty pos af)).mono fun v w' ⟨q1, q2⟩ => ⟨fun _ => q1 rfl, q2⟩
def Next (B : Base) (amb : List Rd) (ρ : List HV) (st : SSt) (env : Env) (K : SSt -> Option R) (r : R) (W : List Nat) (d : Option Nat) (v : Value) (w' : World) : Prop :=
 ∃ st' ρ', K st' = some r /\ Ext ρ ρ' /\ Sat B amb ρ' st' (putE d v env) w' /\ Grow st st' /\ ∀ t, Am W t = false -> Ap st'.env t = Ap st.env t
theorem I6 (hC : ∀ c ∈ C.cons, Holds amb c) (hs : Sat B amb ρ st env w) {o : Oper} {K : SSt -> Option R} (hg : o.guard = none) (h : Nl C o st K = some r) :
  (∀ d, o.dst = some d -> Nat.blt d C.n = true) /\ OD Tryz.prog C.n env w o fun v w' => (Bv C [] o = 1 -> Rel w w') /\ Next B amb ρ st env K r (Bb [o]) o.dst v w' := by
 obtain ⟨dst, op, ty, pos, af, g⟩ := o
 simp only at hg
 subst hg
 unfold Nl at h
 simp only at h
 split at h
 ·rename_i d
  have hlt := (bt h).1; replace h := (bt h).2
  refine ⟨fun d' hd => by cases hd; exact hlt, (Bbz hC hs h C.n d ty pos af).mono fun v w' ⟨q1, sv, st', ρ', q2, q3, q4, q5, q6, q7⟩ => ⟨q1, st'.put d sv, ρ', q2, q3, q4.put q5 d, ⟨q6.nxt, q6.own, q6.rds⟩, fun t ht => ?_⟩⟩
  simp only [Bb, Am, Bool.or_false] at ht
  simp only [SSt.put, Ap, ht, cond_false, q7]
 ·refine ⟨(fun d' hd => by cases hd), ?_⟩
  split at h
  ·rename_i t x y
   exact (OD.exu (Bf3 hs h C.n ty pos af)).mono fun v w' ⟨st', ρ', q2, q3, q4, q5, q6⟩ => ⟨fun hq => absurd hq (by simp [Bv]), st', ρ', q2, q3, q4, q5, fun t _ => by rw [q6]⟩
  ·cases h
theorem Bf1 (hC : ∀ c ∈ C.cons, Holds amb c) {Q : Post} : StepOk B amb C ops (fun l env w => WL Tryz.prog C.n ops.toArray l Q env w) (fun _ => True) (fun _ o st K => Pv C o st K) := fun R o st K r ρ env w rest hg h hs hw hK => by
 simp only [Pv] at h
 cases h0 : Nat.beq (Bv C [] o) 0 with
 | true => rw [h0] at h; exact Au3 hC (QT.wl (Q := Q)) R o st K r ρ env w rest trivial h hs hw hK
 | false =>
  rw [h0] at h
  simp only [cond_false] at h
  have h1 := Nat.eq_of_beq_eq_true (bt h).1; replace h := (bt h).2
  obtain ⟨hlt, hod⟩ := I6 (o := { o with guard := none }) hC hs rfl h
  obtain ⟨dst, op, ty, pos, af, g⟩ := o
  intro a ha
  unfold wpList
  rw [if_pos (hw a ha)]
  refine .inl (Fa (o := ⟨dst, op, ty, pos, af, g⟩) (fun a' w' ⟨v, e, k⟩ => ?_) (Af7 (hod.get a ha)))
  subst e
  obtain ⟨k1, st', ρ', q2, q3, q4, q5, q6⟩ := k
  exact hK st' ρ' _ w' q2 q4 q3 q5 q6 (k1 h1) _ (ha.putE (o := ⟨dst, op, ty, pos, af, g⟩) hlt v)
theorem OD.guard {dst : Option Nat} {op : Op} {ty : TypeId} {pos : String} {af : Array Edge} {g : Option (Nat × Bool)} {P : Program} {N : Value -> World -> Prop} (h : OD P n env w ⟨dst, op, ty, pos, af, none⟩ N) : OD P n env w ⟨dst, op, ty, pos, af, g⟩ N := ⟨fun a ha => Af7 (h.get a ha)⟩
theorem QT.imp {P : Program} {n : Nat} {aops : Array Oper} {T : List Oper -> Env -> World -> Prop} {good good' : Oper -> Prop} (h : QT P n aops T good) (hg : ∀ o, good' o -> good o) : QT P n aops T good' := ⟨fun h1 => h.q (hg _ h1), fun h1 => h.s (hg _ h1)⟩
def Nq (C : Ctx) (E : List Nat) (o : Oper) : Prop := (Nat.ble (Bv C E o) 1 && Nat.beq (Bv C E o) (Bv C [] o)) = true
theorem QT.wo' {P : Program} {n : Nat} {aops : Array Oper} {Q : Post} (E : List Nat) : QT P n aops (fun l env w => WO P n aops Q (l.map fun o => (o, Bv C E o)) env w) (Nq C E) := (QT.wo (Bv C E)).imp fun o h => by
 simp only [Nq, Bool.and_eq_true] at h
 exact h.1
theorem Bfz (hC : ∀ c ∈ C.cons, Holds amb c) {E : List Nat} {Q : Post} : StepOk B amb C ops (fun l env w => WO Tryz.prog C.n ops.toArray Q (l.map fun o => (o, Bv C E o)) env w) (Nq C E) (fun _ o st K => Pv C o st K) := fun R o st K r ρ env w rest hg h hs hw hK => by
 simp only [Pv] at h
 have hg2 := hg
 simp only [Nq, Bool.and_eq_true] at hg2
 have hE := Nat.eq_of_beq_eq_true hg2.2
 cases h0 : Nat.beq (Bv C [] o) 0 with
 | true => rw [h0] at h; exact Au3 hC (QT.wo' (Q := Q) E) R o st K r ρ env w rest hg h hs hw hK
 | false =>
  rw [h0] at h
  simp only [cond_false] at h
  have h1 := Nat.eq_of_beq_eq_true (bt h).1; replace h := (bt h).2
  have hlt := (I6 (o := { o with guard := none }) hC hs rfl h).1
  have hod := fun w1 (h2 : Rel w w1) => (I6 (o := { o with guard := none }) hC (hs.rel h2) rfl h).2
  simp only [List.map_cons, hE, h1]
  obtain ⟨dst, op, ty, pos, af, g⟩ := o
  refine Bjf hw hlt fun w1 h2 => (OD.guard (hod w1 h2)).mono fun v w' ⟨k1, st', ρ', q2, q3, q4, q5, q6⟩ => ⟨k1 h1, ?_⟩
  exact hK st' ρ' _ w' q2 q4 q3 q5 q6 (h2.trans (k1 h1))
theorem A92 {l : List Oper} {t : TypeId} {x : Operand} {d1 d2 : Nat} {rest : List Oper} (h : Acz l = some (t, x, d1, d2, rest)) : ∃ ty ty2 pos pos2 af af2, l = ⟨some d1, .buildSlice t 0 #[], ty, pos, af, none⟩ :: ⟨some d2, .call ⟨.builtin .append, #[.tmp d1, x], #[t, t]⟩, ty2, pos2, af2, none⟩ :: rest := by
 unfold Acz at h
 split at h
 ·rename_i d1' t' len ps ty pos af d2' args tys ty2 pos2 af2 rest'
  split at h
  ·rename_i d x' t1 t2 hp ha ht
   have hc := (bt h).1; replace h := (bt h).2
   cases h
   simp only [Bool.and_eq_true] at hc
   cases Nat.eq_of_beq_eq_true hc.1.1
   cases Nat.eq_of_beq_eq_true hc.1.2
   cases Nat.eq_of_beq_eq_true hc.2.1
   cases Nat.eq_of_beq_eq_true hc.2.2
   have e0 : ps = #[] := by cases ps; simpa using hp
   have e1 : args = #[.tmp d1, x] := by cases args; simpa using ha
   have e2 : tys = #[t, t] := by cases tys; simpa using ht
   subst e0 e1 e2
   exact ⟨ty, ty2, pos, pos2, af, af2, rfl⟩
  ·cases h
 ·cases h
theorem Azz (hs : Sat B amb ρ st env w) {t : TypeId} {y : Operand} {d1 d2 : Nat} {K : SV -> SSt -> Option R} {Q : Post} {aops : Array Oper} {rr : List (Oper × Nat)} {ty ty2 : TypeId} {pos pos2 : String} {af af2 : Array Edge} (hd1 : Nat.blt d1 n = true) (hd2 : Nat.blt d2 n = true) (h : Rq { st with env := (d1, none) :: st.env } t y K = some r)
  (hK : ∀ u v w' sv st' ρ', K sv st' = some r -> Ext ρ ρ' -> Sat B amb ρ' st' ((d1, u) :: env) w' -> sv.Den ρ' v -> Grow { st with env := (d1, none) :: st.env } st' -> st'.env = (d1, none) :: st.env -> WO Tryz.prog n aops Q rr ((d2, v) :: (d1, u) :: env) w') :
  WO Tryz.prog n aops Q ((⟨some d1, .buildSlice t 0 #[], ty, pos, af, none⟩, 1) :: (⟨some d2, .call ⟨.builtin .append, #[.tmp d1, y], #[t, t]⟩, ty2, pos2, af2, none⟩, 1) :: rr) env w := by
 unfold Rq at h
 split at h
 ·rename_i hh e ei te hy ht
  obtain ⟨t1, _, z, hz, _⟩ := I3 ht
  have hc := (bt h).1; replace h := (bt h).2
  simp only [Bool.and_eq_true] at hc
  rw [<- Nat.eq_of_beq_eq_true hc.2.2] at hz
  split at h
  ·rename_i c hcq
   split at h
   ·rename_i M hM2
    have hb := (Bp h).1; replace h := (Bp h).2
    refine Af2 rfl (fun d hd => by cases hd; exact hd1) fun w1 h1 => ?_
    obtain ⟨m, rs, m1, m2, m3, hM⟩ := (hs.rel h1).mem
    refine OD.ex (Awe (T := Ax te) (f := fD te) t1 hz (fun x => C1 te x) hM fun b w2 hr2 hM2' => ⟨hr2, ?_⟩)
    have hs2 : Sat B amb ρ { st with env := (d1, none) :: st.env } ((d1, Sv.v ⟨some ⟨b, 0, none⟩, 0, 0⟩) :: env) w2 := ⟨hs.len, hs.env.none d1, ((hs.rel h1).rel hr2).mem⟩
    refine Af2 rfl (fun d hd => by cases hd; exact hd2) fun w3 hr3 => ?_
    have hs3 := hs2.rel hr3
    obtain ⟨v, v1, sv, s1, rfl⟩ := hs3.env.evC hy
    obtain ⟨s', s2, s3⟩ := hs3.rd hcq
    rw [s1] at s2; cases s2
    obtain ⟨e, e2⟩ := Ll hM2
    obtain ⟨t', L'⟩ := c
    simp only at e e2 s3
    subst e e2
    refine OD.ex (Awd t1 hz v1 (by simp [putE, ev, lk]) s3 (Wj hc.2.1) (hM2'.call hr3) hb hc.1 fun s' w4 hr4 hM4 => ⟨hr4, ?_⟩)
    exact hK _ _ w4 _ _ _ h (Ext.one ρ _) (hs3.row m1 m2 m3 hM4) (hs3.rowDen s') (Grow.fresh rfl (OwnLe.refl _)) rfl
   ·cases h
  ·cases h
 ·cases h
theorem A95 {l : List Oper} {t : TypeId} {x y : Operand} {d1 d2 : Nat} {rest : List Oper} (h : Ac3 l = some (t, x, y, d1, d2, rest)) : ∃ ty ty2 pos pos2 af af2, l = ⟨some d1, .buildSlice t 1 #[(0, x)], ty, pos, af, none⟩ :: ⟨some d2, .call ⟨.builtin .append, #[y, .tmp d1], #[t, t]⟩, ty2, pos2, af2, none⟩ :: rest := by
 unfold Ac3 at h
 split at h
 ·rename_i d1' t' len ps ty pos af d2' args tys ty2 pos2 af2 rest'
  split at h
  ·rename_i x' y' d t1 t2 hp ha ht
   have hc := (bt h).1; replace h := (bt h).2
   cases h
   simp only [Bool.and_eq_true] at hc
   cases Nat.eq_of_beq_eq_true hc.1.1
   cases Nat.eq_of_beq_eq_true hc.1.2
   cases Nat.eq_of_beq_eq_true hc.2.1
   cases Nat.eq_of_beq_eq_true hc.2.2
   have e0 : ps = #[(0, x)] := by cases ps; simpa using hp
   have e1 : args = #[y, .tmp d1] := by cases args; simpa using ha
   have e2 : tys = #[t, t] := by cases tys; simpa using ht
   subst e0 e1 e2
   exact ⟨ty, ty2, pos, pos2, af, af2, rfl⟩
  ·cases h
 ·cases h
theorem A93 {o : Oper} {rest : List Oper} {t : TypeId} {x : Operand} {d : Nat} (h : Ac2 C (o :: rest) = some (t, x)) (hd : o.dst = some d) : ∃ ty pos af, o = ⟨some d, .buildSlice t 1 #[(0, x)], ty, pos, af, none⟩ := by
 unfold Ac2 at h
 split at h
 ·rename_i d' t' len ps ty pos af d2 f args tys ty2 pos2 af2 g2 r2 e0
  cases e0
  split at h
  ·rename_i x' e hp ha
   have hc := (bt h).1; replace h := (bt h).2
   cases h
   cases hd
   simp only [Bool.and_eq_true] at hc
   cases Nat.eq_of_beq_eq_true hc.1.2
   have e0 : ps = #[(0, x)] := by cases ps; simpa using hp
   subst e0
   exact ⟨ty, pos, af, rfl⟩
  ·cases h
 ·cases h
theorem At1 (hC : ∀ c ∈ C.cons, Holds amb c) {Q : Post} : ∀ (l : List Oper) (kn : List (Nat × Bool)) (st : SSt) (K : SSt -> Option R) (ρ : List HV) (env : Env) (w : World) (tail : List Oper), Tk C ops kn l st K = some r -> Sat B amb ρ st env w ->
  (∀ st' ρ' env' w', K st' = some r -> Sat B amb ρ' st' env' w' -> Ext ρ ρ' -> Grow st st' -> (∀ t, Am (Bb l) t = false -> Ap st'.env t = Ap st.env t) -> WL Tryz.prog C.n ops.toArray tail Q env' w') -> WL Tryz.prog C.n ops.toArray (l ++ tail) Q env w
 | [], kn, st, K, ρ, env, w, tail, h, hs, hK => hK st ρ env w h hs (Ext.refl ρ) (Grow.refl st) fun _ _ => rfl
 | o :: l, kn, st, K, ρ, env, w, tail, h, hs, hK => by
  unfold Tk at h
  have hm := (bt h).1; replace h := (bt h).2
  obtain ⟨hlt, hod⟩ := I6 (o := { o with guard := none }) hC hs rfl h
  have hmw : ∀ a, Has C.n a env -> Region.wanted o (yielded ops.toArray a.tmps) = true := fun a ha => Ade hm hs.env ha
  obtain ⟨dst, op, ty, pos, af, g⟩ := o
  intro a ha
  show wpList _ _ _ (⟨dst, op, ty, pos, af, g⟩ :: (l ++ tail)) a w
  unfold wpList
  rw [if_pos (hmw a ha)]
  refine .inl (Fa (o := ⟨dst, op, ty, pos, af, g⟩) (fun a' w' ⟨v, e, k⟩ => ?_) (Af7 (hod.get a ha)))
  subst e
  obtain ⟨_, st', ρ', q2, q3, q4, q5, q6⟩ := k
  refine At1 hC l kn st' K ρ' _ w' tail q2 q4 (fun st2 ρ2 env2 w2 k1 k2 k3 k4 k5 => hK st2 ρ2 env2 w2 k1 k2 (q3.trans k3) (q5.trans k4) fun t ht => ?_) _ (ha.putE (o := ⟨dst, op, ty, pos, af, g⟩) hlt v)
  have hw : Bb (⟨dst, op, ty, pos, af, g⟩ :: l) = Bb [⟨dst, op, ty, pos, af, none⟩] ++ Bb l := by
   cases dst <;> rfl
  rw [hw, Gr, Bool.or_eq_false_iff] at ht
  rw [k5 t ht.2, q6 t ht.1]
theorem Qp (hC : ∀ c ∈ C.cons, Holds amb c) {Q : Post} : ∀ (f : Nat) (l : List Oper) (st : SSt) (K : SSt -> Option R) (ρ : List HV) (env : Env) (w : World), Ig C ops f l st K = some r -> Sat B amb ρ st env w ->
  (∀ st' ρ' env' w', K st' = some r -> Sat B amb ρ' st' env' w' -> Ext ρ ρ' -> Grow st st' -> (∀ t, Am (Bb l) t = false -> Ap st'.env t = Ap st.env t) -> Q .normal env' w') -> WL Tryz.prog C.n ops.toArray l Q env w
 | 0, _, _, _, _, _, _, h, _, _ => by cases h
 | f + 1, [], st, K, ρ, env, w, h, hs, hK => Af1 (hK st ρ env w h hs (Ext.refl ρ) (Grow.refl st) fun _ _ => rfl)
 | f + 1, o :: rest, st, K, ρ, env, w, h, hs, hK => by
  unfold Ig at h
  split at h
  ·rename_i hg
   split at h
   ·rename_i t x y d1 d2 rest' hp
    obtain ⟨ty, ty2, pos, pos2, af, af2, e⟩ := A95 hp
    have hc := (bt h).1; replace h := (bt h).2
    simp only [Bool.and_eq_true] at hc
    rw [e] at hK ⊢
    refine Bcm hs hc.1 hc.2 h fun u v w' sv st' ρ' k1 k2 k3 k4 k5 k6 => ?_
    refine Qp hC f rest' _ K ρ' _ w' k1 (k3.put k4 d2) fun st2 ρ2 env2 w2 g1 g2 g3 g4 g5 => hK st2 ρ2 env2 w2 g1 g2 (k2.trans g3) (Grow.trans k5 ⟨g4.nxt, g4.own, g4.rds⟩) fun t ht => ?_
    simp only [Bb, Am, Bool.or_eq_false_iff] at ht
    rw [g5 t ht.2.2]
    simp only [SSt.put, Ap, ht.2.1, cond_false, k6, ht.1]
   ·split at h
    ·rename_i t x d hli hdo
     obtain ⟨ty, pos, af, e⟩ := A93 hli hdo
     have hlt := (bt h).1; replace h := (bt h).2
     subst e
     refine Av8 rfl (fun d' hd => by cases hd; exact hlt) (OD.ex (Bbq hs h C.n d ty pos af)) fun v w' ⟨_, sv, st', ρ', k1, k2, k3, k4, k5, k6⟩ => ?_
     refine Qp hC f rest _ K ρ' _ w' k1 (k3.put k4 d) fun st2 ρ2 env2 w2 g1 g2 g3 g4 g5 => hK st2 ρ2 env2 w2 g1 g2 (k2.trans g3) (Grow.trans k5 ⟨g4.nxt, g4.own, g4.rds⟩) fun t ht => ?_
     simp only [Bb, Am, Bool.or_eq_false_iff] at ht
     rw [g5 t ht.2]
     simp only [SSt.put, Ap, ht.1, cond_false, k6]
    ·obtain ⟨e1, e2⟩ := I6 hC hs hg h
     refine Av8 hg e1 e2 fun v w' ⟨_, st', ρ', k1, k2, k3, k4, k5⟩ => ?_
     refine Qp hC f rest st' K ρ' _ w' k1 k3 fun st2 ρ2 env2 w2 g1 g2 g3 g4 g5 => hK st2 ρ2 env2 w2 g1 g2 (k2.trans g3) (Grow.trans k4 g4) fun t ht => ?_
     have hw : Bb (o :: rest) = Bb [o] ++ Bb rest := by rw [<- K5]; rfl
     rw [hw, Gr, Bool.or_eq_false_iff] at ht
     rw [g5 t ht.2, k5 t ht.1]
  ·rename_i j b hgo
   split at h
   ·cases h
   ·rename_i s hj
    split at h
    ·rename_i g seg p x y rest' hgv hseg
     obtain ⟨hl, hp⟩ := Tt hseg
     split at h
     ·cases h
     ·rename_i d hd
      have hc := (bt h).1; replace h := (bt h).2
      simp only [Bool.and_eq_true] at hc
      obtain ⟨⟨⟨hsk, hns⟩, hlt⟩, hmp⟩ := hc
      have hns : Am (Bb seg) s = false := by simpa using hns
      have hpg : p.guard = none := by unfold isNone at hmp; split at hmp; assumption; cases hmp
      cases hany : seg.any fun o => Nat.beq (Bv C [] o) 2 with
      | true =>
       rw [hany] at h
       simp only [cond_true] at h
       rw [hl]
       have Bd : ∀ (z : Operand) (st1 : SSt) (ρ1 : List HV) (env1 : Env) (w1 : World), z = (bif g then x else y) -> Lo (fun v st => Ig C ops f rest' { st with env := (d, some (.v (.c (.b v)))) :: st.env } K) z st1 = some r -> Sat B amb ρ1 st1 env1 w1 -> ev env1 (.tmp s) = some (.bool g) -> Ext ρ ρ1 -> Grow st st1 -> (∀ t, Am (Bb seg) t = false -> s ≠ t -> Ap st1.env t = Ap st.env t) -> (Ap st1.env s = Ap st.env s) -> WL Tryz.prog C.n ops.toArray (p :: rest') Q env1 w1 := fun z st1 ρ1 env1 w1 hz h1 hs1 hgs hx1 hg1 he1 hes => by
        unfold Lo at h1
        split at h1
        ·rename_i v hv
         refine (QT.wl (Q := Q)).q trivial hd hlt (fun a ha => by simp [Region.wanted, hpg]) (fun a ha => Atd hp hd hgs (by rw [<- hz]; exact hs1.env.evB hv) ha) fun w2 hr2 => ?_
         have hs2 := (hs1.rel hr2).put (sv := .v (.c (.b v))) (v := .bool v) rfl d
         refine Qp hC f rest' _ K ρ1 _ w2 h1 hs2 fun st2 ρ2 env2 w3 k1 k2 k3 k4 k5 => hK st2 ρ2 env2 w3 k1 k2 (hx1.trans k3) (hg1.trans ⟨k4.nxt, k4.own, k4.rds⟩) fun t ht => ?_
         rw [hl, K5, Gr] at ht
         simp only [Bb, hd, Am, Bool.or_eq_false_iff] at ht
         rw [k5 t ht.2.2]
         simp only [Ap, ht.2.1, cond_false]
         by_cases hst : s = t
         ·rw [<- hst]; exact hes
         ·exact he1 t ht.1 hst
        ·cases h1
       have hlk := Apc hgv
       have skp : N1 b (.bool g) = false -> Lo (fun v st => Ig C ops f rest' { st with env := (d, some (.v (.c (.b v)))) :: st.env } K) (bif g then x else y) { st with env := C2 seg st.env } = some r -> WL Tryz.prog C.n ops.toArray (seg ++ p :: rest') Q env w := fun hb h1 => by
        refine Y4 (T := fun l env w => WL Tryz.prog C.n ops.toArray l Q env w) (good := fun _ => True) QT.wl hj (fun _ _ => trivial) hsk (fun t ht => by cases ht) (hs.env.evB hgv) hb fun w' hr' => ?_
        have hs' : Sat B amb ρ { st with env := C2 seg st.env } (H2 seg env) w' := ⟨hs.len, Y3 hs.env, (hs.rel hr').mem⟩
        have hls : Ap (C2 seg st.env) s = some (.v (.c (.b g))) := by rw [Kj hns]; exact hlk
        refine Bd _ _ ρ _ w' rfl h1 hs' ?_ (Ext.refl ρ) ⟨Nat.le_refl _, fun c h _ => ⟨c, h, .inl rfl⟩, [], rfl⟩ (fun t ht _ => Kj ht) (Kj hns)
        obtain ⟨u, u1, u2⟩ := hs'.env s _ hls
        cases u2
        exact u1
       have exe : Tk C ops [(j, b)] seg { st with env := (s, some (.v (.c (.b g)))) :: st.env } (Lo (fun v st => Ig C ops f rest' { st with env := (d, some (.v (.c (.b v)))) :: st.env } K) (bif g then x else y)) = some r -> WL Tryz.prog C.n ops.toArray (seg ++ p :: rest') Q env w := fun h1 => by
        refine At1 hC seg [(j, b)] _ _ ρ env w _ h1 ⟨hs.len, hs.env.lit hgv, hs.mem⟩ fun st1 ρ1 env1 w1 k1 k2 k3 k4 k5 => ?_
        have hsl : Ap st1.env s = some (.v (.c (.b g))) := by rw [k5 s hns]; simp [Ap]
        refine Bd _ st1 ρ1 env1 w1 rfl k1 k2 ?_ k3 ⟨k4.nxt, k4.own, k4.rds⟩ (fun t ht hst => ?_) (by rw [hsl, hlk])
        ·obtain ⟨u, u1, u2⟩ := k2.env s _ hsl
         cases u2
         exact u1
        ·rw [k5 t ht]
         simp only [Ap, G3 hst, cond_false]
       unfold Av5 at h
       cases g <;> cases b
       ·exact exe h
       ·exact skp rfl h
       ·exact skp rfl h
       ·exact exe h
      | false =>
      rw [hany] at h
      simp only [cond_false] at h
      obtain ⟨v, hv, h⟩ := Af h
      rw [hl]
      refine Afx (T := fun l env w => WL Tryz.prog C.n ops.toArray l Q env w) (good := fun _ => True) QT.wl hs hj hgv hp hd hlt hsk hns (fun _ _ => trivial) trivial (fun env' he a ha => by simp [Region.wanted, hpg]) hv (fun g' z tl hz hs' hk' => ?_) fun env' w' hr hs' => ?_
      ·exact Tm (QT.wl (Q := Q)) (Bf1 hC) (f + 1) [(j, b)] seg _ Bool _ v ρ env w tl (fun _ _ => trivial) hz hs' fun st' ρ' env' w' q1 q2 q3 q4 q5 q6 => hk' st' ρ' env' w' q1 q2 q3 q5 q6
      ·refine Qp hC f rest' _ K ρ env' w' h hs' fun st2 ρ2 env2 w2 k1 k2 k3 k4 k5 => hK st2 ρ2 env2 w2 k1 k2 k3 ⟨k4.nxt, k4.own, k4.rds⟩ fun t ht => ?_
       rw [hl, K5, Gr] at ht
       simp only [Bb, hd, Am, Bool.or_eq_false_iff] at ht
       rw [k5 t ht.2.2]
       simp only [Ap, ht.2.1, cond_false]
       exact Kj ht.1
    ·cases h
theorem A99 {E : List Nat} (o : Oper) : Bv C E o = 0 \/ Bv C E o = 1 \/ Bv C E o = 2 := by
 unfold Bv
 split
 ·split
  ·cases (I0 _ C.cons).all fun c => Ee c.ps <;> simp
  ·simp
 ·simp
 ·split
  ·split
   ·rename_i t _ _; cases I8 t <;> simp
   ·simp
  ·rename_i d _ _; cases Am E d <;> simp
  ·simp
 all_goals simp
theorem Tl (hC : ∀ c ∈ C.cons, Holds amb c) {E : List Nat} {Q : Post} : ∀ (f : Nat) (l : List Oper) (st : SSt) (K : SSt -> Option R) (ρ : List HV) (env : Env) (w : World), Kv C E ops f l st K = some r -> Sat B amb ρ st env w ->
  (∀ st' ρ' env' w', K st' = some r -> Sat B amb ρ' st' env' w' -> Ext ρ ρ' -> Grow st st' -> (∀ t, Am (Bb l) t = false -> Ap st'.env t = Ap st.env t) -> Q .normal env' w') -> WO Tryz.prog C.n ops.toArray Q (l.map fun o => (o, Bv C E o)) env w
 | 0, _, _, _, _, _, _, h, _, _ => by cases h
 | f + 1, [], st, K, ρ, env, w, h, hs, hK => Asn fun w1 h1 => hK st ρ env w1 h (hs.rel h1) (Ext.refl ρ) (Grow.refl st) fun _ _ => rfl
 | f + 1, o :: rest, st, K, ρ, env, w, h, hs, hK => by
  have hw : Bb (o :: rest) = Bb [o] ++ Bb rest := by rw [<- K5]; rfl
  unfold Kv at h
  split at h
  ·rename_i hg
   split at h
   ·rename_i t y d1 d2 rest' hp
    obtain ⟨ty, ty2, pos, pos2, af, af2, e⟩ := A92 hp
    have hc := (bt h).1; replace h := (bt h).2
    simp only [Bool.and_eq_true] at hc
    rw [e] at hK ⊢
    simp only [List.map_cons]
    rw [show Bv C E ⟨some d1, .buildSlice t 0 #[], ty, pos, af, none⟩ = 1 from rfl, show Bv C E ⟨some d2, .call ⟨.builtin .append, #[.tmp d1, y], #[t, t]⟩, ty2, pos2, af2, none⟩ = 1 from by
     show (bif Am E d1 then 1 else 2) = 1
     rw [hc.2]; rfl]
    refine Azz hs hc.1.1 hc.1.2 h fun u v w' sv st' ρ' k1 k2 k3 k4 k5 k6 => ?_
    refine Tl hC f rest' _ K ρ' _ w' k1 (k3.put k4 d2) fun st2 ρ2 env2 w2 g1 g2 g3 g4 g5 => hK st2 ρ2 env2 w2 g1 g2 (k2.trans g3) (Grow.trans ⟨k5.nxt, k5.own, k5.rds⟩ ⟨g4.nxt, g4.own, g4.rds⟩) fun t ht => ?_
    simp only [Bb, Am, Bool.or_eq_false_iff] at ht
    rw [g5 t ht.2.2]
    simp only [SSt.put, Ap, ht.2.1, cond_false, k6, ht.1]
   cases hk : Nat.beq (Bv C E o) 0 with
   | true =>
    rw [hk] at h
    simp only [cond_true] at h
    have hk0 := Nat.eq_of_beq_eq_true hk
    obtain ⟨d, sv, v, st', ρ', e1, e2, e3, e4, e5, e6, e7, e8, e9⟩ := Sc hC hs h
    refine (QT.wo (Q := Q) (aops := ops.toArray) (Bv C E)).q (rest := rest) (by rw [hk0]; rfl) e1 e2 (fun a ha => by simp [Region.wanted, hg]) (fun a ha => e9 C.n a ha) fun w' hr => ?_
    refine Tl hC f rest _ K ρ' _ w' e3 ((e5.rel hr).put e6 d) fun st2 ρ2 env2 w2 k1 k2 k3 k4 k5 => hK st2 ρ2 env2 w2 k1 k2 (e4.trans k3) (Grow.trans e7 ⟨k4.nxt, k4.own, k4.rds⟩) fun t ht => ?_
    simp only [Bb, e1, Am, Bool.or_eq_false_iff] at ht
    rw [k5 t ht.2]
    simp only [SSt.put, Ap, ht.1, cond_false, e8]
   | false =>
    rw [hk] at h
    simp only [cond_false] at h
    have hE := Nat.eq_of_beq_eq_true (bt h).1; replace h := (bt h).2
    have go : ∀ w1, Rel w w1 -> ∀ v w', Next B amb ρ st env (fun st => Kv C E ops f rest st K) r (Bb [o]) o.dst v w' -> WO Tryz.prog C.n ops.toArray Q (rest.map fun o => (o, Bv C E o)) (putE o.dst v env) w' := fun w1 h1 v w' ⟨st', ρ', k1, k2, k3, k4, k5⟩ => by
     refine Tl hC f rest st' K ρ' _ w' k1 k3 fun st2 ρ2 env2 w2 g1 g2 g3 g4 g5 => hK st2 ρ2 env2 w2 g1 g2 (k2.trans g3) (Grow.trans k4 g4) fun t ht => ?_
     rw [hw, Gr, Bool.or_eq_false_iff] at ht
     rw [g5 t ht.2, k5 t ht.1]
    simp only [List.map_cons]
    rcases A99 (C := C) (E := E) o with hk1 | hk1 | hk1
    ·rw [hk1] at hk; cases hk
    ·rw [hk1]
     refine Af2 hg (I6 hC hs hg h).1 fun w1 h1 => ?_
     exact (I6 hC (hs.rel h1) hg h).2.mono fun v w' ⟨q1, q2⟩ => ⟨q1 (hE ▸ hk1), go w1 h1 v w' q2⟩
    ·rw [hk1]
     refine Bjg hg (I6 hC hs hg h).1 fun w1 h1 => ?_
     exact (I6 hC (hs.rel h1) hg h).2.mono fun v w' ⟨q1, q2⟩ => go w1 h1 v w' q2
  ·rename_i j b hgo
   split at h
   ·cases h
   ·rename_i s hj
    split at h
    ·rename_i g seg p x y rest' hgv hseg
     obtain ⟨hl, hp⟩ := Tt hseg
     split at h
     ·cases h
     ·rename_i d hd
      have hc := (bt h).1; replace h := (bt h).2
      simp only [Bool.and_eq_true] at hc
      obtain ⟨⟨⟨hsk, hns⟩, hlt⟩, hmp, hall⟩ := hc
      have hns : Am (Bb seg) s = false := by simpa using hns
      have hpg : p.guard = none := by unfold isNone at hmp; split at hmp; assumption; cases hmp
      have hgs : ∀ o ∈ seg, Nq C E o := fun o ho => List.all_eq_true.1 hall o ho
      have hgp : Nq C E p := by
       obtain ⟨pd, pop, _, _, _, _⟩ := p
       simp only at hp
       subst hp
       rfl
      obtain ⟨v, hv, h⟩ := Af h
      rw [hl]
      refine Afx (T := fun l env w => WO Tryz.prog C.n ops.toArray Q (l.map fun o => (o, Bv C E o)) env w) (good := Nq C E) (QT.wo' E) hs hj hgv hp hd hlt hsk hns hgs hgp (fun env' he a ha => by simp [Region.wanted, hpg]) hv (fun g' z tl hz hs' hk' => ?_) fun env' w' hr hs' => ?_
      ·exact Tm (QT.wo' (Q := Q) E) (Bfz hC) (f + 1) [(j, b)] seg _ Bool _ v ρ env w tl hgs hz hs' fun st' ρ' env' w' q1 q2 q3 q4 q5 q6 => hk' st' ρ' env' w' q1 q2 q3 q5 q6
      ·refine Tl hC f rest' _ K ρ env' w' h hs' fun st2 ρ2 env2 w2 k1 k2 k3 k4 k5 => hK st2 ρ2 env2 w2 k1 k2 k3 ⟨k4.nxt, k4.own, k4.rds⟩ fun t ht => ?_
       rw [hl, K5, Gr] at ht
       simp only [Bb, hd, Am, Bool.or_eq_false_iff] at ht
       rw [k5 t ht.2.2]
       simp only [Ap, ht.2.1, cond_false]
       exact Kj ht.1
    ·cases h
theorem Ar0 {E : List Nat} : ∀ {l : List (Oper × Nat)}, Ss C E l = true -> l = (P1 l).map fun o => (o, Bv C E o)
 | [], _ => rfl
 | p :: r, h => by
  simp only [Ss, Bool.and_eq_true] at h
  simp only [P1, List.map_cons]
  rw [<- Ar0 h.2, <- Nat.eq_of_beq_eq_true h.1]
theorem Adv {l : List Oper} : ∀ {ks : List (Nat × Nat)}, ∀ o ∈ P1 (H0 l ks), o ∈ l
 | [], _, h => by cases h
 | k :: ks, o, h => by
  simp only [H0] at h
  split at h
  ·rename_i o' ho
   rcases List.mem_cons.1 h with rfl | h
   ·exact List.mem_of_getElem? ho
   ·exact Adv o h
  ·exact Adv o h
theorem Awa {t : Nat} {o : Oper} {r : List Oper} (h : Am (Bb (o :: r)) t = false) : o.dst ≠ some t /\ Am (Bb r) t = false := by
 rw [show Bb (o :: r) = Bb [o] ++ Bb r from K5 (a := [o]) (b := r), Gr, Bool.or_eq_false_iff] at h
 refine ⟨fun e => ?_, h.2⟩
 have h1 := h.1
 simp [Bb, e, Am] at h1
theorem O3 {t : Nat} {l : List Oper} (h : Am (Bb l) t = false) : ∀ o ∈ l, o.dst ≠ some t := by
 induction l with
 | nil => intro o ho; cases ho
 | cons o' r ih =>
  intro o ho
  rcases List.mem_cons.1 ho with e | ho
  ·rw [e]; exact (Awa h).1
  ·exact ih (Awa h).2 o ho
theorem Zn {t : Nat} : ∀ {l : List Oper}, (∀ o ∈ l, o.dst ≠ some t) -> Am (Bb l) t = false
 | [], _ => rfl
 | o :: r, h => by
  have h1 := h o (List.mem_cons_self ..)
  have h2 := Zn (l := r) fun o ho => h o (List.mem_cons_of_mem _ ho)
  simp only [Bb]
  split
  ·rename_i d hd
   simp only [Am, h2, Bool.or_false]
   exact G3 fun e => h1 (by rw [hd, e])
  ·exact h2
theorem Bd1 (hC : ∀ c ∈ C.cons, Holds amb c) {Q : Post} {id : Nat} {aops : Array Oper} {K : SSt -> Option R} (hc1 : Region.noSelect aops.toList.toArray = true) (hc2 : L8 aops.toList.toArray (Kr C (Hs aops.toList) aops.toList aops.toList.length (Array.replicate aops.toList.length false)) (Array.replicate aops.toList.length false) = true)
  (h : (bif (Nat.beq (Kr C (Hs aops.toList) aops.toList aops.toList.length (Array.replicate aops.toList.length false)).length aops.toList.length && (Kr C (Hs aops.toList) aops.toList aops.toList.length (Array.replicate aops.toList.length false)).all fun k => Nat.blt k.1 aops.toList.length) && Ss C (Hs aops.toList) (H0 aops.toList (Kr C (Hs aops.toList) aops.toList aops.toList.length (Array.replicate aops.toList.length false))) then Kv C (Hs aops.toList) aops.toList (aops.toList.length + 1) (P1 (H0 aops.toList (Kr C (Hs aops.toList) aops.toList aops.toList.length (Array.replicate aops.toList.length false)))) st K else none) = some r) (hs : Sat B amb ρ st env w)
  (hK : ∀ st' ρ' env' w', K st' = some r -> Sat B amb ρ' st' env' w' -> Ext ρ ρ' -> Grow st st' -> (∀ t, Am (Bb aops.toList) t = false -> Ap st'.env t = Ap st.env t) -> Q .normal env' w') : WC Tryz.prog C.n (.region id aops true) Q env w := by
 have e : aops = aops.toList.toArray := by simp
 have hc := (bt h).1; replace h := (bt h).2
 simp only [Bool.and_eq_true] at hc
 obtain ⟨⟨hc3, hc4⟩, hc5⟩ := hc
 rw [e]
 refine T8 (Kr C (Hs aops.toList) aops.toList aops.toList.length (Array.replicate aops.toList.length false)) Tryz_mixed hc1 hc3 hc2 hc4 ?_
 rw [Ar0 hc5]
 exact Tl hC _ _ st K ρ env w h hs fun st' ρ' env' w' k1 k2 k3 k4 k5 => hK st' ρ' env' w' k1 k2 k3 k4 fun t ht => k5 t (Zn fun o ho => O3 ht o (Adv o ho))
end
end
section
open Go.RowKit
section
variable {ρ ρ' : List HV} {rs rs' : List Rd} {B : Base} {amb : List Rd} {st : SSt} {env : Env} {w : World} {m : List As}
def CIn (rs : List Rd) (c : CT) (l : Leaf) (u : Value) (m : List As) : Prop := match c with
 | .ro _ => m = [] /\ ∃ t L, l = .sl t L /\ rV u l.ce ∈ rs
 | .sha _ => ∃ t L xs, l = .sl t L /\ m = [Bf (sz t) u L.length xs] /\ rX xs (L.flatMap (fD t)) ∈ rs
 | _ => m = [oC l.ce u]
def CsIn (rs : List Rd) : List CT -> List Leaf -> List Value -> List As -> Prop
 | [], ls, us, m => ls = [] /\ us = [] /\ m = []
 | c :: cs, ls, us, m => (c.isNl = true /\ ∃ u', us = .slice none 0 0 :: u' /\ CsIn rs cs ls u' m) \/ (c.isNl = false /\ ∃ l l' u u' m1 m2, ls = l :: l' /\ us = u :: u' /\ m = m1 ++ m2 /\ CIn rs c l u m1 /\ CsIn rs cs l' u' m2)
def VIn (ρ : List HV) (rs : List Rd) (env : Env) (e : List (Nat × Option SV)) : List VK -> List Leaf -> List As -> Prop
 | [], ls, m => ls = [] /\ m = []
 | .slot s c :: r, ls, m => ∃ l l' u m1 m2, ls = l :: l' /\ lk env s = some u /\ m = m1 ++ m2 /\ CIn rs c l u m1 /\ VIn ρ rs env e r l' m2
 | .inp s _ :: r, ls, m => ∃ h t L l' q m2, ls = .sl t L :: l' /\ Ap e s = some (.v (.c (.sl h))) /\ ρ[h]? = some (.row q) /\ m = oC (Ad (sz t) (fD t) L) q.v :: m2 /\ VIn ρ rs env e r l' m2
 | .box s k cs :: r, ls, m => ∃ h b ty l1 l2 us m1 m2, ls = l1 ++ l2 /\ Su e s k = some h /\ ρ[h]? = some (.box b) /\ CsIn rs cs l1 us m1 /\ m = Aw b (List.toArray us) ty :: (m1 ++ m2) /\ VIn ρ rs env e r l2 m2
theorem Bai {e : List (Nat × Option SV)} {env0 : Env} (he : EnvOk ρ e env0) {s k h : Nat} (hb : Su e s k = some h) : ∃ b, ρ[h]? = some (.box b) := by
 unfold Su at hb
 split at hb
 ·rename_i h' o hl
  have h1 := (bt hb).1; replace hb := (bt hb).2
  cases hb
  obtain ⟨_, _, b, k1, _⟩ := he _ _ hl
  exact ⟨b, k1⟩
 ·rename_i f caps hl
  split at hb
  ·cases hb
  ·rename_i k'
   split at hb
   ·rename_i h' o hn
    have h1 := (bt hb).1; replace hb := (bt hb).2
    cases hb
    obtain ⟨_, _, vs, _, k2⟩ := he _ _ hl
    obtain ⟨u, _, b, k3, _⟩ := k2.nth hn
    exact ⟨b, k3⟩
   ·cases hb
 ·cases hb
theorem CIn.mono (hr : ∀ r ∈ rs, r ∈ rs') {c : CT} {l : Leaf} {u : Value} (h : CIn rs c l u m) : CIn rs' c l u m := by
 cases c with
 | ro t => exact ⟨h.1, by obtain ⟨t, L, e, hm⟩ := h.2; exact ⟨t, L, e, hr _ hm⟩⟩
 | sha t => obtain ⟨t, L, xs, e1, e2, hm⟩ := h; exact ⟨t, L, xs, e1, e2, hr _ hm⟩
 | _ => exact h
theorem CsIn.mono (hr : ∀ r ∈ rs, r ∈ rs') : ∀ {cs : List CT} {ls : List Leaf} {us : List Value} {m : List As}, CsIn rs cs ls us m -> CsIn rs' cs ls us m
 | [], _, _, _, h => h
 | _ :: _, _, _, _, .inl ⟨h0, u', e, h⟩ => .inl ⟨h0, u', e, CsIn.mono hr h⟩
 | _ :: _, _, _, _, .inr ⟨h0, l, l', u, u', m1, m2, e1, e2, e3, h1, h2⟩ => .inr ⟨h0, l, l', u, u', m1, m2, e1, e2, e3, h1.mono hr, CsIn.mono hr h2⟩
theorem CsIn.len : ∀ {cs : List CT} {ls : List Leaf} {us : List Value} {m : List As}, CsIn rs cs ls us m -> ls.length = (Jk cs).length
 | [], _, _, _, h => by rw [h.1]; rfl
 | _ :: _, _, _, _, .inl ⟨h0, u', e, h⟩ => by simp only [Jk, h0, cond_true]; exact CsIn.len h
 | _ :: _, _, _, _, .inr ⟨h0, l, l', u, u', m1, m2, e1, e2, e3, h1, h2⟩ => by rw [e1]; simp [Jk, h0, CsIn.len h2]
theorem VIn.mono (hx : Ext ρ ρ') (hr : ∀ r ∈ rs, r ∈ rs') {e : List (Nat × Option SV)} : ∀ {v : List VK} {ls : List Leaf} {m : List As}, VIn ρ rs env e v ls m -> VIn ρ' rs' env e v ls m
 | [], _, _, h => h
 | .slot _ _ :: _, _, _, ⟨l, l', u, m1, m2, e1, e2, e3, h1, h2⟩ => ⟨l, l', u, m1, m2, e1, e2, e3, h1.mono hr, VIn.mono hx hr h2⟩
 | .inp _ _ :: _, _, _, ⟨h, t, L, l', q, m2, e1, e2, e3, e4, h2⟩ => ⟨h, t, L, l', q, m2, e1, e2, hx.get e3, e4, VIn.mono hx hr h2⟩
 | .box _ _ _ :: _, _, _, ⟨h, b, ty, l1, l2, us, m1, m2, e1, e2, e3, h1, e4, h2⟩ => ⟨h, b, ty, l1, l2, us, m1, m2, e1, e2, hx.get e3, h1.mono hr, e4, VIn.mono hx hr h2⟩
theorem VIn.back (hx : Ext ρ ρ') {e : List (Nat × Option SV)} {env0 : Env} (he : EnvOk ρ e env0) : ∀ {v : List VK} {ls : List Leaf} {m : List As}, VIn ρ' rs env e v ls m -> VIn ρ rs env e v ls m
 | [], _, _, h => h
 | .slot _ _ :: _, _, _, ⟨l, l', u, m1, m2, e1, e2, e3, h1, h2⟩ => ⟨l, l', u, m1, m2, e1, e2, e3, h1, VIn.back hx he h2⟩
 | .inp _ _ :: _, _, _, ⟨h, t, L, l', q, m2, e1, e2, e3, e4, h2⟩ => ⟨h, t, L, l', q, m2, e1, e2, by
   obtain ⟨_, _, q', k1, _⟩ := he _ _ e2
   exact hx.back e3 k1, e4, VIn.back hx he h2⟩
 | .box _ _ _ :: _, _, _, ⟨h, b, ty, l1, l2, us, m1, m2, e1, e2, e3, h1, e4, h2⟩ => ⟨h, b, ty, l1, l2, us, m1, m2, e1, e2, by
   obtain ⟨q', k1⟩ := Bai he e2
   exact hx.back e3 k1, h1, e4, VIn.back hx he h2⟩
theorem VIn.inEnv {env' : Env} {e : List (Nat × Option SV)} : ∀ {v : List VK} {ls : List Leaf} {m : List As}, VIn ρ rs env e v ls m -> (∀ t, Am (A6 v) t = true -> lk env' t = lk env t) -> VIn ρ rs env' e v ls m
 | [], _, _, h, _ => h
 | .slot s _ :: _, _, _, ⟨l, l', u, m1, m2, e1, e2, e3, h1, h2⟩, he => ⟨l, l', u, m1, m2, e1, by rw [he s (by simp [A6, Am]), e2], e3, h1, VIn.inEnv h2 fun t ht => he t (by simp [A6, Am, ht])⟩
 | .inp _ _ :: _, _, _, ⟨h, t, L, l', q, m2, e1, e2, e3, e4, h2⟩, he => ⟨h, t, L, l', q, m2, e1, e2, e3, e4, VIn.inEnv h2 fun t ht => he t ht⟩
 | .box _ _ _ :: _, _, _, ⟨h, b, ty, l1, l2, us, m1, m2, e1, e2, e3, h1, e4, h2⟩, he => ⟨h, b, ty, l1, l2, us, m1, m2, e1, e2, e3, h1, e4, VIn.inEnv h2 fun t ht => he t ht⟩
theorem Z.appL {a b c : List As} (h : Z w a b) : Z w (c ++ a) (c ++ b) := (Z.perm List.perm_append_comm).trans ((Z.app h).trans (Z.perm List.perm_append_comm))
theorem Apf {c : CT} {x : Cell} {p : Leaf × SSt} {u : Value} {mm : List As} (h : Nm c x st = some p) (hd : x.Den ρ u) (h1 : OwnOk ρ rs st.own m) (h2 : RdsOk ρ st.rds rs) (hM : St B (mm ++ m) rs w) :
  ∃ m1 m2 rs', (∀ r ∈ rs, r ∈ rs') /\ CIn rs' c p.1 u m1 /\ OwnOk ρ rs' p.2.own m2 /\ St B (mm ++ (m1 ++ m2)) rs' w /\ OwnLe st.own p.2.own /\ p.2 = { st with own := p.2.own } := by
 have more : ∀ r : Rd, ∀ r' ∈ rs, r' ∈ r :: rs := fun _ _ h => List.mem_cons_of_mem _ h
 cases c with
 | sc n =>
  simp only [Nm, Option.map_eq_some_iff] at h
  obtain ⟨l, h3, rfl⟩ := h
  exact ⟨_, m, rs, fun _ h => h, rfl, h1, hM.z (zP (Yz h3 hd).2 zI).appL, OwnLe.refl _, rfl⟩
 | row t =>
  simp only [Nm, Option.map_eq_some_iff] at h
  obtain ⟨z, h3, rfl⟩ := h
  obtain ⟨l1, m', k1, k2⟩ := Adx h3 hd h1
  exact ⟨_, m', rs, fun _ h => h, rfl, k1, hM.z (k2 w).appL, l1, rfl⟩
 | ro t =>
  simp only [Nm] at h
  split at h
  ·cases h; cases hd
   exact ⟨[], m, _, more _, ⟨rfl, _, _, rfl, List.mem_cons_self ..⟩, OwnOk.mono (Ext.refl ρ) (more _) h1, hM.nilR _ _, OwnLe.refl _, rfl⟩
  ·obtain ⟨s, s1, rfl⟩ := hd
   split at h
   ·rename_i q hq
    cases h
    obtain ⟨l1, s', m', k1, k2, k3⟩ := Of hq h1
    rw [s1] at k1; cases k1
    exact ⟨[], m', _, more _, ⟨rfl, _, _, rfl, List.mem_cons_self ..⟩, OwnOk.mono (Ext.refl ρ) (more _) k2, ((hM.z (k3 w).appL).z (Z.perm List.perm_middle)).selO, l1, rfl⟩
   ·split at h
    ·rename_i q hq
     cases h
     obtain ⟨l1, s', xs, m', k1, k2, k3, k4⟩ := Mn hq h1
     rw [s1] at k1; cases k1
     have hM2 := ((hM.z (k3 w).appL).z (Z.perm List.perm_middle)).sealS (C1 q.1.t) k4
     exact ⟨[], m', _, more _, ⟨rfl, _, _, rfl, List.mem_cons_self ..⟩, OwnOk.mono (Ext.refl ρ) (more _) k2, hM2, l1, rfl⟩
    ·simp only [Option.map_eq_some_iff] at h
     obtain ⟨cc, h3, rfl⟩ := h
     obtain ⟨v, v1, v2, v3⟩ := J9 h3
     obtain ⟨r, r1, q, q1, q2⟩ := h2 v v1
     subst v3 q2
     rw [v2, s1] at q1; cases q1
     exact ⟨[], m, rs, fun _ h => h, ⟨rfl, _, _, rfl, r1⟩, h1, hM, OwnLe.refl _, rfl⟩
  ·cases h
 | sha t =>
  simp only [Nm] at h
  split at h
  ·cases h; cases hd
   refine ⟨[Bf (sz t) (.slice none 0 0) ([] : List (Ax t)).length []], m, _, more _, ⟨t, [], [], rfl, rfl, List.mem_cons_self ..⟩, OwnOk.mono (Ext.refl ρ) (more _) h1, ?_, OwnLe.refl _, rfl⟩
   exact (hM.nilS (sz t) (fD t)).perm List.perm_middle.symm
  ·obtain ⟨s, s1, rfl⟩ := hd
   split at h
   ·rename_i q hq
    cases h
    obtain ⟨l1, s', xs, m', k1, k2, k3, k4⟩ := Mn hq h1
    rw [s1] at k1; cases k1
    exact ⟨_, m', rs, fun _ h => h, ⟨_, _, xs, rfl, rfl, k4⟩, k2, hM.z (k3 w).appL, l1, rfl⟩
   ·simp only [Option.map_eq_some_iff] at h
    obtain ⟨q, hq, rfl⟩ := h
    obtain ⟨l1, s', m', k1, k2, k3⟩ := Of hq h1
    rw [s1] at k1; cases k1
    obtain ⟨xs, hM2⟩ := ((hM.z (k3 w).appL).z (Z.perm List.perm_middle)).toS
    exact ⟨_, m', _, more _, ⟨_, _, xs, rfl, rfl, List.mem_cons_self ..⟩, OwnOk.mono (Ext.refl ρ) (more _) k2, hM2.perm List.perm_middle.symm, l1, rfl⟩
  ·cases h
 | nl => cases h
theorem SSt.eta {a b : SSt} (h1 : b.env = a.env) (h2 : b.rds = a.rds) (h3 : b.nxt = a.nxt) : b = { a with own := b.own } := by
 cases a; cases b; simp only at h1 h2 h3; subst h1 h2 h3; rfl
theorem Abu : ∀ {cs : List CT} {xs : List Cell} {st : SSt} {p : List Leaf × SSt} {us : List Value} {mm m : List As} {rs : List Rd}, Sd cs xs st = some p -> All2 (Cell.Den ρ) xs us -> OwnOk ρ rs st.own m -> RdsOk ρ st.rds rs -> St B (mm ++ m) rs w ->
  ∃ m1 m2 rs', (∀ r ∈ rs, r ∈ rs') /\ CsIn rs' cs p.1 us m1 /\ OwnOk ρ rs' p.2.own m2 /\ St B (mm ++ (m1 ++ m2)) rs' w /\ OwnLe st.own p.2.own /\ p.2 = { st with own := p.2.own }
 | [], [], st, p, [], mm, m, rs, h, _, h1, _, hM => by cases h; exact ⟨[], m, rs, fun _ h => h, ⟨rfl, rfl, rfl⟩, h1, hM, OwnLe.refl _, rfl⟩
 | c :: cs, x :: xs, st, p, u :: us, mm, m, rs, h, ⟨d1, d2⟩, h1, h2, hM => by
  unfold Sd at h
  cases hc : c.isNl with
  | true =>
   rw [hc] at h
   simp only [cond_true] at h
   split at h
   ·cases d1
    obtain ⟨m1, m2, rs1, a1, a2, a3, a4, a5, a6⟩ := Abu h d2 h1 h2 hM
    exact ⟨m1, m2, rs1, a1, .inl ⟨hc, us, rfl, a2⟩, a3, a4, a5, a6⟩
   ·cases h
  | false =>
  rw [hc] at h
  simp only [cond_false] at h
  obtain ⟨q, h3, h4⟩ := Af h
  obtain ⟨z, h5, h6⟩ := Af h4
  cases h6
  obtain ⟨m1, m2, rs1, a1, a2, a3, a4, a5, a6⟩ := Apf h3 d1 h1 h2 hM
  rw [<- List.append_assoc] at a4
  have hrd : RdsOk ρ q.2.rds rs1 := by rw [a6]; exact h2.mono (Ext.refl ρ) a1
  obtain ⟨m3, m4, rs2, b1, b2, b3, b4, b5, b6⟩ := Abu h5 d2 a3 hrd a4
  refine ⟨m1 ++ m3, m4, rs2, fun r hr => b1 r (a1 r hr), .inr ⟨hc, _, _, _, _, m1, m3, rfl, rfl, rfl, a2.mono b1, b2⟩, b3, by simpa [List.append_assoc] using b4, a5.trans b5, ?_⟩
  have e1 : z.2.env = st.env := by rw [b6, a6]
  have e2 : z.2.rds = st.rds := by rw [b6, a6]
  have e3 : z.2.nxt = st.nxt := by rw [b6, a6]
  exact SSt.eta e1 e2 e3
 | [], [], _, _, _ :: _, _, _, _, _, h, _, _, _ => h.elim
 | [], _ :: _, _, _, _, _, _, _, h, _, _, _, _ => by cases h
 | _ :: _, [], _, _, _, _, _, _, h, _, _, _, _ => by cases h
 | _ :: _, _ :: _, _, _, [], _, _, _, _, h, _, _, _ => h.elim
theorem Se {e : List (Nat × Option SV)} : ∀ {v : List VK} {st : SSt} {p : List Leaf × SSt} {mm m : List As} {rs : List Rd}, Fy e v st = some p -> EnvOk ρ st.env env -> OwnOk ρ rs st.own m -> RdsOk ρ st.rds rs -> St B (mm ++ m) rs w ->
  ∃ m1 m2 rs', (∀ r ∈ rs, r ∈ rs') /\ VIn ρ rs' env e v p.1 m1 /\ OwnOk ρ rs' p.2.own m2 /\ St B (mm ++ (m1 ++ m2)) rs' w /\ OwnLe st.own p.2.own /\ p.2 = { st with own := p.2.own }
 | [], st, p, mm, m, rs, h, _, h1, _, hM => by cases h; exact ⟨[], m, rs, fun _ h => h, ⟨rfl, rfl⟩, h1, hM, OwnLe.refl _, rfl⟩
 | .slot s c :: r, st, p, mm, m, rs, h, he, h1, h2, hM => by
  unfold Fy at h
  split at h
  ·rename_i x hx
   obtain ⟨u, u1, u2⟩ := he _ _ hx
   obtain ⟨q, h3, h4⟩ := Af h
   obtain ⟨z, h5, h6⟩ := Af h4
   cases h6
   obtain ⟨m1, m2, rs1, a1, a2, a3, a4, a5, a6⟩ := Apf h3 u2 h1 h2 hM
   rw [<- List.append_assoc] at a4
   have hrd : RdsOk ρ q.2.rds rs1 := by rw [a6]; exact h2.mono (Ext.refl ρ) a1
   have hev : EnvOk ρ q.2.env env := by rw [a6]; exact he
   obtain ⟨m3, m4, rs2, b1, b2, b3, b4, b5, b6⟩ := Se h5 hev a3 hrd a4
   refine ⟨m1 ++ m3, m4, rs2, fun r hr => b1 r (a1 r hr), ⟨_, _, u, m1, m3, rfl, u1, rfl, a2.mono b1, b2⟩, b3, by simpa [List.append_assoc] using b4, a5.trans b5, ?_⟩
   exact SSt.eta (by rw [b6, a6]) (by rw [b6, a6]) (by rw [b6, a6])
  ·cases h
 | .inp s t :: r, st, p, mm, m, rs, h, he, h1, h2, hM => by
  unfold Fy at h
  split at h
  ·rename_i hh hx
   obtain ⟨q, h3, h4⟩ := Af h
   obtain ⟨z, h5, h6⟩ := Af h4
   cases h6
   obtain ⟨l1, s', m', k1, k2, k3⟩ := Of h3 h1
   have hM' : St B ((mm ++ [oC (Ad (sz q.1.t) (fD q.1.t) q.1.L) s'.v]) ++ m') rs w := by simpa [List.append_assoc] using hM.z (k3 w).appL
   obtain ⟨m3, m4, rs2, b1, b2, b3, b4, b5, b6⟩ := Se (st := { st with own := q.2 }) h5 he k2 h2 hM'
   refine ⟨_ :: m3, m4, rs2, b1, ⟨hh, _, _, _, s', m3, rfl, hx, k1, rfl, b2⟩, b3, by simpa [List.append_assoc] using b4, l1.trans b5, ?_⟩
   exact SSt.eta (by rw [b6]) (by rw [b6]) (by rw [b6])
  ·cases h
 | .box s k cs :: r, st, p, mm, m, rs, h, he, h1, h2, hM => by
  unfold Fy at h
  split at h
  ·rename_i hh hx
   obtain ⟨q, h3, h4⟩ := Af h
   obtain ⟨q2, h5, h6⟩ := Af h4
   obtain ⟨z, h7, h8⟩ := Af h6
   cases h8
   obtain ⟨g, hq⟩ := Ajx h3
   obtain ⟨l1, _, b, ty, vs, m', k1, k2, k3, k4⟩ := J7 hq h1
   have hM' : St B ((mm ++ [Aw b vs.toArray ty]) ++ m') rs w := by simpa [List.append_assoc] using hM.z (k4 w).appL
   obtain ⟨m3, m4, rs2, b1, b2, b3, b4, b5, b6⟩ := Abu (st := { st with own := q.2 }) h5 k2 k3 h2 hM'
   rw [<- List.append_assoc] at b4
   have hrd : RdsOk ρ q2.2.rds rs2 := by rw [b6]; exact h2.mono (Ext.refl ρ) b1
   have hev : EnvOk ρ q2.2.env env := by rw [b6]; exact he
   obtain ⟨m5, m6, rs3, c1, c2, c3, c4, c5, c6⟩ := Se h7 hev b3 hrd b4
   refine ⟨Aw b vs.toArray ty :: (m3 ++ m5), m6, rs3, fun r hr => c1 r (b1 r hr), ⟨hh, b, ty, _, _, vs, m3, m5, rfl, hx, k1, b2.mono c1, rfl, c2⟩, c3, by simpa [List.append_assoc] using c4, l1.trans (b5.trans c5), ?_⟩
   exact SSt.eta (by rw [c6, b6]) (by rw [c6, b6]) (by rw [c6, b6])
  ·cases h
end
end
section
open Go.RowKit
section
variable {ρ ρ' : List HV} {rs rs' : List Rd} {B : Base} {amb : List Rd} {st : SSt} {env : Env} {w : World} {m : List As}
theorem St.swp {a b c : List As} (h : St B ((a ++ b) ++ c) rs w) : St B (b ++ (a ++ c)) rs w := by
 have := h.perm ((List.perm_append_comm (l₁ := a) (l₂ := b)).append_right c)
 simpa [List.append_assoc] using this
theorem EnvOk.set {se : List (Nat × Option SV)} (h : EnvOk ρ se env) {s : Nat} {u : Value} {sv : SV} (hu : lk env s = some u) (hd : sv.Den ρ u) : EnvOk ρ ((s, some sv) :: se) env := fun t x ht => by
 simp only [Ap] at ht
 cases hb : Nat.beq s t with
 | true => rw [hb] at ht; cases ht; cases Nat.eq_of_beq_eq_true hb; exact ⟨u, hu, hd⟩
 | false => rw [hb] at ht; exact h t x ht
structure PutSt (st st' : SSt) : Prop where
 grow : Grow st st'
 own : ∀ c ∈ st.own, c ∈ st'.own
theorem PutSt.refl (st : SSt) : PutSt st st := ⟨Grow.refl st, fun _ h => h⟩
theorem PutSt.trans {a b c : SSt} (h : PutSt a b) (k : PutSt b c) : PutSt a c := ⟨h.grow.trans k.grow, fun x hx => k.own x (h.own x hx)⟩
theorem PutSt.one {a : SSt} (c : Chunk) (hc : a.nxt <= Ec c) : PutSt a { a with own := c :: a.own, nxt := a.nxt + 1 } := ⟨⟨Nat.le_succ _, fun c' h hg => by
 rcases List.mem_cons.1 h with rfl | h
 ·omega
 ·exact ⟨c', h, .inl rfl⟩, [], rfl⟩, fun _ h => List.mem_cons_of_mem _ h⟩
theorem PutSt.setE {a b : SSt} (h : PutSt a b) (e : List (Nat × Option SV)) : PutSt a { b with env := e } := ⟨⟨h.grow.nxt, h.grow.own, h.grow.rds⟩, h.own⟩
theorem Ao8 {c : CT} {l : Leaf} {u : Value} {mm m1 : List As} (hc : CIn rs c l u m1) (hn : ρ.length = st.nxt) (h1 : OwnOk ρ rs st.own m) (h2 : RdsOk ρ st.rds rs) (hM : St B (mm ++ (m1 ++ m)) rs w) :
  ∃ ρ' m', Ext ρ ρ' /\ ρ'.length = (Cm c l st).2.nxt /\ OwnOk ρ' rs (Cm c l st).2.own m' /\ RdsOk ρ' (Cm c l st).2.rds rs /\ St B (mm ++ m') rs w /\ (Cm c l st).1.Den ρ' u /\ PutSt st (Cm c l st).2 /\ (Cm c l st).2.env = st.env := by
 have own : ∀ (l : Leaf), CIn rs (.row (.b 0)) l u m1 -> ∃ ρ' m', Ext ρ ρ' /\ ρ'.length = (Cm (.row (.b 0)) l st).2.nxt /\ OwnOk ρ' rs (Cm (.row (.b 0)) l st).2.own m' /\ RdsOk ρ' (Cm (.row (.b 0)) l st).2.rds rs /\ St B (mm ++ m') rs w /\ (Cm (.row (.b 0)) l st).1.Den ρ' u /\ PutSt st (Cm (.row (.b 0)) l st).2 /\ (Cm (.row (.b 0)) l st).2.env = st.env := fun l hc => by
  have hc' : m1 = [oC l.ce u] := hc
  subst hc'
  have hM1 : St B (oC l.ce u :: (mm ++ m)) rs w := hM.perm List.perm_middle
  have sc : ∀ (y : Cell) (v : Value) (hv : v.oneCell' = true), l.ce = cV v hv -> (∀ ρ, y.Den ρ v) -> Cm (.row (.b 0)) l st = (y, st) -> ∃ ρ' m', Ext ρ ρ' /\ ρ'.length = (Cm (.row (.b 0)) l st).2.nxt /\ OwnOk ρ' rs (Cm (.row (.b 0)) l st).2.own m' /\ RdsOk ρ' (Cm (.row (.b 0)) l st).2.rds rs /\ St B (mm ++ m') rs w /\ (Cm (.row (.b 0)) l st).1.Den ρ' u /\ PutSt st (Cm (.row (.b 0)) l st).2 /\ (Cm (.row (.b 0)) l st).2.env = st.env := fun y v hv he hy e => by
   rw [he] at hM1
   obtain ⟨rfl, hM'⟩ := hM1.valV
   rw [e]
   exact ⟨ρ, m, Ext.refl ρ, hn, h1, h2, hM', hy ρ, PutSt.refl st, rfl⟩
  cases l with
  | i y => exact sc (.i .i64 y) _ rfl rfl (fun _ => rfl) rfl
  | b y => exact sc (.b y) _ rfl rfl (fun _ => rfl) rfl
  | s y => exact sc (.s y) _ rfl rfl (fun _ => rfl) rfl
  | y y => exact sc (.y y) _ rfl rfl (fun _ => rfl) rfl
  | sl t L =>
   obtain ⟨s, rfl, hM'⟩ := hM1.valS
   have hx := Ext.one ρ (.row s)
   have hlast := Di ρ (.row s)
   rw [hn] at hlast
   have hM2 : St B (mm ++ (oV (oC (Ad (sz t) (fD t) L) s.v) [] :: m)) rs w := (hM'.z Z.toV).perm List.perm_middle.symm
   exact ⟨ρ ++ [.row s], oV (oC (Ad (sz t) (fD t) L) s.v) [] :: m, hx, by simp [Cm, hn], ⟨⟨s, [], hlast, rfl, rfl⟩, OwnOk.mono hx (fun _ h => h) h1⟩, h2.mono hx fun _ h => h, hM2, ⟨s, hlast, rfl⟩, PutSt.one _ (Nat.le_refl _), rfl⟩
 cases c with
 | ro t =>
  obtain ⟨rfl, t', L, rfl, hr⟩ := hc
  obtain ⟨s, e⟩ := Cs.sv (hM.seeR hr)
  subst e
  have hx := Ext.one ρ (.row s)
  have hlast := Di ρ (.row s)
  rw [hn] at hlast
  refine ⟨ρ ++ [.row s], m, hx, by simp [Cm, hn], OwnOk.mono hx (fun _ h => h) h1, fun x hm => ?_, hM, ⟨s, hlast, rfl⟩, ⟨⟨Nat.le_succ _, fun c' h _ => ⟨c', h, .inl rfl⟩, [_], rfl⟩, fun _ h => h⟩, rfl⟩
  rcases List.mem_cons.1 hm with rfl | hm
  ·exact ⟨_, hr, s, hlast, rfl⟩
  ·obtain ⟨r, r1, r2⟩ := h2 x hm
   exact ⟨r, r1, r2.mono hx⟩
 | sha t =>
  obtain ⟨t', L, xs, rfl, rfl, hr⟩ := hc
  obtain ⟨s, e⟩ : ∃ s : Sv, u = s.v := by
   obtain ⟨F, _, _, gr⟩ := hM.at' (List.mem_append_right _ (List.mem_append_left _ (List.mem_cons_self ..)))
   rcases gr with ⟨e1, _⟩ | ⟨b, off, cap, _, _, _, e1, _⟩
   ·exact ⟨nS, e1⟩
   ·exact ⟨⟨some ⟨b, off, none⟩, L.length, cap⟩, e1⟩
  subst e
  have hx := Ext.one ρ (.row s)
  have hlast := Di ρ (.row s)
  rw [hn] at hlast
  exact ⟨ρ ++ [.row s], Bf (sz t') s.v L.length xs :: m, hx, by simp [Cm, hn], ⟨⟨s, xs, hlast, rfl, hr⟩, OwnOk.mono hx (fun _ h => h) h1⟩, h2.mono hx fun _ h => h, hM, ⟨s, hlast, rfl⟩, PutSt.one _ (Nat.le_refl _), rfl⟩
 | sc n =>
  have e : Cm (.sc n) l st = Cm (.row (.b 0)) l st := by cases l <;> rfl
  rw [e]; exact own l hc
 | nl =>
  have e : Cm .nl l st = Cm (.row (.b 0)) l st := by cases l <;> rfl
  rw [e]; exact own l hc
 | row t =>
  have e : Cm (.row t) l st = Cm (.row (.b 0)) l st := by cases l <;> rfl
  rw [e]; exact own l hc
theorem Abq : ∀ {cs : List CT} {ls : List Leaf} {us : List Value} {st : SSt} {ρ : List HV} {mm m1 m : List As}, CsIn rs cs ls us m1 -> ρ.length = st.nxt -> OwnOk ρ rs st.own m -> RdsOk ρ st.rds rs -> St B (mm ++ (m1 ++ m)) rs w ->
  ∃ ρ' m', Ext ρ ρ' /\ ρ'.length = (Da cs ls st).2.nxt /\ OwnOk ρ' rs (Da cs ls st).2.own m' /\ RdsOk ρ' (Da cs ls st).2.rds rs /\ St B (mm ++ m') rs w /\ All2 (Cell.Den ρ') (Da cs ls st).1 us /\ PutSt st (Da cs ls st).2 /\ (Da cs ls st).2.env = st.env
 | [], _, _, st, ρ, mm, _, m, ⟨rfl, rfl, rfl⟩, hn, h1, h2, hM => ⟨ρ, m, Ext.refl ρ, hn, h1, h2, hM, trivial, PutSt.refl st, rfl⟩
 | c :: cs, ls, _, st, ρ, mm, m1, m, .inl ⟨h0, u', rfl, hcs⟩, hn, h1, h2, hM => by
  obtain ⟨ρ2, m4, b1, b2, b3, b4, b5, b6, b7, b8⟩ := Abq hcs hn h1 h2 hM
  have e : Da (c :: cs) ls st = (.nil :: (Da cs ls st).1, (Da cs ls st).2) := by simp only [Da, h0, cond_true]
  rw [e]
  exact ⟨ρ2, m4, b1, b2, b3, b4, b5, ⟨rfl, b6⟩, b7, b8⟩
 | c :: cs, _, _, st, ρ, mm, _, m, .inr ⟨h0, l, l', u, u', m1, m2, rfl, rfl, rfl, hc, hcs⟩, hn, h1, h2, hM => by
  have e : Da (c :: cs) (l :: l') st = ((Cm c l st).1 :: (Da cs l' (Cm c l st).2).1, (Da cs l' (Cm c l st).2).2) := by simp only [Da, h0, cond_false]
  rw [e]
  have hM1 : St B ((mm ++ m2) ++ (m1 ++ m)) rs w := hM.perm (by
   rw [List.append_assoc mm m2]
   exact List.Perm.append_left mm (by simpa [List.append_assoc] using (List.perm_append_comm (l₁ := m1) (l₂ := m2)).append_right m))
  obtain ⟨ρ1, m3, a1, a2, a3, a4, a5, a6, a7, a8⟩ := Ao8 hc hn h1 h2 hM1
  rw [List.append_assoc] at a5
  obtain ⟨ρ2, m4, b1, b2, b3, b4, b5, b6, b7, b8⟩ := Abq hcs a2 a3 a4 a5
  exact ⟨ρ2, m4, a1.trans b1, b2, b3, b4, b5, ⟨a6.mono b1, b6⟩, a7.trans b7, b8.trans a8⟩
theorem V8 {e : List (Nat × Option SV)} : ∀ {v : List VK} {ls : List Leaf} {st : SSt} {ρ : List HV} {m1 m : List As}, VIn ρ rs env e v ls m1 -> EnvOk ρ st.env env -> ρ.length = st.nxt -> OwnOk ρ rs st.own m -> RdsOk ρ st.rds rs -> (∀ r ∈ amb, r ∈ rs) -> St B (m1 ++ m) rs w ->
  ∃ ρ', Ext ρ ρ' /\ Sat B amb ρ' (E4 e v ls st) env w /\ PutSt st (E4 e v ls st) /\ ∀ t, Am (A6 v) t = false -> Ap (E4 e v ls st).env t = Ap st.env t
 | [], ls, st, ρ, _, m, ⟨e1, e2⟩, he, hn, h1, h2, h3, hM => by
  subst e1 e2
  exact ⟨ρ, Ext.refl ρ, ⟨hn, he, m, rs, h1, h2, h3, hM⟩, PutSt.refl st, fun _ _ => rfl⟩
 | .slot s c :: r, _, st, ρ, _, m, ⟨l, l', u, m1, m2, rfl, hu, rfl, hc, hr⟩, he, hn, h1, h2, h3, hM => by
  obtain ⟨ρ1, m3, a1, a2, a3, a4, a5, a6, a7, a8⟩ := Ao8 hc hn h1 h2 hM.swp
  have he' : EnvOk ρ1 ((Cm c l st).2.put s (.v (.c (Cm c l st).1))).env env := EnvOk.set (by rw [a8]; exact he.mono a1) hu a6
  obtain ⟨ρ2, b1, b2, b3, b4⟩ := V8 (st := (Cm c l st).2.put s (.v (.c (Cm c l st).1))) (hr.mono a1 fun _ h => h) he' a2 a3 a4 h3 a5
  refine ⟨ρ2, a1.trans b1, b2, (a7.setE _).trans b3, fun t ht => ?_⟩
  simp only [A6, Am, Bool.or_eq_false_iff] at ht
  show Ap (E4 e r l' _).env t = _
  rw [b4 t ht.2]
  show (bif Nat.beq s t then _ else Ap (Cm c l st).2.env t) = _
  rw [ht.1, a8]; rfl
 | .inp s t :: r, _, st, ρ, _, m, ⟨h, t', L, l', q, m2, rfl, hs, hq, rfl, hr⟩, he, hn, h1, h2, h3, hM => by
  have hx := Ext.one ρ (.num 0)
  have hM1 : St B (m2 ++ (oV (oC (Ad (sz t') (fD t') L) q.v) [] :: m)) rs w := (hM.z Z.toV).perm List.perm_middle.symm
  obtain ⟨ρ2, b1, b2, b3, b4⟩ := V8 (e := e) (v := r) (ls := l') (st := { st with own := .row h st.nxt t' L [] :: st.own, nxt := st.nxt + 1 }) (m := _ :: m) (hr.mono hx fun _ h => h) (he.mono hx) (by simp [hn]) ⟨⟨q, [], hx.get hq, rfl, rfl⟩, OwnOk.mono hx (fun _ h => h) h1⟩ (h2.mono hx fun _ h => h) h3 hM1
  have ee : E4 e (.inp s t :: r) (.sl t' L :: l') st = E4 e r l' { st with own := .row h st.nxt t' L [] :: st.own, nxt := st.nxt + 1 } := by simp only [E4, hs]
  rw [ee]
  exact ⟨ρ2, hx.trans b1, b2, PutSt.trans (PutSt.one _ (Nat.le_refl _)) b3, fun t ht => b4 t ht⟩
 | .box s k cs :: r, _, st, ρ, _, m, ⟨h, b, ty, l1, l2, us, m1, m2, rfl, hs, hb, hc, rfl, hr⟩, he, hn, h1, h2, h3, hM => by
  have hM0 : St B ((Aw b us.toArray ty :: m2) ++ (m1 ++ m)) rs w := by
   have := hM.perm (m := Aw b us.toArray ty :: (m1 ++ m2) ++ m) (m' := (Aw b us.toArray ty :: m2) ++ (m1 ++ m)) (by
    simp only [List.cons_append]
    exact List.Perm.cons _ (by simpa [List.append_assoc] using (List.perm_append_comm (l₁ := m1) (l₂ := m2)).append_right m))
   exact this
  obtain ⟨ρ1, m3, a1, a2, a3, a4, a5, a6, a7, a8⟩ := Abq hc hn h1 h2 hM0
  have hx := Ext.one ρ1 (.num 0)
  have hM1 : St B (m2 ++ (Aw b us.toArray ty :: m3)) rs w := a5.perm List.perm_middle.symm
  obtain ⟨ρ2, b1, b2, b3, b4⟩ := V8 (e := e) (v := r) (ls := l2) (st := { (Da cs l1 st).2 with own := .box h (Da cs l1 st).2.nxt (Da cs l1 st).1 :: (Da cs l1 st).2.own, nxt := (Da cs l1 st).2.nxt + 1 }) (m := _ :: m3) (hr.mono (a1.trans hx) fun _ h => h) (by show EnvOk _ (Da cs l1 st).2.env env; rw [a8]; exact he.mono (a1.trans hx)) (by simp [a2]) ⟨⟨b, ty, us, (a1.trans hx).get hb, a6.mono fun _ _ => Cell.Den.mono hx, rfl⟩, OwnOk.mono hx (fun _ h => h) a3⟩ (a4.mono hx fun _ h => h) h3 hM1
  have e1 : (l1 ++ l2).take (Jk cs).length = l1 := by rw [<- hc.len]; simp
  have e2 : (l1 ++ l2).drop (Jk cs).length = l2 := by rw [<- hc.len]; simp
  have ee : E4 e (.box s k cs :: r) (l1 ++ l2) st = E4 e r l2 { (Da cs l1 st).2 with own := .box h (Da cs l1 st).2.nxt (Da cs l1 st).1 :: (Da cs l1 st).2.own, nxt := (Da cs l1 st).2.nxt + 1 } := by simp only [E4, hs, e1, e2]
  rw [ee]
  refine ⟨ρ2, a1.trans (hx.trans b1), b2, a7.trans (PutSt.trans (PutSt.one _ (Nat.le_refl _)) b3), fun t ht => ?_⟩
  rw [b4 t ht]
  show Ap (Da cs l1 st).2.env t = _
  rw [a8]
theorem ViewsAre.tail {s : Sv} {t : Ty} {L : List (Ax t)} : ∀ {ex vs : List View} {l : List Vi}, ViewsAre ρ s t L (ex ++ vs) l -> ∃ l1 l2, l = l1 ++ l2 /\ ViewsAre ρ s t L vs l2
 | [], _, l, h => ⟨[], l, rfl, h⟩
 | _ :: ex, vs, l, ⟨l1, l2, e, _, h⟩ => by
  obtain ⟨a, b, e', h'⟩ := ViewsAre.tail (ex := ex) h
  exact ⟨l1 ++ a, b, by rw [e, e', List.append_assoc], h'⟩
theorem ViewsAre.back (hx : Ext ρ ρ') {s : Sv} {t : Ty} {L : List (Ax t)} : ∀ {vs : List View} {l l0 : List Vi}, ViewsAre ρ' s t L vs l -> ViewsAre ρ s t L vs l0 -> ViewsAre ρ s t L vs l
 | [], _, _, h, _ => h
 | _ :: _, _, _, ⟨l1, l2, e, ⟨s', ex, h1, h2⟩, h3⟩, ⟨_, _, _, ⟨_s0, _, k1, _⟩, k3⟩ => ⟨l1, l2, e, ⟨s', ex, hx.back h1 k1, h2⟩, ViewsAre.back hx h3 k3⟩
theorem Chunk.Is.back (hx : Ext ρ ρ') {c : Chunk} {z z0 : As} {rs0 : List Rd} (h : c.Is ρ' rs z) (h0 : c.Is ρ rs0 z0) : c.Is ρ rs z := by
 cases c with
 | box k g cs =>
  obtain ⟨b, e, vs, h1, h2, h3⟩ := h
  obtain ⟨b0, e0, vs0, k1, k2, _⟩ := h0
  exact ⟨b, e, vs, hx.back h1 k1, h2.back (fun _ _ _ a c => a.back hx c) k2, h3⟩
 | row k g t L vs =>
  obtain ⟨q, vl, h1, h2, h3⟩ := h
  obtain ⟨q0, vl0, k1, k2, _⟩ := h0
  have h1' := hx.back h1 k1
  rw [k1] at h1'; cases h1'
  exact ⟨q, vl, k1, h2.back hx k2, h3⟩
 | sha k g t L =>
  obtain ⟨q, xs, h1, h2, h3⟩ := h
  obtain ⟨q0, xs0, k1, _, _⟩ := h0
  exact ⟨q, xs, hx.back h1 k1, h2, h3⟩
 | hol k g t L i j =>
  obtain ⟨q, q1, h1, h2⟩ := h
  obtain ⟨q0, _, k1, _⟩ := h0
  exact ⟨q, q1, hx.back h1 k1, h2⟩
theorem View.Rd.back (hx : Ext ρ ρ') {x : View} {r r0 : Go.Proofs.YtipinmfmejccdaaGreat.Rd} (h : x.Rd ρ' r) (h0 : x.Rd ρ r0) : x.Rd ρ r := by
 obtain ⟨q, h1, h2⟩ := h
 obtain ⟨q0, k1, _⟩ := h0
 exact ⟨q, hx.back h1 k1, h2⟩
theorem RdsOk.back (hx : Ext ρ ρ') {rds : List View} {rs0 : List Rd} (h : RdsOk ρ' rds rs) (h0 : RdsOk ρ rds rs0) : RdsOk ρ rds rs := fun x hm => by
 obtain ⟨r, r1, r2⟩ := h x hm
 obtain ⟨r', _, k2⟩ := h0 x hm
 exact ⟨r, r1, View.Rd.back hx r2 k2⟩
theorem Z.fewV {o : As} {v1 v2 : List Vi} : Z w [oV o (v1 ++ v2)] [oV o v2] := fun F hF => by
 obtain ⟨h0, F1, F2, h1, h2, h3, h4, h5⟩ := hF
 exact ⟨h0, F1, F2, ⟨h1.1, fun x hx => h1.2 x (List.mem_append_right _ hx)⟩, h2, h3, h4, h5⟩
theorem Chunk.Le.back (hx : Ext ρ ρ') {a b : Chunk} (hl : a.Le b) {z z0 : As} {rs0 : List Rd} (h : b.Is ρ' rs z) (h0 : a.Is ρ rs0 z0) : ∃ z', a.Is ρ rs z' /\ ∀ w, Z w [z] [z'] := by
 rcases hl with rfl | ⟨k, g, t, L, vs, ex, rfl, rfl⟩
 ·exact ⟨z, h.back hx h0, fun w => zI⟩
 ·obtain ⟨q, vl, h1, h2, rfl⟩ := h
  obtain ⟨v1, v2, rfl, h3⟩ := h2.tail
  have h' : (Chunk.row k g t L vs).Is ρ' rs (oV (oC (Ad (sz t) (fD t) L) q.v) v2) := ⟨q, v2, h1, h3, rfl⟩
  exact ⟨_, h'.back hx h0, fun w => Z.fewV⟩
theorem Y8 (hx : Ext ρ ρ') : ∀ {own base : List Chunk} {m m0 : List As} {rs0 : List Rd}, Hj base own = true -> OwnOk ρ' rs own m -> OwnOk ρ rs0 base m0 -> (∀ a ∈ base, ∀ b ∈ own, Ec a = Ec b -> a.Le b) -> ∃ m', OwnOk ρ rs base m' /\ ∀ w, Z w m m'
 | own, [], m, m0, rs0, _, _, _, _ => ⟨[], trivial, fun w F hF => by
   have hl : ∀ {m : List As} {F : Bs}, Sep m F w -> Sep [] F w := fun {m} => by
    induction m with
    | nil => exact fun h => h
    | cons a m ih => exact fun h => ih h.tail
   exact hl hF⟩
 | [], _ :: _, _, _, _, h, _, _, _ => by cases h
 | b :: own, a :: base, z :: m, z0 :: m0, rs0, h, ⟨h1, h2⟩, ⟨k1, k2⟩, hle => by
  simp only [Hj] at h
  cases hb : Nat.beq (Ec a) (Ec b) with
  | true =>
   rw [hb] at h
   obtain ⟨z', a1, a2⟩ := (hle a (List.mem_cons_self ..) b (List.mem_cons_self ..) (Nat.eq_of_beq_eq_true hb)).back hx h1 k1
   obtain ⟨m', b1, b2⟩ := Y8 hx h h2 k2 fun x hx y hy => hle x (List.mem_cons_of_mem _ hx) y (List.mem_cons_of_mem _ hy)
   exact ⟨z' :: m', ⟨a1, b1⟩, fun w => (Z.app (c := m) (a2 w)).trans (b2 w).cons⟩
  | false =>
   rw [hb] at h
   obtain ⟨m', b1, b2⟩ := Y8 hx (base := a :: base) (m0 := z0 :: m0) h h2 ⟨k1, k2⟩ fun x hx y hy => hle x hx y (List.mem_cons_of_mem _ hy)
   exact ⟨m', b1, fun w F hF => b2 w F hF.tail⟩
 | _ :: _, _ :: _, [], _, _, _, h, _, _ => h.elim
 | _ :: _, _ :: _, _ :: _, [], _, _, _, h, _ => h.elim
end
end
section
open Go.RowKit
section
variable {P : Program} {n : Nat} {env : Env} {w : World} {Q : Post}
def lpE {α : Type} (Φ : α -> Env -> World -> Prop) (μ : α -> Nat) (x : α) (Q : Post) : Post
 | .normal, env, w => ∃ y, μ y < μ x /\ Φ y env w
 | e, env, w => Q e env w
theorem Av7 {α : Type} (Φ : α -> Env -> World -> Prop) (μ : α -> Nat) (x0 : α) {c : Code} (h0 : Φ x0 env w)
  (hr : ∀ x env w, Φ x env w -> WC P n c (lpE Φ μ x Q) env w) : WC P n (.loop c) Q env w := by
 intro a ha b k cs
 have turn : ∀ m x a env w, μ x = m -> Has n a env -> Φ x env w ->
   ∃ e a' w', I9 n Q e a' w' /\ Arrives P (lone (b.at a (.code c :: .inLoop c :: k)) cs w) b k cs e a' w' := by
  intro m
  induction m using Nat.strongRecOn with
  | _ m ih =>
   intro x a env w hm h1 h2
   obtain ⟨e, a1, w1, ⟨env1, he1, hq⟩, harr⟩ := hr x env w h2 a h1 b (.inLoop c :: k) cs
   cases e with
   | normal =>
    obtain ⟨y, hy, hΦ⟩ := hq
    obtain ⟨e2, a2, w2, hq2, harr2⟩ := ih (μ y) (hm ▸ hy) y a1 env1 w1 rfl he1 hΦ
    exact ⟨e2, a2, w2, hq2, .of_steps (Steps.trans harr (.one step_inLoop)) harr2⟩
   | _ => exact ⟨_, a1, w1, ⟨env1, he1, hq⟩, .pass (x := .inLoop c) rfl (fun _ _ => .inl (by simp)) harr⟩
 obtain ⟨e, a', w', hq, harr⟩ := turn _ x0 a env w rfl ha h0
 exact ⟨e, a', w', hq, .of_steps (.one step_loop) harr⟩
end
section
variable {ρ ρ' : List HV} {rs rs' : List Rd} {B : Base} {amb : List Rd} {st : SSt} {env : Env} {w : World} {m : List As}
theorem T6 : ∀ {ts : List Ty} {ls : List (List Leaf)} {x : Tup ts}, Ms ts ls = some x -> Gh ts x = ls
 | [], [], _, _ => rfl
 | [a], [l], x, h => by
  exact congrArg (fun z => [z]) (D5 (t := a) (l := l) (x := x) h)
 | a :: b :: r, l :: ls, x, h => by
  have h0 : Option.bind (mk a l) (fun x => Option.bind (Ms (b :: r) ls) fun y => some (x, y)) = some x := h
  obtain ⟨y, h1, h2⟩ := Option.bind_eq_some_iff.1 h0
  obtain ⟨z, h3, h4⟩ := Option.bind_eq_some_iff.1 h2
  have h5 := T6 h3
  have h6 := D5 h1
  have h7 : (y, z) = x := Option.some.inj h4
  subst h7
  exact (congrArg (fun u => u :: Gh (b :: r) z) h6).trans (congrArg (fun u => l :: u) h5)
 | [], _ :: _, _, h => by cases h
 | [_], [], _, h => by cases h
 | [_], _ :: _ :: _, _, h => by cases h
 | _ :: _ :: _, [], _, h => by cases h
theorem Zl : ∀ {ls : List Leaf}, Jl (Om ls) = ls
 | [] => rfl
 | l :: ls => by simp [Om, Jl, Zl (ls := ls)]
theorem Lw {wl : List Nat} {t : Nat} {sv : SV} : ∀ {e : List (Nat × Option SV)}, Ap (Bg wl e) t = some sv -> Am wl t = false /\ Ap e t = some sv
 | [], h => by cases h
 | (k, v) :: r, h => by
  simp only [Bg] at h
  cases hb : Am wl k with
  | true =>
   rw [hb] at h
   have ih := Lw (e := r) h
   refine ⟨ih.1, ?_⟩
   cases hk : Nat.beq k t with
   | true => cases Nat.eq_of_beq_eq_true hk; rw [hb] at ih; cases ih.1
   | false => simp only [Ap, hk, cond_false]; exact ih.2
  | false =>
   rw [hb] at h
   simp only [cond_false, Ap] at h
   cases hk : Nat.beq k t with
   | true => rw [hk] at h; cases Nat.eq_of_beq_eq_true hk; exact ⟨hb, by simp only [Ap, hk, cond_true]; exact h⟩
   | false => rw [hk] at h; have ih := Lw (e := r) h; exact ⟨ih.1, by simp only [Ap, hk, cond_false]; exact ih.2⟩
theorem Au6 {wl : List Nat} {t : Nat} : ∀ {l : List Nat}, Jj wl l = true -> Am wl t = false -> Am l t = false
 | [], _, _ => rfl
 | a :: l, h, ht => by
  simp only [Jj, Bool.and_eq_true] at h
  simp only [Am, Bool.or_eq_false_iff]
  refine ⟨?_, Au6 h.2 ht⟩
  cases hb : Nat.beq a t with
  | false => rfl
  | true => cases Nat.eq_of_beq_eq_true hb; rw [h.1] at ht; cases ht
theorem Aff {e : List (Nat × Option SV)} {t : Nat} {sv : SV} : ∀ {b : List (Nat × Option SV)}, Tz e b = true -> Ap b t = some sv -> ∃ sv', Ap e t = some sv'
 | [], _, h => by cases h
 | (k, some x) :: r, hs, h => by
  simp only [Tz, Bool.and_eq_true] at hs
  simp only [Ap] at h
  cases hk : Nat.beq k t with
  | true =>
   cases Nat.eq_of_beq_eq_true hk
   have := hs.1
   split at this
   ·rename_i x hx; exact ⟨x, hx⟩
   ·cases this
  | false => rw [hk] at h; exact Aff hs.2 h
 | (k, none) :: r, hs, h => by
  simp only [Ap] at h
  cases hk : Nat.beq k t with
  | true => rw [hk] at h; cases h
  | false => rw [hk] at h; exact Aff (b := r) hs h
theorem Ab4 {a : Chunk} : ∀ {own : List Chunk}, a ∈ own -> Am (Ke own) (Ec a) = true
 | b :: r, h => by
  simp only [Ke, Am, Bool.or_eq_true]
  rcases List.mem_cons.1 h with rfl | h
  ·exact .inl (Nat.beq_refl _)
  ·exact .inr (Ab4 h)
theorem Wt {a c : Chunk} : ∀ {own : List Chunk}, L5 (Ke own) = true -> a ∈ own -> c ∈ own -> Ec a = Ec c -> a = c
 | b :: r, hn, ha, hc, e => by
  simp only [Ke, L5, Bool.and_eq_true, Bool.not_eq_true'] at hn
  rcases List.mem_cons.1 ha with ha' | ha' <;> rcases List.mem_cons.1 hc with hc' | hc'
  ·rw [ha', hc']
  ·have := Ab4 hc'
   rw [<- e, ha', hn.1] at this; cases this
  ·have := Ab4 ha'
   rw [e, hc', hn.1] at this; cases this
  ·exact Wt hn.2 ha' hc' e
theorem Xy {k : Nat} {a : Chunk} : ∀ {own : List Chunk}, Xx k (Ke own) = true -> a ∈ own -> Ec a < k
 | b :: r, h, ha => by
  simp only [Ke, Xx, Bool.and_eq_true] at h
  rcases List.mem_cons.1 ha with rfl | ha
  ·simpa using h.1
  ·exact Xy h.2 ha
structure Inv (B : Base) (amb : List Rd) (ρ : List HV) (base : SSt) (v : List VK) (ls : List Leaf) (env : Env) (w : World) : Prop where
 len : ρ.length = base.nxt
 evs : EnvOk ρ base.env env
 mem : ∃ m1 m2 rs, VIn ρ rs env base.env v ls m1 /\ OwnOk ρ rs base.own m2 /\ RdsOk ρ base.rds rs /\ (∀ r ∈ amb, r ∈ rs) /\ St B (m1 ++ m2) rs w
theorem Inv.enter (hs : Sat B amb ρ st env w) {e : List (Nat × Option SV)} {v : List VK} {p : List Leaf × SSt} (h : Fy e v st = some p) (he : ∀ t sv, Ap e t = some sv -> Ap st.env t = some sv) :
  Inv B amb ρ { p.2 with env := e } v p.1 env w /\ (∀ c ∈ p.2.own, c ∈ st.own) /\ p.2 = { st with own := p.2.own } := by
 obtain ⟨m, rs, h1, h2, h3, hM⟩ := hs.mem
 obtain ⟨m1, m2, rs', a1, a2, a3, a4, a5, a6⟩ := Se (mm := []) h hs.env h1 h2 hM
 refine ⟨⟨?_, fun t sv ht => hs.env t sv (he t sv ht), m1, m2, rs', a2, a3, ?_, fun r hr => a1 r (h3 r hr), a4⟩, a5, a6⟩
 ·show ρ.length = p.2.nxt
  rw [a6]; exact hs.len
 ·show RdsOk ρ p.2.rds rs'
  rw [a6]; exact h2.mono (Ext.refl ρ) a1
theorem Inv.sat {base : SSt} {v : List VK} {ls : List Leaf} (h : Inv B amb ρ base v ls env w) : ∃ ρ', Ext ρ ρ' /\ Sat B amb ρ' (E4 base.env v ls base) env w /\ PutSt base (E4 base.env v ls base) /\ ∀ t, Am (A6 v) t = false -> Ap (E4 base.env v ls base).env t = Ap base.env t := by
 obtain ⟨m1, m2, rs, h1, h2, h3, h4, hM⟩ := h.mem
 exact V8 h1 h.evs h.len h2 h3 h4 hM
theorem Inv.put {base : SSt} {v : List VK} {ls : List Leaf} (h : Inv B amb ρ base v ls env w) {d : Nat} {u : Value} (h1 : Am (A6 v) d = false) (h2 : Ap base.env d = none) : Inv B amb ρ base v ls ((d, u) :: env) w := by
 have hne : ∀ t, t ≠ d -> lk ((d, u) :: env) t = lk env t := fun t ht => by simp only [lk]; rw [G3 (Ne.symm ht)]; rfl
 obtain ⟨m1, m2, rs, k1, k2, k3, k4, hM⟩ := h.mem
 refine ⟨h.len, fun t sv ht => ?_, m1, m2, rs, k1.inEnv fun t ht => hne t fun e => ?_, k2, k3, k4, hM⟩
 ·rw [hne t fun e => by rw [e, h2] at ht; cases ht]
  exact h.evs t sv ht
 ·rw [e, h1] at ht; cases ht
theorem Inv.back {base s1 st' : SSt} {v : List VK} {ls0 : List Leaf} {env0 env' : Env} {w0 w' : World} {y : VT v} (hI : Inv B amb ρ base v ls0 env0 w0) (hok : Ev s1 = true) (hsub : ∀ a ∈ base.own, a ∈ s1.own)
  (hs' : Sat B amb ρ' st' env' w') (hx : Ext ρ ρ') (hg : Grow s1 st') (hrd : ∃ x, st'.rds = x ++ base.rds) (hE : ∀ t sv, Ap base.env t = some sv -> Ap st'.env t = none \/ Ap st'.env t = some sv) (hy : Dh v base st' = some y) :
  Inv B amb ρ base v (Jl (Gh _ y)) env' w' := by
 unfold Dh at hy
 obtain ⟨p, h1, h2⟩ := Af hy
 have hb := (bt h2).1; replace h2 := (bt h2).2
 rw [T6 h2, Zl]
 simp only [Bool.and_eq_true] at hb
 obtain ⟨m0, rs0, k1, k2, k3, hM⟩ := hs'.mem
 obtain ⟨m1, m2, rs1, a1, a2, a3, a4, a5, a6⟩ := Se (mm := []) h1 hs'.env k1 k2 hM
 obtain ⟨_, m20, rs2, _, b2, b3, _, _⟩ := hI.mem
 have he : EnvOk ρ base.env env' := fun t sv ht => by
  obtain ⟨sv', q1⟩ := Aff hb.2 ht
  rcases hE t sv ht with q | q
  ·rw [q] at q1; cases q1
  ·obtain ⟨u, u1, u2⟩ := hs'.env t sv q
   obtain ⟨u0, _, u3⟩ := hI.evs t sv ht
   exact ⟨u, u1, u2.back hx u3⟩
 simp only [Ev, Bool.and_eq_true] at hok
 obtain ⟨m2', c1, c2⟩ := Y8 (rs := rs1) hx hb.1 a3 b2 fun a ha b hb' e => by
  have hb1 := a5 b hb'
  obtain ⟨c, g1, g2⟩ := hg.own b hb1 (by rw [<- e]; exact Xy hok.2 (hsub a ha))
  rw [Wt hok.1 (hsub a ha) g1 (by rw [e, g2.g])]
  exact g2
 obtain ⟨x, hx'⟩ := hrd
 have hrd' : RdsOk ρ base.rds rs1 := by
  have q : RdsOk ρ' base.rds rs1 := fun z hz => by
   obtain ⟨r, r1, r2⟩ := k2 z (by rw [hx']; exact List.mem_append_right _ hz)
   exact ⟨r, a1 r r1, r2⟩
  exact q.back hx b3
 exact ⟨hI.len, he, m1, m2', rs1, a2.back hx hI.evs, c1, hrd', fun r hr => a1 r (k3 r hr), (show St B (m1 ++ m2) rs1 w' from a4).z (c2 w').appL⟩
def A04 : Option Nat -> Exit
 | none => .normal
 | some i => .exit i
def Fr (l : List Nat) (st st' : SSt) : Prop := ∀ t, Am l t = false -> Ap st'.env t = none \/ Ap st'.env t = Ap st.env t
theorem Fr.refl (l : List Nat) (st : SSt) : Fr l st st := fun _ _ => .inr rfl
theorem Fr.trans {l : List Nat} {a b c : SSt} (h : Fr l a b) (k : Fr l b c) : Fr l a c := fun t ht => by
 rcases k t ht with k | k
 ·exact .inl k
 ·rw [k]; exact h t ht
theorem Fr.mono {l l' : List Nat} {a b : SSt} (h : Fr l a b) (hl : ∀ t, Am l' t = false -> Am l t = false) : Fr l' a b := fun t ht => h t (hl t ht)
structure Nx (B : Base) (amb : List Rd) (l : List Nat) (ρ : List HV) (st : SSt) (ρ' : List HV) (st' : SSt) (env' : Env) (w' : World) : Prop where
 sat : Sat B amb ρ' st' env' w'
 ext : Ext ρ ρ'
 grow : Grow st st'
 fr : Fr l st st'
theorem Nx.trans {l : List Nat} {ρ1 ρ2 : List HV} {s1 s2 : SSt} {e1 e2 : Env} {w1 w2 : World} (h : Nx B amb l ρ st ρ1 s1 e1 w1) (k : Nx B amb l ρ1 s1 ρ2 s2 e2 w2) : Nx B amb l ρ st ρ2 s2 e2 w2 := ⟨k.sat, h.ext.trans k.ext, h.grow.trans k.grow, h.fr.trans k.fr⟩
theorem Nx.mono {l l' : List Nat} {ρ1 : List HV} {s1 : SSt} {e1 : Env} {w1 : World} (h : Nx B amb l ρ st ρ1 s1 e1 w1) (hl : ∀ t, Am l' t = false -> Am l t = false) : Nx B amb l' ρ st ρ1 s1 e1 w1 := ⟨h.sat, h.ext, h.grow, h.fr.mono hl⟩
theorem Nx.refl {l : List Nat} (h : Sat B amb ρ st env w) : Nx B amb l ρ st ρ st env w := ⟨h, Ext.refl ρ, Grow.refl st, Fr.refl l st⟩
abbrev KOk (B : Base) (amb : List Rd) (l : List Nat) (ρ : List HV) (st : SSt) {R : Type} (K : Option Nat -> SSt -> Option R) (r : R) (Q : Post) : Prop := ∀ e st' ρ' env' w', K e st' = some r -> Nx B amb l ρ st ρ' st' env' w' -> Q (A04 e) env' w'
abbrev ROk (B : Base) (amb : List Rd) (ρ : List HV) (st : SSt) {R0 R : Type} (Bd : SSt -> Option R0) (rt : R0 -> Option R) (r : R) (Q : Post) : Prop := ∀ st' r0 ρ' env' w', Bd st' = some r0 -> rt r0 = some r -> Sat B amb ρ' st' env' w' -> Ext ρ ρ' -> Grow st st' -> Q .ret env' w'
def RunOk (B : Base) (amb : List Rd) (C : Ctx) {R0 : Type} (Bd : SSt -> Option R0) (c : Code) : Prop :=
 ∀ (R : Type) (b : Nat) (st : SSt) (rt : R0 -> Option R) (K : Option Nat -> SSt -> Option R) (r : R) (ρ : List HV) (env : Env) (w : World) (Q : Post),
  run C Bd c b st rt K = some r -> Sat B amb ρ st env w -> KOk B amb (wr c) ρ st K r Q -> ROk B amb ρ st Bd rt r Q -> WC Tryz.prog C.n c Q env w
variable {C : Ctx} {R0 R : Type} {Bd : SSt -> Option R0} {rt : R0 -> Option R} {K : Option Nat -> SSt -> Option R} {r : R} {Q : Post}
theorem Bfl {a c : Code} (ha : RunOk B amb C Bd a) (hc : RunOk B amb C Bd c) : RunOk B amb C Bd (.seq a c) := fun R b st rt K r ρ env w Q h hs hK hR => by
 refine Fu (ha R b st rt _ r ρ env w _ h hs (fun e st' ρ' env' w' h' hn => ?_) fun st' r0 ρ' env' w' h1 h2 h3 h4 h5 => hR st' r0 ρ' env' w' h1 h2 h3 h4 h5)
 have hl : ∀ t, Am (wr (.seq a c)) t = false -> Am (wr a) t = false /\ Am (wr c) t = false := fun t ht => by
  simpa [wr, Gr] using ht
 cases e with
 | some i => exact hK (some i) st' ρ' env' w' h' (hn.mono fun t ht => (hl t ht).1)
 | none =>
  show WC _ _ c Q env' w'
  refine hc R b st' rt K r ρ' env' w' Q h' hn.sat (fun e st2 ρ2 env2 w2 h2 hn2 => hK e st2 ρ2 env2 w2 h2 ((hn.mono fun t ht => (hl t ht).1).trans (hn2.mono fun t ht => (hl t ht).2))) fun st2 r0 ρ2 env2 w2 h1 h2 h3 h4 h5 => hR st2 r0 ρ2 env2 w2 h1 h2 h3 (hn.ext.trans h4) (hn.grow.trans h5)
theorem A0a {i : Nat} {c : Code} (hc : RunOk B amb C Bd c) : RunOk B amb C Bd (.block i c) := fun R b st rt K r ρ env w Q h hs hK hR => by
 refine Bjd (hc R i st rt _ r ρ env w _ h hs (fun e st' ρ' env' w' h' hn => ?_) fun st' r0 ρ' env' w' h1 h2 h3 h4 h5 => hR st' r0 ρ' env' w' h1 h2 h3 h4 h5)
 cases e with
 | none => exact hK none st' ρ' env' w' h' hn
 | some j =>
  show (bif Nat.beq j i then Q .normal env' w' else Q (.exit j) env' w')
  simp only [Akb] at h'
  cases hb : Nat.beq j i with
  | true => rw [hb] at h'; exact hK none st' ρ' env' w' h' hn
  | false => rw [hb] at h'; exact hK (some j) st' ρ' env' w' h' hn
theorem Xc {v : List VK} {wl : List Nat} {ls : List Leaf} {p : List Leaf × SSt} {env' : Env} {w' : World} (h1 : ∀ c ∈ p.2.own, c ∈ st.own) (h2 : p.2 = { st with own := p.2.own }) (hsub : Jj wl (A6 v) = true)
  (hI' : Inv B amb ρ { p.2 with env := Bg (A6 v ++ wl) st.env } v ls env' w') : ∃ ρ2, Nx B amb wl ρ st ρ2 (E4 (Bg (A6 v ++ wl) st.env) v ls { p.2 with env := Bg (A6 v ++ wl) st.env }) env' w' := by
 obtain ⟨ρ2, a1, a2, a3, a4⟩ := hI'.sat
 refine ⟨ρ2, a2, a1, Grow.trans (b := { p.2 with env := Bg (A6 v ++ wl) st.env }) ⟨?_, ?_, ?_⟩ a3.grow, fun t ht => ?_⟩
 ·show st.nxt <= p.2.nxt
  rw [h2]; exact Nat.le_refl _
 ·exact fun c hc _ => ⟨c, h1 c hc, .inl rfl⟩
 ·show ∃ x, p.2.rds = x ++ st.rds
  rw [h2]; exact ⟨[], rfl⟩
 ·rw [a4 t (Au6 hsub ht)]
  show Ap (Bg (A6 v ++ wl) st.env) t = none \/ Ap (Bg (A6 v ++ wl) st.env) t = _
  cases hq : Ap (Bg (A6 v ++ wl) st.env) t with
  | none => exact .inl rfl
  | some sv => exact .inr (Lw hq).2.symm
theorem Sr {v : List VK} {wl : List Nat} {t : Nat} {sv : SV} {e : List (Nat × Option SV)} (ht : Ap (Bg (A6 v ++ wl) e) t = some sv) : Am (A6 v) t = false /\ Am wl t = false := by
 have := (Lw ht).1
 rwa [Gr, Bool.or_eq_false_iff] at this
theorem Ba4 {v : List VK} {wl : List Nat} {p : List Leaf × SSt} {y : VT v} (hs : Sat B amb ρ st env w) (hp : Fy (Bg (A6 v ++ wl) st.env) v st = some p) (hok : Ev st = true) (hsub : Jj wl (A6 v) = true)
  {st' : SSt} {env' : Env} {w' : World} (hn : Nx B amb wl ρ st ρ' st' env' w') (hy : Dh v { p.2 with env := Bg (A6 v ++ wl) st.env } st' = some y) :
  ∃ ρ2, Nx B amb wl ρ st ρ2 (Dg v y { p.2 with env := Bg (A6 v ++ wl) st.env }) env' w' := by
 obtain ⟨hI, h1, h2⟩ := Inv.enter hs hp fun t sv ht => (Lw ht).2
 have hI' := hI.back (s1 := st) hok h1 hn.sat hn.ext hn.grow (by
  show ∃ x, st'.rds = x ++ p.2.rds
  rw [h2]; exact hn.grow.rds) (fun t sv ht => by
  rcases hn.fr t (Sr ht).2 with q | q
  ·exact .inl q
  ·exact .inr (by rw [q]; exact (Lw ht).2)) hy
 exact Xc h1 h2 hsub hI'
theorem Xh {a : Code} (ha : RunOk B amb C Bd a) {b : Nat} {wl : List Nat} (hwl : ∀ t, Am wl t = false -> Am (wr a) t = false) {v : List VK} {p : List Leaf × SSt} (hs : Sat B amb ρ st env w) (hp : Fy (Bg (A6 v ++ wl) st.env) v st = some p) (hok : Ev st = true) (hsub : Jj wl (A6 v) = true)
  {R1 : Type} {inj : VT v -> R1} {rt1 : R0 -> Option R1} {ext1 : SSt -> Option R1} (hext : ∀ st2 z, ext1 st2 = some z -> ∃ y', Dh v { p.2 with env := Bg (A6 v ++ wl) st.env } st2 = some y' /\ inj y' = z) {y : R1}
  (h : run C Bd a b st rt1 (Pq ext1) = some y) (hK1 : ∀ y', inj y' = y -> K none (Dg v y' { p.2 with env := Bg (A6 v ++ wl) st.env }) = some r) (hR1 : ∀ r0, rt1 r0 = some y -> rt r0 = some r)
  (hK : KOk B amb wl ρ st K r Q) (hR : ROk B amb ρ st Bd rt r Q) : WC Tryz.prog C.n a Q env w := by
 refine ha R1 b st rt1 _ y ρ env w Q h hs (fun e st' ρ' env' w' h' hn => ?_) fun st' r0 ρ' env' w' h1 h2 h3 h4 h5 => hR st' r0 ρ' env' w' h1 (hR1 r0 h2) h3 h4 h5
 cases e with
 | some j => cases h'
 | none =>
  obtain ⟨y', h1, h2⟩ := hext st' y h'
  obtain ⟨ρ2, hn2⟩ := Ba4 hs hp hok hsub (hn.mono hwl) h1
  exact hK none _ ρ2 env' w' (hK1 y' h2) hn2
end
end
section
open Go.RowKit
section
variable {R R' : Type} {st : SSt} {C : Ctx} {K : SV -> SSt -> Option R} (F : R -> Option R')
theorem Lg {α β : Type} {p : Prop} [Decidable p] {x : Option α} {G : α -> Option β} : Option.bind (xg p x) G = xg p (Option.bind x G) := by unfold xg; split <;> rfl
theorem H6 {α β : Type} {c : Bool} {x y : Option α} {G : α -> Option β} : Option.bind (bif c then x else y) G = bif c then Option.bind x G else Option.bind y G := by cases c <;> rfl
theorem Az5 {op : BinOp} {k1 k2 : IntKind} {i j : Int} {K : Cell -> Option R} : Ry C op k1 k2 i j (fun c => Option.bind (K c) F) = Option.bind (Ry C op k1 k2 i j K) F := by
 unfold Ry
 split <;> simp only [H6, Lg, Option.bind_none]
theorem Az6 {op : BinOp} {tb : Bool} {x y : V1} {K : Cell -> Option R} : Rx C op tb x y (fun c => Option.bind (K c) F) = Option.bind (Rx C op tb x y K) F := by
 unfold Rx
 split
 ·split
  ·rfl
  ·split
   ·exact Az5 F
   ·split <;> (try split) <;> simp only [H6, Lg, Option.bind_none]
 ·rfl
theorem Vw {h : Nat} {t : Ty} {l : List (Ax t)} {p : VP} : I1 st h t l p (fun v s => Option.bind (K v s) F) = Option.bind (I1 st h t l p K) F := by
 unfold I1; simp only [H6, Option.bind_none]
theorem Bfy {h lo : Nat} {t : Ty} {l : List (Ax t)} {p : VP} : Qw st h lo t l p (fun v s => Option.bind (K v s) F) = Option.bind (Qw st h lo t l p K) F := by
 unfold Qw; split
 ·simp only [Lg]
 ·exact Vw F
theorem Baz (op : Op) : Jb C st op (fun v s => Option.bind (K v s) F) = Option.bind (Jb C st op K) F := by
 unfold Jb
 split
 ·unfold Ly; split <;> rfl
 ·unfold Ly; split <;> rfl
 ·unfold Xs; split <;> rfl
 ·unfold Xn; split
  ·split <;> rfl
  ·rfl
 ·unfold Xl; split
  ·exact Az6 F
  ·rfl
 ·unfold Xt; split <;> rfl
 ·unfold Xo; split <;> rfl
 ·unfold Xp; split
  ·split <;> rfl
  ·rfl
 ·unfold Xr; split
  ·split
   ·split <;> rfl
   ·rfl
  ·split
   ·simp only [H6, Option.bind_none]
    congr 1
    congr 1
    split <;> rfl
   ·rfl
  ·rfl
 ·unfold Qb; split
  ·split
   ·simp only [H6, Option.bind_none]
    congr 1
    split <;> simp only [H6, Lg, Option.bind_none]
   ·rfl
  ·rfl
 ·unfold Xu; split
  ·split <;> simp only [H6, Lg, Option.bind_none]
  ·rfl
 ·unfold Xm; split
  ·split <;> rfl
  ·rfl
 ·split
  ·unfold Xq; split <;> rfl
  ·rfl
 ·unfold Qc; split
  ·split
   ·split <;> rfl
   ·split <;> rfl
   ·simp only [H6, Option.bind_none]
   ·rfl
  ·rfl
 ·unfold Lx; split
  ·split <;> rfl
  ·rfl
 ·unfold Lx; split
  ·split <;> rfl
  ·rfl
 ·unfold Qd; split
  ·split
   ·simp only [H6, Option.bind_none]
    congr 1
    split
    ·split <;> simp only [Lg, Vw, Option.bind_none]
    ·split <;> simp only [Lg, Vw, Option.bind_none]
    ·split <;> simp only [Lg, Bfy, Option.bind_none]
    ·rfl
   ·rfl
  ·rfl
 ·unfold Xv; split
  ·split
   ·simp only [H6, Lg, Vw, Option.bind_none]
   ·rfl
  ·rfl
 ·rfl
theorem Bbo {t : TypeId} {ps : List (Nat × Operand)} : N6 st t ps (fun v s => Option.bind (K v s) F) = Option.bind (N6 st t ps K) F := by
 unfold N6; split
 ·split
  ·split
   ·split <;> rfl
   ·rfl
  ·rfl
 ·rfl
theorem A06 {ops : List Oper} {k : Nat} {o : Oper} (ho : nth ops k = some o) (hl : N2 C k ops = true) {K : SSt -> Option R} : I7 C o st (fun s => Option.bind (K s) F) = Option.bind (I7 C o st K) F := by
 unfold N2 at hl
 rw [ho] at hl
 unfold I7
 split
 ·simp only [H6, Option.bind_none]
  congr 1
  split
  ·rename_i f args tys he
   simp [he] at hl
  ·exact Bbo F
  ·exact Baz F _
 ·rfl
end
theorem Asf {R : Type} {r : R} {b : Bool} {x : Option R} (h : (bif !b then none else x) = some r) : b = true /\ x = some r := by
 cases b with
 | true => exact ⟨rfl, h⟩
 | false => cases h
section
variable {ρ ρ' ρ0 : List HV} {rs rs' : List Rd} {B : Base} {amb : List Rd} {st : SSt} {env : Env} {w : World} {m : List As} {R : Type} {r : R} {C : Ctx} {ops : List Oper} {n : Nat} {X : List As}
theorem Aoz {c : Cell} {u v : Value} (h : Vz c = true) (h1 : c.Den ρ u) (h2 : c.Den ρ v) : u = v := by
 cases c with
 | i _ _ => exact h1.trans h2.symm
 | y _ => exact h1.trans h2.symm
 | b _ => exact h1.trans h2.symm
 | s _ => exact h1.trans h2.symm
 | nil => exact h1.trans h2.symm
 | sl k => obtain ⟨s, k1, rfl⟩ := h1; obtain ⟨s', k2, rfl⟩ := h2; rw [k1] at k2; cases k2; rfl
 | ptr k o => obtain ⟨s, k1, rfl⟩ := h1; obtain ⟨s', k2, rfl⟩ := h2; rw [k1] at k2; cases k2; rfl
 | ep k q i j => obtain ⟨s, k1, rfl, _⟩ := h1; obtain ⟨s', k2, rfl, _⟩ := h2; rw [k1] at k2; cases k2; rfl
 | ln k q => exact h1.1.trans h2.1.symm
 | _ => cases h
theorem Aoy : ∀ {cs : List Cell} {us vs : List Value}, cs.all Vz = true -> All2 (Cell.Den ρ) cs us -> All2 (Cell.Den ρ) cs vs -> us = vs
 | [], [], [], _, _, _ => rfl
 | c :: cs, u :: us, v :: vs, h, ⟨h1, h2⟩, ⟨k1, k2⟩ => by
  simp only [List.all_cons, Bool.and_eq_true] at h
  rw [Aoz h.1 h1 k1, Aoy h.2 h2 k2]
 | [], _ :: _, _, _, h, _ => h.elim
 | [], [], _ :: _, _, _, h => h.elim
 | _ :: _, [], _, _, h, _ => h.elim
 | _ :: _, _ :: _, [], _, _, h => h.elim
theorem Ao1 {x : V1} {u v : Value} (h : V2 x = true) (h1 : x.Den ρ u) (h2 : x.Den ρ v) : u = v := by
 cases x with
 | c c => exact Aoz h h1 h2
 | a l =>
  obtain ⟨vs, k1, rfl⟩ := h1
  obtain ⟨us, k2, rfl⟩ := h2
  rw [Aoy h k1 k2]
theorem Ao0 : ∀ {cs : List V1} {us vs : List Value}, cs.all V2 = true -> All2 (V1.Den ρ) cs us -> All2 (V1.Den ρ) cs vs -> us = vs
 | [], [], [], _, _, _ => rfl
 | c :: cs, u :: us, v :: vs, h, ⟨h1, h2⟩, ⟨k1, k2⟩ => by
  simp only [List.all_cons, Bool.and_eq_true] at h
  rw [Ao1 h.1 h1 k1, Ao0 h.2 h2 k2]
 | [], _ :: _, _, _, h, _ => h.elim
 | [], [], _ :: _, _, _, h => h.elim
 | _ :: _, [], _, _, h, _ => h.elim
 | _ :: _, _ :: _, [], _, _, h => h.elim
theorem A0v {sv : SV} {u v : Value} (h : V0 (some sv) = true) (h1 : sv.Den ρ u) (h2 : sv.Den ρ v) : u = v := by
 cases sv with
 | t l =>
  obtain ⟨vs, k1, rfl⟩ := h1
  obtain ⟨us, k2, rfl⟩ := h2
  rw [Ao0 h k1 k2]
 | v x => exact Ao1 h h1 h2
theorem Ext.eq (h : Ext ρ ρ') (hl : ρ'.length = ρ.length) : ρ' = ρ := by
 obtain ⟨x, rfl⟩ := h
 have : x = [] := List.eq_nil_of_length_eq_zero (by rw [List.length_append] at hl; omega)
 simp [this]
theorem A07 (hs : Sat B amb ρ st env w) {o : Oper} (_hsl : Ac4 o = true) {K : SSt -> Option R} (h : Abt C o st K = some r) :
  ∃ d sv v st' ρ', o.dst = some d /\ Nat.blt d C.n = true /\ K (st'.put d sv) = some r /\ Ext ρ ρ' /\ Sat B amb ρ' st' env w /\ sv.Den ρ' v /\ Grow st st' /\ st'.env = st.env /\ ∀ w1 n ty pos af g, Runs Tryz.prog n env w1 ⟨o.dst, o.op, ty, pos, af, g⟩ v w1 := by
 unfold Abt at h
 split at h
 ·rename_i d t x lo hi e1 hop
  have hlt := (bt h).1; replace h := (bt h).2
  obtain ⟨sv, v, st', ρ', k1, k2, k3, k4, k5, k6, k7⟩ := Ar7 hs h
  exact ⟨d, sv, v, st', ρ', e1, hlt, k1, k2, k3, k4, k5, k6, fun w1 n ty pos af g => by rw [hop]; exact k7 w1 n _ ty pos af g⟩
 ·rename_i d t x y e1 hop
  have hlt := (bt h).1; replace h := (bt h).2
  obtain ⟨sv, v, st', ρ', k1, k2, k3, k4, k5, k6, k7⟩ := Ar5 hs h
  exact ⟨d, sv, v, st', ρ', e1, hlt, k1, k2, k3, k4, k5, k6, fun w1 n ty pos af g => by rw [hop]; exact k7 w1 n _ ty pos af g⟩
 ·rename_i d args tys e1 hop
  have hlt := (bt h).1; replace h := (bt h).2
  obtain ⟨sv, v, st', ρ', k1, k2, k3, k4, k5, k6, k7⟩ := Ar6 hs h
  exact ⟨d, sv, v, st', ρ', e1, hlt, k1, k2, k3, k4, k5, k6, fun w1 n ty pos af g => by rw [hop]; exact k7 w1 n _ ty pos af g⟩
 ·cases h
theorem A0b {A : Type} {a b : Option A} {r : A} (h : both a b = some r) : a = some r /\ b = some r := by
 unfold both at h
 split at h
 ·rename_i e; exact ⟨h, e ▸ h⟩
 ·cases h
theorem Ajw {A : Type} (a : Option A) : both a a = a := by
 unfold both
 simp
theorem A05 (hC : ∀ c ∈ C.cons, Holds amb c) {base : List Chunk} {k : Nat} {o : Oper} (ho : nth ops k = some o) (hl : N2 C k ops = true) {K : SSt -> Option R} (h : Abs C base o st K = some r) (hn : ρ.length = st.nxt) (he : EnvOk ρ st.env env)
  (h0 : ∃ (B : Base) (w : World), Sat B amb ρ { st with own := base, rds := [] } env w) :
  ∃ d sv v, o.dst = some d /\ Nat.blt d C.n = true /\ K { st with env := (d, some sv) :: st.env } = some r /\ sv.Den ρ v /\ ∀ (B : Base) (w : World), Sat B amb ρ { st with own := base, rds := [] } env w -> ∀ n a, Has n a env -> QR Tryz.prog o a w v := by
 unfold Abs at h
 split at h
 ·rename_i d hd
  have h2 := A06 (st := { st with own := base, rds := [] }) (R := SSt) (K := some) (fun st' => bif Nat.beq st'.nxt st.nxt && V0 (Ap st'.env d) then K { st with env := st'.env } else none) ho hl
  simp only [Option.bind_some] at h2
  rw [h2] at h
  obtain ⟨s, h3, h4⟩ := Af h
  have hc := (bt h4).1; replace h4 := (bt h4).2
  simp only [Bool.and_eq_true] at hc
  have hnx := Nat.eq_of_beq_eq_true hc.1
  obtain ⟨B0, w0, hs0⟩ := h0
  obtain ⟨d', sv, v, st', ρ', e1, e2, e3, e4, e5, e6, e7, e8, e9⟩ := Sc hC hs0 h3
  rw [hd] at e1
  obtain rfl := Option.some.inj e1
  have e3' : st'.put d sv = s := Option.some.inj e3
  have hsn : st'.nxt = st.nxt := by rw [<- hnx, <- e3']; rfl
  have hρ : ρ' = ρ := e4.eq (by rw [e5.len, hsn, hn])
  subst hρ
  have hse : s.env = (d, some sv) :: st.env := by
   rw [<- e3']
   show (d, some sv) :: st'.env = _
   rw [e8]
  rw [hse] at h4 hc
  have hdet : V0 (some sv) = true := by
   have := hc.2
   simp only [Ap] at this
   rw [show Nat.beq d d = true from Nat.beq_refl d] at this
   exact this
  refine ⟨d, sv, v, hd, e2, h4, e6, fun B w hs n a ha => ?_⟩
  obtain ⟨d2, sv2, v2, st2, ρ2, g1, g2, g3, g4, g5, g6, g7, g8, g9⟩ := Sc hC hs h3
  rw [hd] at g1
  obtain rfl := Option.some.inj g1
  have g3' : st2.put d sv2 = s := Option.some.inj g3
  have hsn2 : st2.nxt = st.nxt := by rw [<- hnx, <- g3']; rfl
  have hρ2 : ρ2 = ρ' := g4.eq (by rw [g5.len, hsn2, hn])
  subst hρ2
  have hsv : sv2 = sv := by
   have h9 : s.env = (d, some sv2) :: st2.env := by rw [<- g3']; rfl
   rw [hse] at h9
   simp only [List.cons.injEq, Prod.mk.injEq, Option.some.injEq, true_and] at h9
   exact h9.1.symm
  subst hsv
  rw [A0v hdet e6 g6]
  exact g9 n a ha
 ·cases h
def IW (amb : List Rd) (ρ0 : List HV) (base : List Chunk) (w : World) : Prop := ∃ (B : Base) (m : List As) (rs : List Rd), OwnOk ρ0 rs base m /\ (∀ r ∈ amb, r ∈ rs) /\ St B m rs w
structure SatX (B : Base) (amb : List Rd) (ρ : List HV) (st : SSt) (env : Env) (w : World) (X : List As) : Prop where
 len : ρ.length = st.nxt
 env : EnvOk ρ st.env env
 mem : ∃ m rs, OwnOk ρ rs st.own m /\ RdsOk ρ st.rds rs /\ (∀ r ∈ amb, r ∈ rs) /\ St B (m ++ X) rs w
theorem SatX.rel (h : SatX B amb ρ st env w X) {w' : World} (hr : Rel w w') : SatX B amb ρ st env w' X := by
 obtain ⟨m, rs, h1, h2, h3, hM⟩ := h.mem
 exact ⟨h.len, h.env, m, rs, h1, h2, h3, hM.call hr⟩
theorem Sep.left {m2 : List As} {F : Bs} : ∀ {m1 : List As}, Sep (m1 ++ m2) F w -> Sep m1 F w
 | [], h => h.lt
 | _ :: _, ⟨h0, F1, F2, h1, h2, h3, h4, h5⟩ => ⟨h0, F1, F2, h1, Sep.left h2, h3, h4, h5⟩
theorem SatX.sat (h : SatX B amb ρ st env w X) : Sat B amb ρ st env w := by
 obtain ⟨m, rs, h1, h2, h3, hM⟩ := h.mem
 exact ⟨h.len, h.env, m, rs, h1, h2, h3, hM.z fun F hF => hF.left⟩
theorem SatX.iw {base : List Chunk} {rs0 : List Rd} {m0 : List As} (h : SatX B amb ρ st env w X) (hx : Ext ρ0 ρ) (hb : OwnOk ρ0 rs0 base m0) {st0 : SSt} (h0 : ∀ a ∈ base, a ∈ st0.own) (hok : Ev st0 = true) (hg : Grow st0 st) (hs : Hj base st.own = true) : IW amb ρ0 base w := by
 obtain ⟨m, rs, h1, h2, h3, hM⟩ := h.mem
 simp only [Ev, Bool.and_eq_true] at hok
 obtain ⟨m', k1, k2⟩ := Y8 hx hs h1 hb fun a ha b hb' e => by
  obtain ⟨c0, g1, g2⟩ := hg.own b hb' (by rw [<- e]; exact Xy hok.2 (h0 a ha))
  have : c0 = a := Wt hok.1 g1 (h0 a ha) (by rw [g2.g, e])
  rw [<- this]; exact g2
 exact ⟨B, m', rs, k1, h3, (hM.z fun F hF => hF.left).z (k2 w)⟩
theorem SatX.frame (h : SatX B amb ρ st env w X) : ∃ B', Sat B' amb ρ st env w /\ ∀ ρ' st' env' w', Ext ρ ρ' -> Sat B' amb ρ' st' env' w' -> SatX B amb ρ' st' env' w' X := by
 obtain ⟨m, rs, h1, h2, h3, hM⟩ := h.mem
 obtain ⟨g0, gb, F, g1, g2, g3⟩ := hM
 obtain ⟨F1, F2, k1, k2, k3, k4, k5⟩ := g1.split
 let S' : Bs := fun b => (B.S b \/ B.X b \/ B.w.heap.size <= b.1) /\ b.1 < w.heap.size /\ ¬ F b
 have hS' : ∀ b, S' b -> b.1 < w.heap.size /\ ¬ F1 b := fun b hb => ⟨hb.2.1, fun hf => hb.2.2 (k4 b hf)⟩
 have hm : St ⟨w, F1, S'⟩ m rs w := ⟨RelX.refl _ _, hS', F1, k1, fun _ h => .inr h, fun r hr => r.mono (fun b hb => ⟨.inl hb, hb.2.1, fun hf => hb.2.2 (k4 b hf)⟩) (Lc.refl _ _) (g3 r hr)⟩
 refine ⟨⟨w, F1, S'⟩, ⟨h.len, h.env, m, rs, h1, h2, h3, hm⟩, fun ρ' st' env' w' hx hs => ?_⟩
 obtain ⟨m', rs', a1, a2, a3, a4⟩ := hs.mem
 have := St.back (l' := m') (rs1 := rs') g0 gb k2 k3 k4 k5 g2 g3 ⟨a4.relx, a4.ex⟩ (.inr fun b hb => ⟨hb.1, fun hf => hb.2.2 (k5 b hf)⟩)
 exact ⟨hs.len, hs.env, m', rs' ++ rs, OwnOk.mono (Ext.refl _) (fun r hr => List.mem_append_left _ hr) a1, a2.mono (Ext.refl _) (fun r hr => List.mem_append_left _ hr), fun r hr => List.mem_append_left _ (a3 r hr), this⟩
structure FE where
 f : Nat
 d : Nat
 v : Value
 x : As
def FIs (o : Oper) (v : Value) (x : As) : Prop := match o.op with
 | .alloc e => ∃ b ty ti, En e = some ti /\ v = pt b 0 /\ x = Aw b (List.toArray (ti.zero.map Cell.val)) ty
 | .buildSlice t _ _ => ∃ e ei te b, Ha t = some (e, ei, te) /\ v = Sv.v ⟨some ⟨b, 0, none⟩, 0, 0⟩ /\ x = oC (Ad (sz te) (fD te) ([] : List (Ax te))) (Sv.v ⟨some ⟨b, 0, none⟩, 0, 0⟩)
 | _ => False
theorem Ao9 {se : List (Nat × Option SV)} (h : EnvOk ρ se env) {d : Nat} {v : Value} (hd : Ap se d = none) : EnvOk ρ se ((d, v) :: env) := fun t sv ht => by
 obtain ⟨u, u1, u2⟩ := h t sv ht
 refine ⟨u, ?_, u2⟩
 simp only [lk]
 cases hb : Nat.beq d t with
 | true => cases Nat.eq_of_beq_eq_true hb; rw [hd] at ht; cases ht
 | false => exact u1
theorem Bba {α : Type} {l : List α} {k : Nat} {a : α} (h : nth l k = some a) : k < l.length := by
 rw [He] at h
 exact (List.getElem?_eq_some_iff.1 h).1
theorem A1l (h : SatX B amb ρ st env w X) {k : Nat} {o : Oper} (ho : nth ops k = some o) (hf : Nat.beq (E5 ops k) 0 = false) (n : Nat) :
  o.guard = none /\ ∃ d, o.dst = some d /\ (Ap st.env d = none -> OD Tryz.prog n env w o fun v w' => Rel w w' /\ ∃ x, FIs o v x /\ SatX B amb ρ st ((d, v) :: env) w' (x :: X)) := by
 unfold E5 at hf
 rw [ho] at hf
 simp only [P0] at hf
 obtain ⟨dst, op, ty, pos, af, g⟩ := o
 simp only at hf
 split at hf
 ·rename_i e d
  refine ⟨rfl, d, rfl, fun hd => ?_⟩
  unfold Aso at hf
  split at hf
  ·rename_i ti ht
   cases hz0 : ti.zero.all Cell.shut with
   | false => rw [hz0] at hf; simp at hf
   | true =>
   obtain ⟨_, z, hz, hzz⟩ := Ey ht
   obtain ⟨m, rs, h1, h2, h3, hM⟩ := h.mem
   refine OD.ex (Awb hz hM fun b w' hr hM' => ?_)
   refine ⟨hr, Aw b (List.toArray (ti.zero.map Cell.val)) e, ⟨b, e, ti, ht, rfl, rfl⟩, h.len, Ao9 h.env hd, m, rs, h1, h2, h3, ?_⟩
   rw [<- hzz]
   exact St.perm (by simpa using hM') List.perm_middle.symm
  ·simp at hf
 ·rename_i t len ps d
  refine ⟨rfl, d, rfl, fun hd => ?_⟩
  cases hc : (Nat.beq len 0 && Nat.beq ps.toList.length 0) && (Adm t && Aa7 d ops) with
  | false => rw [hc] at hf; simp at hf
  | true =>
   simp only [Bool.and_eq_true] at hc
   obtain ⟨⟨hc1, hc2⟩, hc3, _⟩ := hc
   cases Nat.eq_of_beq_eq_true hc1
   have hps : ps = #[] := by
    cases ps with
    | mk l => have := List.eq_nil_of_length_eq_zero (Nat.eq_of_beq_eq_true hc2); simp at this; simp [this]
   subst hps
   unfold Adm at hc3
   split at hc3
   ·rename_i e ei te ht
    obtain ⟨t1, _, z, hz, _⟩ := I3 ht
    rw [<- Nat.eq_of_beq_eq_true hc3] at hz
    obtain ⟨m, rs, h1, h2, h3, hM⟩ := h.mem
    refine OD.ex (Awe (T := Ax te) (f := fD te) t1 hz (fun x => C1 te x) hM fun b w2 hr2 hM2 => ⟨hr2, _, ⟨e, ei, te, b, ht, rfl, rfl⟩, ?_⟩)
    exact ⟨h.len, Ao9 h.env hd, m, rs, h1, h2, h3, hM2.perm List.perm_middle.symm⟩
   ·cases hc3
 ·simp at hf
theorem Ads {P : Program} {aops : Array Oper} {z : Bool} {i : Nat} {o : Oper} {N : Value -> World -> Prop} {K : Act -> World -> Prop} {a : Act} (hi : aops[i]? = some o) (hg : o.guard = none) (hz : z = true \/ ∀ v w', N v w' -> Rel w w') (ha : Has n a env) (h : OD P n env w o N) (hk : ∀ v w', N v w' -> K (a.put o.dst v) w') : Fj P aops z i K a w := by
 unfold Fj
 simp only [hi]
 rw [if_pos (by simp [Region.wanted, hg])]
 exact Fa (fun a' w' ⟨v, e, k⟩ => ⟨hz.imp id fun h => h v w' k, v, e, e ▸ hk v w' k⟩) (h.get a ha)
theorem Aps {listed : Array Bool} {i j : Nat} (h : (listed.setIfInBounds i true).getD j false = true) : i = j \/ listed.getD j false = true := by
 by_cases hij : i = j
 ·exact .inl hij
 ·rw [getD_set_ne false hij] at h; exact .inr h
theorem Wp {listed : Array Bool} {i j : Nat} (h : listed.getD j false = true) : (listed.setIfInBounds i true).getD j false = true := by
 by_cases hij : i = j
 ·subst hij
  rcases Nat.lt_or_ge i listed.size with h' | h'
  ·simp [h']
  ·simp [Array.getElem?_eq_none h'] at h
 ·rw [getD_set_ne false hij]; exact h
theorem A1q {listed : Array Bool} {i : Nat} (h : i < listed.size) : (listed.setIfInBounds i true).getD i false = true := by simp [h]
theorem Apn {all : List Oper} {f d : Nat} {o : Oper} : ∀ {l : List Oper} {k i : Nat}, nth l i = some o -> Fz all k l = Fz all k l -> o.dst = some d -> Nat.beq (P0 all o) 0 = false -> f = k + i -> (f, d) ∈ Fz all k l
 | [], _, _, h, _, _, _, _ => by cases h
 | q :: l, k, 0, h, _, hd, hf, e => by
  cases h
  simp only [Fz, hd, hf, cond_false]
  rw [e]; exact List.mem_cons_self ..
 | q :: l, k, i + 1, h, _, hd, hf, e => by
  have ih := Apn (l := l) (k := k + 1) (i := i) (f := f) h rfl hd hf (by omega)
  simp only [Fz]
  split
  ·rename_i d' _
   cases Nat.beq (P0 all q) 0 with
   | true => exact ih
   | false => exact List.mem_cons_of_mem _ ih
  ·exact ih
theorem Qg {f d : Nat} : ∀ {l : List (Nat × Nat)}, (f, d) ∈ l -> Am (Dq l) d = true
 | [], h => by cases h
 | p :: l, h => by
  simp only [Dq, Am, Bool.or_eq_true]
  rcases List.mem_cons.1 h with rfl | h
  ·exact .inl (Nat.beq_refl _)
  ·exact .inr (Qg h)
theorem Abl {f g d : Nat} : ∀ {l : List (Nat × Nat)}, L5 (Dq l) = true -> (f, d) ∈ l -> (g, d) ∈ l -> f = g
 | [], _, h, _ => by cases h
 | p :: l, hn, h, k => by
  simp only [Dq, L5, Bool.and_eq_true] at hn
  have no : (∃ q, (q, p.2) ∈ l) -> False := fun ⟨q, hq⟩ => by
   have h2 := Qg hq
   simp [h2] at hn
  rcases List.mem_cons.1 h with h' | h'
  ·rcases List.mem_cons.1 k with k' | k'
   ·rw [<- h'] at k'; cases k'; rfl
   ·rw [<- h'] at no; exact (no ⟨g, k'⟩).elim
  ·rcases List.mem_cons.1 k with k' | k'
   ·rw [<- k'] at no; exact (no ⟨f, h'⟩).elim
   ·exact Abl hn.2 h' k'
theorem Avw {fl : List Nat} {e : List (Nat × Option SV)} {t : Nat} (h : Am fl t = true) : Ap (fl.map (fun d => (d, none)) ++ e) t = none := by
 induction fl with
 | nil => cases h
 | cons a l ih =>
  simp only [Am, Bool.or_eq_true] at h
  simp only [List.map_cons, List.cons_append, Ap]
  cases hb : Nat.beq a t with
  | true => rfl
  | false =>
   rcases h with h | h
   ·rw [hb] at h; cases h
   ·exact ih h
theorem Avx {fl : List Nat} {e : List (Nat × Option SV)} {t : Nat} (h : Am fl t = false) : Ap (fl.map (fun d => (d, none)) ++ e) t = Ap e t := by
 induction fl with
 | nil => rfl
 | cons a l ih =>
  simp only [Am, Bool.or_eq_false_iff] at h
  simp only [List.map_cons, List.cons_append, Ap, h.1, cond_false]
  exact ih h.2
structure EOk (ops : List Oper) (fl : List (Nat × Nat)) (listed : Array Bool) (env : Env) (st : SSt) (l : PT) (E : List FE) : Prop where
 sz : listed.size = ops.length
 e : ∀ e ∈ E, listed.getD e.f false = true /\ lk env e.d = some e.v /\ (e.f, e.d) ∈ fl /\ ∃ o, nth ops e.f = some o /\ o.dst = some e.d /\ FIs o e.v e.x
 in_ : ∀ f ∈ Ep l, listed.getD f false = true -> ∃ e ∈ E, e.f = f
 no : Fq l = true
 fls : ∀ f ∈ Ep l, Nat.beq (E5 ops f) 0 = false
 out : ∀ f d, (f, d) ∈ fl -> listed.getD f false = false -> Ap st.env d = none
theorem Qe {d t : Nat} {v : Value} (h : d ≠ t) : lk ((d, v) :: env) t = lk env t := by
 simp only [lk, G3 h, cond_false]
theorem Ja {d t : Nat} {v : Option SV} {se : List (Nat × Option SV)} (h : d ≠ t) : Ap ((d, v) :: se) t = Ap se t := by
 simp only [Ap, G3 h, cond_false]
variable {fl : List (Nat × Nat)} {listed : Array Bool} {l : PT} {E : List FE}
theorem Lz {d t : Nat} {fl : List Nat} (h : Am fl d = false) (k : Am fl t = true) : d ≠ t := fun e => by
 rw [e, k] at h; cases h
theorem EOk.step {l0 : PT} {k : Nat} {st' : SSt} {env' : Env} (h : EOk ops fl listed env st l0 E) (hp : ∀ f ∈ Ep l, f ∈ Ep l0) (hn : Fq l = true) (hk : E5 ops k = 0) (_hfl : fl = Fz ops 0 ops) (he : ∀ t, Am (Dq fl) t = true -> lk env' t = lk env t) (hs : ∀ t, Am (Dq fl) t = true -> Ap st'.env t = Ap st.env t) : EOk ops fl (listed.setIfInBounds k true) env' st' l E where
 sz := by simp [h.sz]
 e := fun e hm => by
  obtain ⟨h1, h2, h3, h4⟩ := h.e e hm
  exact ⟨Wp h1, by rw [he _ (Qg h3)]; exact h2, h3, h4⟩
 in_ := fun f hf hl => by
  rcases Aps hl with e | hl
  ·subst e
   have := h.fls _ (hp _ hf)
   rw [hk] at this; cases this
  ·exact h.in_ f (hp f hf) hl
 no := hn
 fls := fun f hf => h.fls f (hp f hf)
 out := fun f d hm hl => by
  rw [hs _ (Qg hm)]
  refine h.out f d hm ?_
  cases hq : listed.getD f false with
  | false => rfl
  | true => rw [Wp hq] at hl; cases hl
theorem Art {base : List Chunk} (h : IW amb ρ0 base w) (hx : Ext ρ0 ρ) (hn : ρ.length = st.nxt) (he : EnvOk ρ st.env env) : ∃ B, Sat B amb ρ { st with own := base, rds := [] } env w := by
 obtain ⟨B, m, rs, h1, h2, h3⟩ := h
 exact ⟨B, hn, he, m, rs, OwnOk.mono hx (fun _ h => h) h1, (fun _ h => by cases h), h2, h3⟩
theorem SatX.perm {X' : List As} (h : SatX B amb ρ st env w X) (hp : X.Perm X') : SatX B amb ρ st env w X' := by
 obtain ⟨m, rs, h1, h2, h3, hM⟩ := h.mem
 exact ⟨h.len, h.env, m, rs, h1, h2, h3, hM.perm (hp.append_left m)⟩
theorem Add {f : Nat} : ∀ {E : List FE}, (∃ e ∈ E, e.f = f) -> ∃ e E1 E2, E = E1 ++ e :: E2 /\ e.f = f
 | [], ⟨_, h, _⟩ => by cases h
 | a :: E, ⟨e, h, he⟩ => by
  rcases List.mem_cons.1 h with rfl | h
  ·exact ⟨e, [], E, rfl, he⟩
  ·obtain ⟨e', E1, E2, h1, h2⟩ := Add ⟨e, h, he⟩
   exact ⟨e', a :: E1, E2, by rw [h1]; rfl, h2⟩
theorem Asc {a : Nat} : ∀ {l : List Nat}, a ∈ l -> Am l a = true
 | [], h => by cases h
 | b :: l, h => by
  simp only [Am, Bool.or_eq_true]
  rcases List.mem_cons.1 h with rfl | h
  ·exact .inl (Nat.beq_refl _)
  ·exact .inr (Asc h)
theorem EOk.used {E1 E2 : List FE} {e : FE} {f : Nat} (h : EOk ops fl listed env st l (E1 ++ e :: E2)) (hf : e.f = f) {l' : PT} {st' : SSt} (hl : Ep l = f :: Ep l') (hnm : Am (Ep l') f = false) (hno : Fq l' = true) (hs : ∀ t, (∀ g d, (g, d) ∈ fl -> listed.getD g false = false -> d ≠ t) \/ Ap st'.env t = Ap st.env t) : EOk ops fl listed env st' l' (E1 ++ E2) where
 sz := h.sz
 e := fun e' hm => h.e e' (by
  rcases List.mem_append.1 hm with hm | hm
  ·exact List.mem_append_left _ hm
  ·exact List.mem_append_right _ (List.mem_cons_of_mem _ hm))
 in_ := fun g hg hl' => by
  obtain ⟨e', h1, h2⟩ := h.in_ g (by rw [hl]; exact List.mem_cons_of_mem _ hg) hl'
  rcases List.mem_append.1 h1 with h1 | h1
  ·exact ⟨e', List.mem_append_left _ h1, h2⟩
  ·rcases List.mem_cons.1 h1 with rfl | h1
   ·have : Am (Ep l') f = true := Asc (by rw [<- hf, h2]; exact hg)
    rw [this] at hnm; cases hnm
   ·exact ⟨e', List.mem_append_right _ h1, h2⟩
 no := hno
 fls := fun g hg => h.fls g (by rw [hl]; exact List.mem_cons_of_mem _ hg)
 out := fun g d hm hl' => by
  rcases hs d with h1 | h1
  ·exact absurd rfl (h1 g d hm hl')
  ·rw [h1]; exact h.out g d hm hl'
theorem Bd2 (hC : ∀ c ∈ C.cons, Holds amb c) {Q : Post} {base : List Chunk} {rs0 : List Rd} {m0 : List As} {st0 : SSt} (hb : OwnOk ρ0 rs0 base m0) (h0 : ∀ a ∈ base, a ∈ st0.own) (hok : Ev st0 = true) (hns : Region.noSelect ops.toArray = true) (hfl : fl = Fz ops 0 ops) (hnd : L5 (Dq fl) = true) (hbl : ((Dq fl).all fun d => Nat.blt d C.n) = true) :
  ∀ (fuel m : Nat) (listed moved : Array Bool) (l : PT) (E : List FE) (st : SSt) (K : SSt -> Option R) (ρ : List HV) (env : Env) (w : World), Ew C ops (Dq fl) base l st K = some r -> C3 C ops fuel m listed moved l = true -> moved.size = ops.length -> SatX B amb ρ st env w (E.map FE.x) -> EOk ops fl listed env st l E -> Ext ρ0 ρ -> Grow st0 st -> Hj base st.own = true -> Down ops.toArray listed ->
   (∀ st' ρ' env' w', K st' = some r -> Sat B amb ρ' st' env' w' -> Ext ρ ρ' -> Grow st st' -> (∀ t, Am (Bb ops) t = false -> Ap st'.env t = Ap st.env t) -> Q .normal env' w') ->
   ∀ a, Has C.n a env -> Fo Tryz.prog ops.toArray (fun a w => I9 C.n Q .normal a w) (IW amb ρ0 base) m listed moved a w := by
 intro fuel
 induction fuel with
 | zero => intro m listed moved l E st K ρ env w h hc; cases hc
 | succ fuel ih =>
 intro m listed moved l E st K ρ env w h hc hmv hs hE hx hg hsub hd hK a ha
 have hI : ∀ w1, Rel w w1 -> IW amb ρ0 base w1 := fun w1 h1 => (hs.rel h1).iw hx hb h0 hok hg hsub
 have hget : ∀ {i : Nat} {o : Oper}, nth ops i = some o -> ops.toArray[i]? = some o := fun {i o} h => by rw [He] at h; simpa using h
 have flStep : ∀ m', (∀ i ∈ Region.ready .any ops.toArray listed, Nat.beq (E5 ops i) 0 = false -> C3 C ops fuel m' (listed.setIfInBounds i true) moved l = true -> ∀ w1, Rel w w1 -> Fj Tryz.prog ops.toArray (E3 ops.toArray moved i) i (Fo Tryz.prog ops.toArray (fun a w => I9 C.n Q .normal a w) (IW amb ρ0 base) m' (listed.setIfInBounds i true) moved) a w1) := fun m' i hi hf hch w1 h1 => by
  obtain ⟨hun, o, ho, _⟩ := mem_ready.1 hi
  have ho' : nth ops i = some o := by rw [He]; simpa using ho
  obtain ⟨hgd, d, hdst, hod⟩ := A1l (hs.rel h1) ho' hf C.n
  have hlt : i < ops.length := Bba ho'
  have hun' : listed.getD i false = false := by
   have : i < listed.size := by rw [hE.sz]; exact hlt
   simp [this] at hun ⊢; exact hun
  have hmem : (i, d) ∈ fl := by
   rw [hfl]
   refine Apn ho' rfl hdst ?_ (by omega)
   unfold E5 at hf
   rw [ho'] at hf
   exact hf
  have hdlt : Nat.blt d C.n = true := by
   have h2 := Qg hmem
   have : ∀ {l : List Nat}, Am l d = true -> (l.all fun d => Nat.blt d C.n) = true -> Nat.blt d C.n = true := fun {l} => by
    induction l with
    | nil => intro h; cases h
    | cons b l ihl =>
     intro h3 h4
     simp only [List.all_cons, Bool.and_eq_true] at h4
     simp only [Am, Bool.or_eq_true] at h3
     rcases h3 with h3 | h3
     ·cases Nat.eq_of_beq_eq_true h3; exact h4.1
     ·exact ihl h3 h4.2
   exact this h2 hbl
  refine Ads ho hgd (.inr fun v w' h => h.1) ha (hod (hE.out i d hmem hun')) fun v w' ⟨_, x, hxi, hsx⟩ => ?_
  rw [hdst]
  refine ih m' _ moved l (⟨i, d, v, x⟩ :: E) st K ρ ((d, v) :: env) w' h hch hmv hsx ⟨by simp [hE.sz], fun e he => ?_, fun f hf' hl => ?_, hE.no, hE.fls, fun f d' hm hl => ?_⟩ hx hg hsub (hd.set hi) hK _ (ha.put hdlt v)
  ·rcases List.mem_cons.1 he with rfl | he
   ·exact ⟨A1q (by rw [hE.sz]; exact hlt), by simp [lk], hmem, o, ho', hdst, hxi⟩
   ·obtain ⟨e1, e2, e3, e4⟩ := hE.e e he
    refine ⟨Wp e1, ?_, e3, e4⟩
    rw [Qe fun hde => ?_]
    ·exact e2
    ·subst hde
     have := Abl hnd hmem e3
     subst this
     rw [hun'] at e1; cases e1
  ·rcases Aps hl with e | hl
   ·exact ⟨_, List.mem_cons_self .., e⟩
   ·obtain ⟨e, e1, e2⟩ := hE.in_ f hf' hl
    exact ⟨e, List.mem_cons_of_mem _ e1, e2⟩
  ·refine hE.out f d' hm ?_
   cases hq : listed.getD f false with
   | false => rfl
   | true => rw [Wp hq] at hl; cases hl
 have opStep : ∀ m' k (l' : PT), (∀ f ∈ Ep l', f ∈ Ep l) -> Fq l' = true -> k ∈ Region.ready .any ops.toArray listed -> (S0 C ops moved k && C3 C ops fuel m' (listed.setIfInBounds k true) moved l') = true -> S8 C ops (Dq fl) base k st (fun st => Ew C ops (Dq fl) base l' st K) = some r ->
   ∀ w1, Rel w w1 -> Fj Tryz.prog ops.toArray (E3 ops.toArray moved k) k (Fo Tryz.prog ops.toArray (fun a w => I9 C.n Q .normal a w) (IW amb ρ0 base) m' (listed.setIfInBounds k true) moved) a w1 := fun m' k l' hfs hno hi hci0 h w1 h1 => by
  simp only [Bool.and_eq_true] at hci0
  obtain ⟨hmo, hci⟩ := hci0
  unfold S8 at h
  split at h
  ·rename_i o ho
   have hc2 := (bt h).1; replace h := (bt h).2
   simp only [Bool.and_eq_true] at hc2
   obtain ⟨⟨hgn, hfk⟩, hdn⟩ := hc2
   have hgd : o.guard = none := by unfold isNone at hgn; split at hgn; assumption; cases hgn
   obtain ⟨B', hB', hback⟩ := (hs.rel h1).frame
   obtain ⟨hlt, hod⟩ := I6 hC hB' hgd h
   have hne : ∀ t, Am (Dq fl) t = true -> o.dst ≠ some t := fun t ht e => by
    unfold Nh at hdn
    rw [e] at hdn
    simp [ht] at hdn
   refine Ads (hget ho) hgd (by
    simp only [S0, Bool.or_eq_true] at hmo
    refine hmo.imp id fun h9 v w' k => k.1 ?_
    unfold Xi at h9
    rw [ho] at h9
    exact Nat.eq_of_beq_eq_true h9) ha hod fun v w' ⟨_, st', ρ', k1, k2, k3, k4, k5⟩ => ?_
   have hs2 := (bt k1).1; replace k1 := (bt k1).2
   refine ih m' _ moved l' E st' K ρ' (putE o.dst v env) w' k1 hci hmv (hback ρ' st' _ w' k2 k3) (hE.step hfs hno (Nat.eq_of_beq_eq_true hfk) hfl (fun t ht => ?_) fun t ht => ?_) (hx.trans k2) (hg.trans k4) hs2 (hd.set hi) (fun st2 ρ2 env2 w2 g1 g2 g3 g4 g5 => hK st2 ρ2 env2 w2 g1 g2 (k2.trans g3) (Grow.trans k4 g4) fun t ht => ?_) _ (ha.putE hlt v)
   ·have := hne t ht
    cases hdst : o.dst with
    | none => rfl
    | some d' => exact Qe fun e => this (by rw [hdst, e])
   ·refine k5 t (Zn fun o' ho' => ?_)
    rcases List.mem_cons.1 ho' with rfl | ho'
    ·exact hne t ht
    ·cases ho'
   ·rw [g5 t ht]
    refine k5 t (Zn fun o' ho' => ?_)
    rcases List.mem_cons.1 ho' with rfl | ho'
    ·exact O3 ht _ (by rw [He] at ho; exact List.mem_of_getElem? ho)
    ·cases ho'
  ·cases h
 cases l with
 | nil =>
  simp only [C3] at hc
  simp only [Ew] at h
  have hr : Region.ready .any ops.toArray listed = [] := by simpa using hc
  have hQ : ∀ w1, Rel w w1 -> I9 C.n Q .normal a w1 := fun w1 h1 => ⟨env, ha, hK st ρ env w1 h (hs.rel h1).sat (Ext.refl ρ) (Grow.refl st) fun _ _ => rfl⟩
  cases m with
  | zero => exact ⟨hI, hr, hQ⟩
  | succ m => exact ⟨hI, fun _ => hQ, fun i hi => by rw [hr] at hi; cases hi⟩
 | fork k1 p1 k2 p2 =>
  cases m with
  | zero => simp [C3] at hc
  | succ m =>
  simp only [C3, Bool.and_eq_true] at hc
  simp only [Ew] at h
  obtain ⟨hr1, hr2⟩ := A0b h
  have hno := hE.no
  simp only [Fq, Bool.and_eq_true] at hno
  refine ⟨hI, fun h' => by rw [h'] at hc; simp at hc, fun i hi w1 h1 => ?_⟩
  have hci := List.all_eq_true.1 hc.2 i hi
  cases hik : Nat.beq i k1 with
  | true =>
   rw [hik] at hci
   simp only [cond_true] at hci
   cases Nat.eq_of_beq_eq_true hik
   exact opStep m _ p1 (fun f hf => List.mem_append_left _ hf) hno.1 hi hci hr1 w1 h1
  | false =>
   rw [hik] at hci
   simp only [cond_false] at hci
   cases hik2 : Nat.beq i k2 with
   | true =>
    rw [hik2] at hci
    simp only [cond_true] at hci
    cases Nat.eq_of_beq_eq_true hik2
    exact opStep m _ p2 (fun f hf => List.mem_append_right _ hf) hno.2 hi hci hr2 w1 h1
   | false =>
    rw [hik2] at hci
    simp only [cond_false, Bool.and_eq_true] at hci
    exact flStep m i hi (by simpa using hci.1) hci.2 w1 h1
 | cons p l =>
 cases p with
 | lk k =>
  have hno : Fq l = true := hE.no
  cases m with
  | zero => simp [C3] at hc
  | succ m =>
  simp only [C3, Bool.and_eq_true] at hc
  simp only [Ew] at h
  split at h
  ·rename_i o ho
   have hc2 := (bt h).1; replace h := (bt h).2
   simp only [Bool.and_eq_true] at hc2
   obtain ⟨⟨hlk, hfk⟩, hdn⟩ := hc2
   cases hsl : Ac4 o with
   | true =>
    rw [hsl] at h
    simp only [cond_true] at h
    obtain ⟨B', hB', hback⟩ := hs.frame
    obtain ⟨d, sv, v, st', ρ', e1, hlt, k1, k2, k3, k4, k5, k6, k7⟩ := A07 hB' hsl h
    have hs2 := (bt k1).1; replace k1 := (bt k1).2
    have hgd : o.guard = none := by
     unfold N2 at hlk
     rw [ho] at hlk
     simp only [Bool.and_eq_true] at hlk
     have h9 := hlk.2
     unfold isNone at h9
     split at h9
     ·assumption
     ·cases h9
    have hrd : k ∈ Region.ready .any ops.toArray listed := by simpa using hc.1.1
    have hdd : Am (Dq fl) d = false := by
     unfold Nh at hdn
     rw [e1] at hdn
     simpa using hdn
    have henv : (st'.put d sv).env = (d, some sv) :: st.env := by
     show (d, some sv) :: st'.env = _
     rw [k6]
    refine Av9 (v := v) (hget ho) (Region.noSelect_spec hns) m listed moved a w hd (by rw [hmv, hE.sz]) (Region.free_spec (hget ho) hc.1.2) hrd (fun w' _ => ?_) ?_
    ·refine .inl ⟨by simp [Region.wanted, hgd], ?_⟩
     obtain ⟨d0, op0, ty0, pos0, af0, g0⟩ := o
     intro w1 _
     unfold Oper.wp
     rw [k7 w1 C.n _ _ _ _ a ha]
     exact ⟨Rel.refl w1, rfl⟩
    ·rw [e1]
     refine ih m _ moved l E (st'.put d sv) K ρ' ((d, v) :: env) w k1 hc.2 hmv (hback ρ' (st'.put d sv) ((d, v) :: env) w k2 ⟨k3.len, k3.env.put k4 d, k3.mem⟩) (hE.step (fun f hf => hf) hno (Nat.eq_of_beq_eq_true hfk) hfl (fun t ht => Qe (Lz hdd ht)) fun t ht => by rw [henv]; exact Ja (Lz hdd ht)) (hx.trans k2) (hg.trans ⟨k5.nxt, k5.own, k5.rds⟩) hs2 (hd.set hrd) (fun st2 ρ2 env2 w2 g1 g2 g3 g4 g5 => hK st2 ρ2 env2 w2 g1 g2 (k2.trans g3) (Grow.trans ⟨k5.nxt, k5.own, k5.rds⟩ ⟨g4.nxt, g4.own, g4.rds⟩) fun t ht => ?_) _ (ha.put hlt v)
     rw [g5 t ht, henv]
     exact Ja fun hdt => O3 ht o (by rw [He] at ho; exact List.mem_of_getElem? ho) (by rw [e1, hdt])
   | false =>
   rw [hsl] at h
   simp only [cond_false] at h
   obtain ⟨B0, hB0⟩ := Art (hI w (Rel.refl w)) hx hs.len hs.env
   obtain ⟨d, sv, v, e1, e2, e3, e4, e5⟩ := A05 hC ho hlk h hs.len hs.env ⟨B0, w, hB0⟩
   have hgd : o.guard = none := by
    unfold N2 at hlk
    rw [ho] at hlk
    simp only [Bool.and_eq_true] at hlk
    have h9 := hlk.2
    unfold isNone at h9
    split at h9
    ·assumption
    ·cases h9
   have hrd : k ∈ Region.ready .any ops.toArray listed := by simpa using hc.1.1
   have hdd : Am (Dq fl) d = false := by
    unfold Nh at hdn
    rw [e1] at hdn
    simpa using hdn
   refine Av9 (v := v) (hget ho) (Region.noSelect_spec hns) m listed moved a w hd (by rw [hmv, hE.sz]) (Region.free_spec (hget ho) hc.1.2) hrd (fun w' hI' => ?_) ?_
   ·obtain ⟨B1, hB1⟩ := Art (hI' w' (Rel.refl w')) hx hs.len hs.env
    exact .inl ⟨by simp [Region.wanted, hgd], (e5 B1 w' hB1 C.n a ha).get⟩
   ·rw [e1]
    refine ih m _ moved l E { st with env := (d, some sv) :: st.env } K ρ ((d, v) :: env) w e3 hc.2 hmv ⟨hs.len, hs.env.put e4 d, hs.mem⟩ (hE.step (fun f hf => hf) hno (Nat.eq_of_beq_eq_true hfk) hfl (fun t ht => Qe (Lz hdd ht)) fun t ht => Ja (Lz hdd ht)) hx ⟨hg.nxt, hg.own, hg.rds⟩ hsub (hd.set hrd) (fun st' ρ' env' w' k1 k2 k3 k4 k5 => hK st' ρ' env' w' k1 k2 k3 ⟨k4.nxt, k4.own, k4.rds⟩ fun t ht => ?_) _ (ha.put e2 v)
    rw [k5 t ht]
    exact Ja fun hdt => O3 ht o (by rw [He] at ho; exact List.mem_of_getElem? ho) (by rw [e1, hdt])
  ·cases h
 | qk k =>
  have hno : Fq l = true := hE.no
  cases m with
  | zero => simp [C3] at hc
  | succ m =>
  simp only [C3, Bool.and_eq_true] at hc
  simp only [Ew] at h
  split at h
  ·rename_i o ho
   have hc2 := (bt h).1; replace h := (bt h).2
   simp only [Bool.and_eq_true] at hc2
   obtain ⟨⟨hgn, hfk⟩, hdn⟩ := hc2
   have hgd : o.guard = none := by unfold isNone at hgn; split at hgn; assumption; cases hgn
   obtain ⟨B', hB', hback⟩ := hs.frame
   obtain ⟨d, sv, v, st', ρ', e1, hlt, k1, k2, k3, k4, k5, k6, k7⟩ := Sc hC hB' h
   have hs2 := (bt k1).1; replace k1 := (bt k1).2
   have hrd : k ∈ Region.ready .any ops.toArray listed := by simpa using hc.1.1
   have hdd : Am (Dq fl) d = false := by
    unfold Nh at hdn
    rw [e1] at hdn
    simpa using hdn
   have henv : (st'.put d sv).env = (d, some sv) :: st.env := by
    show (d, some sv) :: st'.env = _
    rw [k6]
   refine Bjh (v := v) (hget ho) (Region.noSelect_spec hns) m listed moved a w hd (by rw [hmv, hE.sz]) (Region.free_spec (hget ho) hc.1.2) hrd (.inl ⟨by simp [Region.wanted, hgd], (k7 C.n a ha).get⟩) ?_
   rw [e1]
   refine ih m _ (moved.setIfInBounds k true) l E (st'.put d sv) K ρ' ((d, v) :: env) w k1 hc.2 (by simp [hmv]) (hback ρ' (st'.put d sv) ((d, v) :: env) w k2 ⟨k3.len, k3.env.put k4 d, k3.mem⟩) (hE.step (fun f hf => hf) hno (Nat.eq_of_beq_eq_true hfk) hfl (fun t ht => Qe (Lz hdd ht)) fun t ht => by rw [henv]; exact Ja (Lz hdd ht)) (hx.trans k2) (hg.trans ⟨k5.nxt, k5.own, k5.rds⟩) hs2 (hd.set hrd) (fun st2 ρ2 env2 w2 g1 g2 g3 g4 g5 => hK st2 ρ2 env2 w2 g1 g2 (k2.trans g3) (Grow.trans ⟨k5.nxt, k5.own, k5.rds⟩ ⟨g4.nxt, g4.own, g4.rds⟩) fun t ht => ?_) _ (ha.put hlt v)
   rw [g5 t ht, henv]
   exact Ja fun hdt => O3 ht o (by rw [He] at ho; exact List.mem_of_getElem? ho) (by rw [e1, hdt])
  ·cases h
 | op k =>
  have hno : Fq l = true := hE.no
  cases m with
  | zero => simp [C3] at hc
  | succ m =>
  simp only [C3, Bool.and_eq_true] at hc
  refine ⟨hI, fun h' => by rw [h'] at hc; simp at hc, fun i hi w1 h1 => ?_⟩
  have hci := List.all_eq_true.1 hc.2 i hi
  cases hik : Nat.beq i k with
  | false =>
   rw [hik] at hci
   simp only [cond_false, Bool.and_eq_true] at hci
   exact flStep m i hi (by simpa using hci.1) hci.2 w1 h1
  | true =>
   rw [hik] at hci
   simp only [cond_true] at hci
   cases Nat.eq_of_beq_eq_true hik
   exact opStep m _ l (fun f hf => hf) hno hi hci h w1 h1
 | gh f =>
  simp only [C3] at hc
  cases hlf : listed.getD f false with
  | false =>
   rw [hlf] at hc
   simp only [cond_false] at hc
   cases m with
   | zero => cases hc
   | succ m =>
   simp only [Bool.and_eq_true] at hc
   refine ⟨hI, fun h' => by rw [h'] at hc; simp at hc, fun i hi w1 h1 => ?_⟩
   have hci := List.all_eq_true.1 hc.2 i hi
   simp only [Bool.and_eq_true] at hci
   exact flStep m i hi (by simpa using hci.1) hci.2 w1 h1
  | true =>
   rw [hlf] at hc
   simp only [cond_true] at hc
   have hno2 := hE.no
   simp only [Fq, Bool.and_eq_true] at hno2
   have hnm : Am (Ep l) f = false := by simpa using hno2.1
   obtain ⟨e, E1, E2, rfl, hef⟩ := Add (hE.in_ f (List.mem_cons_self ..) hlf)
   obtain ⟨e1, e2, e3, o, o1, o2, o3⟩ := hE.e e (List.mem_append_right _ (List.mem_cons_self ..))
   simp only [Ew] at h
   split at h
   ·rename_i d ty0 ty pos af ho
    rw [hef, ho] at o1
    obtain rfl := Option.some.inj o1
    have hde : d = e.d := Option.some.inj o2
    have hc2 := (bt h).1; replace h := (bt h).2
    obtain ⟨b, ty', ti, t1, t2, t3⟩ := o3
    unfold S7 at h
    rw [t1] at h
    simp only at h
    have hz0 := (Asf h).1; replace h := (Asf h).2
    have hs2 := (bt h).1; replace h := (bt h).2
    have hx1 := Ext.one ρ (.box b)
    have hl := Di ρ (.box b)
    rw [hs.len] at hl
    obtain ⟨m1, rs1, g1, g2, g3, hM⟩ := hs.mem
    have hM2 : St B ((Aw b (List.toArray (ti.zero.map Cell.val)) ty' :: m1) ++ (E1 ++ E2).map FE.x) rs1 w := by
     refine hM.perm ?_
     simp only [List.map_append, List.map_cons, t3, List.cons_append, <- List.append_assoc]
     exact List.perm_middle
    have gr : ∀ L, Grow st { st with own := .box st.nxt st.nxt L :: st.own, nxt := st.nxt + 1 } := fun L => Grow.fresh rfl (OwnLe.refl _)
    have own1 : OwnOk (ρ ++ [.box b]) rs1 (.box st.nxt st.nxt ti.zero :: st.own) (Aw b (List.toArray (ti.zero.map Cell.val)) ty' :: m1) := ⟨⟨b, ty', _, hl, Y2 hz0, rfl⟩, OwnOk.mono hx1 (fun _ h => h) g1⟩
    refine ih m listed moved l (E1 ++ E2) _ K (ρ ++ [.box b]) env w h hc hmv ⟨by simp [hs.len, SSt.put], ?_, _, rs1, own1, g2.mono hx1 fun _ h => h, g3, hM2⟩ (hE.used hef rfl hnm hno2.2 fun t => ?_) (hx.trans hx1) (hg.trans ⟨(gr ti.zero).nxt, (gr ti.zero).own, (gr ti.zero).rds⟩) hs2 hd (fun st' ρ' env' w' k1 k2 k3 k4 k5 => hK st' ρ' env' w' k1 k2 (hx1.trans k3) (Grow.trans (gr ti.zero) ⟨k4.nxt, k4.own, k4.rds⟩) fun t ht => ?_) a ha
    ·exact EnvOk.set (hs.env.mono hx1) (by rw [hde]; exact e2) (by rw [t2]; exact ⟨b, hl, rfl⟩)
    ·by_cases ht : d = t
     ·subst ht
      refine .inl fun g d' hm hl' hdd => ?_
      subst hdd
      rw [hde] at hm
      have := Abl hnd hm e3
      subst this
      rw [e1] at hl'; cases hl'
     ·exact .inr (Ja ht)
    ·rw [k5 t ht]
     exact Ja fun hdt => O3 ht _ (by rw [He] at ho; exact List.mem_of_getElem? ho) (by rw [hdt])
   ·cases h
 | li f =>
  simp only [C3] at hc
  cases hlf : listed.getD f false with
  | false =>
   rw [hlf] at hc
   simp only [cond_false] at hc
   cases m with
   | zero => cases hc
   | succ m =>
   simp only [Bool.and_eq_true] at hc
   refine ⟨hI, fun h' => by rw [h'] at hc; simp at hc, fun i hi w1 h1 => ?_⟩
   have hci := List.all_eq_true.1 hc.2 i hi
   simp only [Bool.and_eq_true] at hci
   exact flStep m i hi (by simpa using hci.1) hci.2 w1 h1
  | true =>
   rw [hlf] at hc
   simp only [cond_true] at hc
   simp only [Ew] at h
   exact ih m listed moved l E st K ρ env w h hc hmv hs ⟨hE.sz, hE.e, hE.in_, hE.no, hE.fls, hE.out⟩ hx hg hsub hd hK a ha
 | ap k f =>
  cases m with
  | zero => simp [C3] at hc
  | succ m =>
  simp only [C3, Bool.and_eq_true] at hc
  obtain ⟨hlf, hc⟩ := hc
  refine ⟨hI, fun h' => by rw [h'] at hc; simp at hc, fun i hi w1 h1 => ?_⟩
  have hci := List.all_eq_true.1 hc.2 i hi
  cases hik : Nat.beq i k with
  | false =>
   rw [hik] at hci
   simp only [cond_false, Bool.and_eq_true] at hci
   exact flStep m i hi (by simpa using hci.1) hci.2 w1 h1
  | true =>
   rw [hik] at hci
   simp only [cond_true] at hci
   cases Nat.eq_of_beq_eq_true hik
   have hno2 := hE.no
   simp only [Fq, Bool.and_eq_true] at hno2
   have hnm : Am (Ep l) f = false := by simpa using hno2.1
   obtain ⟨e, E1, E2, rfl, hef⟩ := Add (hE.in_ f (List.mem_cons_self ..) hlf)
   obtain ⟨e1, e2, e3, o, o1, o2, o3⟩ := hE.e e (List.mem_append_right _ (List.mem_cons_self ..))
   simp only [Ew] at h
   split at h
   ·rename_i d2 args tys ty2 pos2 af2 d1 t len ps ty pos af ho hof
    split at h
    ·rename_i dd y t1 t2 hargs htys
     have hc2 := (bt h).1; replace h := (bt h).2
     simp only [Bool.and_eq_true] at hc2
     obtain ⟨⟨⟨q1, q2⟩, q3, q4⟩, ⟨q5, q6⟩, q7⟩ := hc2
     cases Nat.eq_of_beq_eq_true q1
     cases Nat.eq_of_beq_eq_true q3
     cases Nat.eq_of_beq_eq_true q4
     have hargs' : args = #[.tmp d1, y] := by cases args; simpa using hargs
     have htys' : tys = #[t, t] := by cases tys; simpa using htys
     subst hargs' htys'
     rw [hef, hof] at o1
     obtain rfl := Option.some.inj o1
     have hde : d1 = e.d := Option.some.inj o2
     obtain ⟨ee, ei, te, b, w1', w2', w3'⟩ := o3
     have hs1 := hs.rel h1
     have q7' : Am (Dq fl) d2 = false := by simpa using q7
     unfold Rq at h
     split at h
     ·rename_i hh e' ei' te' hy ht
      rw [w1'] at ht
      cases ht
      obtain ⟨u1, _, z, hz, _⟩ := I3 w1'
      have hc3 := (bt h).1; replace h := (bt h).2
      simp only [Bool.and_eq_true] at hc3
      rw [<- Nat.eq_of_beq_eq_true hc3.2.2] at hz
      split at h
      ·rename_i c hcq
       split at h
       ·rename_i M hM2
        have hbd := (Bp h).1; replace h := (Bp h).2
        have hs2 := (bt h).1; replace h := (bt h).2
        obtain ⟨vv, v1, sv, s1, rfl⟩ := hs1.env.evC hy
        obtain ⟨s', s2, s3⟩ := hs1.sat.rd hcq
        rw [s1] at s2; cases s2
        obtain ⟨ec, ec2⟩ := Ll hM2
        obtain ⟨t', L'⟩ := c
        simp only at ec ec2 s3
        subst ec ec2
        obtain ⟨m1, rs1, g1, g2, g3, hM⟩ := hs1.mem
        have hM' : St B (oC (Ad (sz t') (fD t') ([] : List (Ax t'))) (Sv.v ⟨some ⟨b, 0, none⟩, 0, 0⟩) :: (m1 ++ (E1 ++ E2).map FE.x)) rs1 w1 := by
         refine hM.perm ?_
         simp only [List.map_append, List.map_cons, w3', <- List.append_assoc]
         exact List.perm_middle
        refine Ads (hget ho) rfl (.inr fun v w' h => h.1) ha (OD.ex (Awd u1 hz v1 (by rw [hde]; simp only [ev]; rw [e2, w2']) s3 (Wj hc3.2.1) hM' hbd hc3.1 (K := fun v w' => Rel w1 w' /\ ∃ sn : Sv, v = sn.v /\ St B (oC (Ad (sz t') (fD t') ([] ++ L')) sn.v :: (m1 ++ (E1 ++ E2).map FE.x)) rs1 w') fun s' w4 hr4 hM4 => ⟨hr4, s', rfl, hM4⟩)) fun v w' ⟨_, sn, hv, hM4⟩ => ?_
        subst hv
        have hx1 := Ext.one ρ (.row sn)
        have hl := Di ρ (.row sn)
        rw [hs.len] at hl
        have gr : ∀ L, Grow st { st with own := .row st.nxt st.nxt t' L [] :: st.own, nxt := st.nxt + 1 } := fun L => Grow.fresh rfl (OwnLe.refl _)
        have own1 : OwnOk (ρ ++ [.row sn]) rs1 (.row st.nxt st.nxt t' ([] ++ L') [] :: st.own) (oV (oC (Ad (sz t') (fD t') ([] ++ L')) sn.v) [] :: m1) := ⟨⟨sn, [], hl, rfl, rfl⟩, OwnOk.mono hx1 (fun _ h => h) g1⟩
        refine ih m _ moved l (E1 ++ E2) _ K (ρ ++ [.row sn]) ((d2, sn.v) :: env) w' h hci hmv ⟨by simp [hs.len, SSt.put], ?_, _, rs1, own1, g2.mono hx1 fun _ h => h, g3, hM4.z Z.toV⟩ ?_ (hx.trans hx1) (hg.trans ⟨(gr ([] ++ L')).nxt, (gr ([] ++ L')).own, (gr ([] ++ L')).rds⟩) hs2 (hd.set hi) (fun st' ρ' env' w' k1 k2 k3 k4 k5 => hK st' ρ' env' w' k1 k2 (hx1.trans k3) (Grow.trans (gr ([] ++ L')) ⟨k4.nxt, k4.own, k4.rds⟩) fun t ht => ?_) _ (ha.put q5 _)
        ·exact (hs.env.mono hx1).put (sv := .v (.c (.sl st.nxt))) ⟨sn, hl, rfl⟩ d2
        ·have hu : EOk ops fl listed env st l (E1 ++ E2) := hE.used hef rfl hnm hno2.2 fun t => .inr rfl
         have hu2 : EOk ops fl listed env st (.cons (.lk k) l) (E1 ++ E2) := ⟨hu.sz, hu.e, hu.in_, hu.no, hu.fls, hu.out⟩
         exact hu2.step (fun f hf => hf) hu.no (Nat.eq_of_beq_eq_true q6) hfl (fun t ht => Qe (Lz q7' ht)) fun t ht => Ja (Lz q7' ht)
        ·rw [k5 t ht]
         exact Ja fun hdt => O3 ht _ (by rw [He] at ho; exact List.mem_of_getElem? ho) (by rw [hdt])
       ·cases h
      ·cases h
     ·cases h
    ·cases h
   ·cases h
theorem Ac7 {W : List Nat} : ∀ {own : List Chunk}, ∀ a ∈ N4 W own, a ∈ own
 | [], a, h => h
 | c :: own, a, h => by
  simp only [N4] at h
  cases hb : Ac1 c && !Am W (hOf c) with
  | true =>
   rw [hb] at h
   rcases List.mem_cons.1 h with rfl | h
   ·exact List.mem_cons_self ..
   ·exact List.mem_cons_of_mem _ (Ac7 a h)
  | false =>
   rw [hb] at h
   exact List.mem_cons_of_mem _ (Ac7 a h)
theorem Ary {W : List Nat} : ∀ {own : List Chunk} {m : List As}, OwnOk ρ rs own m -> ∃ m', OwnOk ρ rs (N4 W own) m'
 | [], [], _ => ⟨[], trivial⟩
 | c :: own, a :: m, ⟨h1, h2⟩ => by
  obtain ⟨m', h3⟩ := Ary (W := W) h2
  simp only [N4]
  cases Ac1 c && !Am W (hOf c) with
  | true => exact ⟨a :: m', h1, h3⟩
  | false => exact ⟨m', h3⟩
 | [], _ :: _, h => h.elim
 | _ :: _, [], h => h.elim
theorem Bd3 (hC : ∀ c ∈ C.cons, Holds amb c) {Q : Post} {id : Nat} {aops : Array Oper} {draw : Bool} {K : SSt -> Option R} (h : Aes C aops.toList draw st K = some r) (hs : Sat B amb ρ st env w)
  (hK : ∀ st' ρ' env' w', K st' = some r -> Sat B amb ρ' st' env' w' -> Ext ρ ρ' -> Grow st st' -> (∀ t, Am (Bb aops.toList) t = false -> Ap st'.env t = Ap st.env t) -> Q .normal env' w') : WC Tryz.prog C.n (.region id aops draw) Q env w := by
 have e : aops = aops.toList.toArray := by simp
 unfold Aes at h
 cases draw with
 | false =>
  rw [e]
  exact Afy (Qp hC _ _ st K ρ env w h hs hK)
 | true =>
  simp only [cond_true] at h
  cases hcd : Region.noSelect aops.toList.toArray && L8 aops.toList.toArray (Kr C (Hs aops.toList) aops.toList aops.toList.length (Array.replicate aops.toList.length false)) (Array.replicate aops.toList.length false) with
  | true =>
   rw [hcd] at h
   simp only [cond_true] at h
   simp only [Bool.and_eq_true] at hcd
   exact Bd1 hC hcd.1 hcd.2 h hs hK
  | false =>
   rw [hcd] at h
   simp only [cond_false] at h
   have hc := (bt h).1; replace h := (bt h).2
   simp only [Bool.and_eq_true] at hc
   obtain ⟨⟨⟨c1, c2⟩, ⟨⟨c3, c4⟩, c5, c6⟩, c7⟩, c8⟩ := hc
   obtain ⟨m, rs, h1, h2, h3, hM⟩ := hs.mem
   obtain ⟨m0, hm0⟩ := Ary (W := Aer st.env aops.toList aops.toList) h1
   rw [e]
   intro a ha
   have hw := Bd2 (B := B) hC (Q := Q) (ρ0 := ρ) (st0 := st) hm0 (fun a h => Ac7 a h) c2 c1 rfl c3 c5 _ _ _ _ _ [] _ K ρ env w h c7 (by simp) ⟨hs.len, fun t sv ht => ?_, m, rs, h1, h2, h3, by simpa using hM⟩ ⟨by simp, (fun _ h => by cases h), fun f hf hl => ?_, c4, fun f hf => by simpa using List.all_eq_true.1 c6 f hf, fun f d hm _ => Avw (Qg hm)⟩ (Ext.refl ρ) ⟨Nat.le_refl _, fun c h _ => ⟨c, h, .inl rfl⟩, [], rfl⟩ c8 (Down.init _) (fun st' ρ' env' w' k1 k2 k3 k4 k5 => hK st' ρ' env' w' k1 k2 k3 ⟨k4.nxt, k4.own, k4.rds⟩ fun t ht => ?_) a ha
   ·exact wp_region_any Tryz_mixed (Af3 (QA := fun a w => I9 C.n Q .normal a w) (fun _ _ h => h) _ _ _ _ _ (by simpa using T9 hw (Rel.drew (Rel.refl w))))
   ·cases hmt : Am (Dq (Fz aops.toList 0 aops.toList)) t with
    | true => rw [Avw hmt] at ht; cases ht
    | false => rw [Avx hmt] at ht; exact hs.env t sv ht
   ·exfalso
    have hz : (Array.replicate aops.toList.length false).getD f false = false := by
     rw [Array.getD_eq_getD_getElem?, Array.getElem?_replicate]; split <;> rfl
    rw [hz] at hl; cases hl
   ·rw [k5 t ht]
    refine Avx ?_
    cases hmt : Am (Dq (Fz aops.toList 0 aops.toList)) t with
    | false => rfl
    | true =>
     exfalso
     have : ∀ {all l : List Oper} {k : Nat}, Am (Dq (Fz all k l)) t = true -> Am (Bb l) t = true := fun {all l k} => by
      induction l generalizing k with
      | nil => intro h; cases h
      | cons q l ihl =>
       intro h
       simp only [Fz] at h
       simp only [Bb]
       split at h
       ·rename_i d hd
        simp only [Am, Bool.or_eq_true]
        cases hz : Nat.beq (P0 all q) 0 with
        | true => rw [hz] at h; exact .inr (ihl h)
        | false =>
         rw [hz] at h
         simp only [cond_false, Dq, Am, Bool.or_eq_true] at h
         exact h.imp (fun h => h) ihl
       ·rename_i hd
        exact ihl h
     rw [this hmt] at ht; cases ht
end
end
section
open Go.RowKit
section
variable {ρ ρ' : List HV} {rs rs' : List Rd} {B : Base} {amb : List Rd} {st : SSt} {env : Env} {w : World} {m : List As}
variable {C : Ctx} {R0 R : Type} {Bd : SSt -> Option R0} {rt : R0 -> Option R} {K : Option Nat -> SSt -> Option R} {r : R} {Q : Post}
theorem Kk {α β : Type} {x : Option α} {f : α -> β} {z : β} (h : x.map f = some z) : ∃ y, x = some y /\ f y = z := Option.map_eq_some_iff.1 h
theorem Jd {b : Bool} {x : Option R} (h : (bif !b then none else x) = some r) : b = true /\ x = some r := by
 cases b with
 | true => exact ⟨rfl, h⟩
 | false => cases h
theorem A0m {o : Operand} {a c : Code} (ha : RunOk B amb C Bd a) (hc : RunOk B amb C Bd c) : RunOk B amb C Bd (.cond o a c) := fun R b st rt K r ρ env w Q h hs hK hR => by
 have hl1 : ∀ t, Am (wr a ++ wr c) t = false -> Am (wr a) t = false := fun t ht => by rw [Gr, Bool.or_eq_false_iff] at ht; exact ht.1
 have hl2 : ∀ t, Am (wr a ++ wr c) t = false -> Am (wr c) t = false := fun t ht => by rw [Gr, Bool.or_eq_false_iff] at ht; exact ht.2
 rw [run] at h
 split at h
 ·cases h
 ·rename_i t ht
  have he := hs.env.evB ht
  split at h
  ·refine Ip he (fun e => ?_) (fun e => ?_)
   ·rw [e] at h
    exact ha R b st rt K r ρ env w Q h hs (fun e st' ρ' env' w' h' hn => hK e st' ρ' env' w' h' (hn.mono hl1)) hR
   ·rw [e] at h
    exact hc R b st rt K r ρ env w Q h hs (fun e st' ρ' env' w' h' hn => hK e st' ρ' env' w' h' (hn.mono hl2)) hR
  ·rename_i hh _
   dsimp only at h
   split at h
   ·cases h
   ·rename_i p hp
    have hb := (Jd h).1; replace h := (Jd h).2
    simp only [Bool.and_eq_true] at hb
    cases hx : hh.esc with
    | true =>
     rw [hx] at h
     simp only [cond_true] at h
     obtain ⟨y, h1, h2⟩ := Af h
     have hext : ∀ (st2 : SSt) (z : Sum (VT hh.vary) R0), Option.map Sum.inl (Dh hh.vary { p.2 with env := Bg (A6 hh.vary ++ (wr a ++ wr c)) st.env } st2) = some z -> ∃ y', Dh hh.vary { p.2 with env := Bg (A6 hh.vary ++ (wr a ++ wr c)) st.env } st2 = some y' /\ (Sum.inl y' : Sum (VT hh.vary) R0) = z := fun st2 z hz => Kk hz
     have hK1 : ∀ y', (Sum.inl y' : Sum (VT hh.vary) R0) = y -> K none (Dg hh.vary y' { p.2 with env := Bg (A6 hh.vary ++ (wr a ++ wr c)) st.env }) = some r := fun y' e => by rw [<- e] at h2; exact h2
     have hR1 : ∀ r0, some (Sum.inr r0 : Sum (VT hh.vary) R0) = some y -> rt r0 = some r := fun r0 e => by cases e; exact h2
     refine Ip he (fun e => ?_) (fun e => ?_)
     ·rw [e] at h1
      exact Xh ha hl1 hs hp hb.1 hb.2 hext h1 hK1 hR1 hK hR
     ·rw [e] at h1
      exact Xh hc hl2 hs hp hb.1 hb.2 hext h1 hK1 hR1 hK hR
    | false =>
     rw [hx] at h
     simp only [cond_false] at h
     obtain ⟨y, h1, h2⟩ := Af h
     have hext : ∀ st2 z, Dh hh.vary { p.2 with env := Bg (A6 hh.vary ++ (wr a ++ wr c)) st.env } st2 = some z -> ∃ y', Dh hh.vary { p.2 with env := Bg (A6 hh.vary ++ (wr a ++ wr c)) st.env } st2 = some y' /\ id y' = z := fun st2 z hz => ⟨z, hz, rfl⟩
     have hK1 : ∀ y', id y' = y -> K none (Dg hh.vary y' { p.2 with env := Bg (A6 hh.vary ++ (wr a ++ wr c)) st.env }) = some r := fun y' e => by rw [<- e] at h2; exact h2
     refine Ip he (fun e => ?_) (fun e => ?_)
     ·rw [e] at h1
      exact Xh ha hl1 hs hp hb.1 hb.2 hext h1 hK1 (fun r0 e => by cases e) hK hR
     ·rw [e] at h1
      exact Xh hc hl2 hs hp hb.1 hb.2 hext h1 hK1 (fun r0 e => by cases e) hK hR
theorem Av1 {v : List VK} {wl : List Nat} {p : List Leaf × SSt} {s1 st' : SSt} {ρ1 : List HV} {ls0 : List Leaf} {env0 env' : Env} {w0 w' : World} {y : VT v}
  (hI : Inv B amb ρ { p.2 with env := Bg (A6 v ++ wl) st.env } v ls0 env0 w0) (hok : Ev s1 = true) (hx : Ext ρ ρ1) (hp : PutSt { p.2 with env := Bg (A6 v ++ wl) st.env } s1)
  (hf : ∀ t sv, Ap (Bg (A6 v ++ wl) st.env) t = some sv -> Ap s1.env t = some sv) (hn : Nx B amb wl ρ1 s1 ρ' st' env' w') (hy : Dh v { p.2 with env := Bg (A6 v ++ wl) st.env } st' = some y) :
  Inv B amb ρ { p.2 with env := Bg (A6 v ++ wl) st.env } v (Jl (Gh _ y)) env' w' :=
 hI.back hok hp.own hn.sat (hx.trans hn.ext) hn.grow (by
  obtain ⟨x, h1⟩ := hn.grow.rds
  obtain ⟨z, h2⟩ := hp.grow.rds
  exact ⟨x ++ z, by rw [h1, h2, List.append_assoc]⟩) (fun t sv ht => by
  rcases hn.fr t (Sr ht).2 with q | q
  ·exact .inl q
  ·exact .inr (by rw [q]; exact hf t sv ht)) hy
theorem PutSt.grow0 {p : List Leaf × SSt} {e : List (Nat × Option SV)} {s : SSt} (h1 : ∀ c ∈ p.2.own, c ∈ st.own) (h2 : p.2 = { st with own := p.2.own }) (h : PutSt { p.2 with env := e } s) : Grow st s := by
 refine Grow.trans (b := { p.2 with env := e }) ⟨?_, fun c hc _ => ⟨c, h1 c hc, .inl rfl⟩, ?_⟩ h.grow
 ·show st.nxt <= p.2.nxt
  rw [h2]; exact Nat.le_refl _
 ·show ∃ x, p.2.rds = x ++ st.rds
  rw [h2]; exact ⟨[], rfl⟩
theorem Arr {c : Code} (hc : RunOk B amb C Bd c) {b : Nat} {v : List VK} {p : List Leaf × SSt} (hs : Sat B amb ρ st env w) (hp : Fy (Bg (A6 v ++ wr c) st.env) v st = some p) (hsub : Jj (wr c) (A6 v) = true)
  {x0 : VT v} (hx0 : Ms (O0 v) (Om p.1) = some x0) {R1 : Type} {inj : VT v -> R1} {rt1 : R0 -> Option (Lr (VT v) R1)} {go out : SSt -> Option (Lr (VT v) R1)} {f : VT v -> Option (Lr (VT v) R1)} {y : R1}
  (hf : ∀ x z, f x = some z -> Ev (Dg v x { p.2 with env := Bg (A6 v ++ wr c) st.env }) = true /\ run C Bd c b (Dg v x { p.2 with env := Bg (A6 v ++ wr c) st.env }) rt1 (J8 b go out) = some z)
  (hgo : ∀ st2 z, go st2 = some z -> ∃ y', Dh v { p.2 with env := Bg (A6 v ++ wr c) st.env } st2 = some y' /\ z = .go y')
  (hout : ∀ st2 z, out st2 = some z -> ∃ y', Dh v { p.2 with env := Bg (A6 v ++ wr c) st.env } st2 = some y' /\ z = .out (inj y'))
  (hrt : ∀ r0 z, rt1 r0 = some z -> ∃ q, z = .out q /\ (q = y -> rt r0 = some r)) (h : Bj f x0 = some y)
  (hK1 : ∀ y', inj y' = y -> K (some b) (Dg v y' { p.2 with env := Bg (A6 v ++ wr c) st.env }) = some r) (hK : KOk B amb (wr c) ρ st K r Q) (hR : ROk B amb ρ st Bd rt r Q) : WC Tryz.prog C.n (.loop c) Q env w := by
 obtain ⟨hI, h1, h2⟩ := Inv.enter hs hp fun t sv ht => (Lw ht).2
 rw [<- Zl (ls := p.1), <- T6 hx0] at hI
 obtain ⟨n, hn⟩ := Ars h
 refine Av7 (α := Nat × VT v) (fun s env w => Inv B amb ρ { p.2 with env := Bg (A6 v ++ wr c) st.env } v (Jl (Gh _ s.2)) env w /\ Fh f s.1 s.2 = some y) (fun s => s.1) (n, x0) ⟨hI, hn⟩ ?_
 rintro ⟨m, x⟩ env1 w1 ⟨hI1, hm⟩
 obtain ⟨m', z, rfl, hz, hz2⟩ := A97 hm
 obtain ⟨hok, hrun⟩ := hf x z hz
 obtain ⟨ρ1, a1, a2, a3, a4⟩ := hI1.sat
 refine hc _ b _ rt1 _ z ρ1 env1 w1 _ hrun a2 (fun e st' ρ' env' w' h' hnx => ?_) fun st' r0 ρ' env' w' k1 k2 k3 k4 k5 => ?_
 ·have hI2 : ∀ y', Dh v { p.2 with env := Bg (A6 v ++ wr c) st.env } st' = some y' -> Inv B amb ρ { p.2 with env := Bg (A6 v ++ wr c) st.env } v (Jl (Gh _ y')) env' w' := fun y' hy' =>
   Av1 hI1 hok a1 a3 (fun t sv ht => (a4 t (Sr ht).1).trans ht) hnx hy'
  cases e with
  | none =>
   obtain ⟨y', e1, rfl⟩ := hgo st' z h'
   exact ⟨(m', y'), Nat.lt_succ_self _, hI2 y' e1, hz2⟩
  | some j =>
   simp only [J8] at h'
   have hj := (bt h').1; replace h' := (bt h').2
   obtain ⟨y', e1, rfl⟩ := hout st' z h'
   obtain ⟨ρ2, hn2⟩ := Xc h1 h2 hsub (hI2 y' e1)
   have hj := Nat.eq_of_beq_eq_true hj
   subst hj
   exact hK (some _) _ ρ2 env' w' (hK1 y' (Option.some.inj hz2)) hn2
 ·obtain ⟨q, rfl, hq⟩ := hrt r0 z k2
  exact hR st' r0 ρ' env' w' k1 (hq (Option.some.inj hz2)) k3 (a1.trans k4) ((a3.grow0 h1 h2).trans k5)
theorem A1x {c : Code} {k n e d : Nat} (h : Si c = some (k, n, e, d)) : ∃ id t u ty pos af rest, c = .seq (.region id #[⟨some d, .binOp .lss t (.tmp k) (.tmp n) u, ty, pos, af, none⟩] false) (.seq (.cond (.tmp d) .skip (.exit e)) rest) := by
 unfold Si at h
 split at h
 ·rename_i id ops c' e' rest
  split at h
  ·rename_i d' t k' n' u ty pos af hops
   have hb := (bt h).1; replace h := (bt h).2
   cases h
   cases Nat.eq_of_beq_eq_true hb
   refine ⟨id, t, u, ty, pos, af, rest, ?_⟩
   have : ops = ops.toList.toArray := by simp
   rw [this, hops]
  ·cases h
 ·cases h
theorem A38 {c : Code} {k n e d N : Nat} (h : Si c = some (k, n, e, d)) (hd : Nat.blt d N = true) {i j : Int} (h1 : lk env k = some (.int .i64 i)) (h2 : lk env n = some (.int .i64 j)) (hij : ¬ i < j) (hq : Q (.exit e) ((d, .bool false) :: env) w) : WC Tryz.prog N c Q env w := by
 obtain ⟨id, t, u, ty, pos, af, rest, rfl⟩ := A1x h
 refine Fu (Afy (l := [_]) (wv hd (Aeg h1 h2) (Af1 ?_)))
 show WC _ _ _ Q _ w
 have e0 : (Value.bool (decide (i < j))) = .bool false := by simp [hij]
 rw [e0]
 exact Fu (Bje (by simp [ev, lk]) (Av6 hq))
theorem A96 {u : Nat} {x : Option Cell} (h : So u x = true) : ∃ k q, x = some (.sx u k q) := by
 unfold So at h
 split at h
 ·rename_i u' k q
  cases Nat.eq_of_beq_eq_true h
  exact ⟨k, q, rfl⟩
 ·cases h
theorem Abr {se : List (Nat × Option SV)} {s : Nat} {x : Cell} (h : evC se (.tmp s) = some x) : Ap se s = some (.v (.c x)) := by
 unfold evC at h
 split at h
 ·rename_i y hy
  cases h
  exact hy
 ·cases h
theorem Ao6 {c : Code} (hc : RunOk B amb C Bd c) {b : Nat} {v : List VK} {p : List Leaf × SSt} (hs : Sat B amb ρ st env w) (hp : Fy (Bg (A6 v ++ wr c) st.env) v st = some p) (hsub : Jj (wr c) (A6 v) = true)
  {x0 : VT v} (hx0 : Ms (O0 v) (Om p.1) = some x0) {ks ns d hh n : Nat} (hhead : Si c = some (ks, ns, b, d)) (hd : Nat.blt d C.n = true) (hdv : Am (A6 v) d = false) (hdw : Am (wr c) d = true) (hkw : Am (wr c) ks = true)
  (hln : evC (Bg (A6 v ++ wr c) st.env) (.tmp ns) = some (.ln hh n)) (h00 : evC st.env (.tmp ks) = some (.i .i64 0))
  {R1 : Type} {inj : VT v -> R1} {rt1 : R0 -> Option (Lr (VT v) R1)} {go out : SSt -> Option (Lr (VT v) R1)} {f : Nat -> VT v -> Option (Lr (VT v) R1)} {y : R1}
  (hf : ∀ k x z, f k x = some z -> Ev (Dg v x { p.2 with env := Bg (A6 v ++ wr c) st.env }) = true /\ run C Bd c b (Nk ks k hh (Dg v x { p.2 with env := Bg (A6 v ++ wr c) st.env })) rt1 (J8 b (fun st2 => bif So (Dg v x { p.2 with env := Bg (A6 v ++ wr c) st.env }).nxt (evC st2.env (.tmp ks)) then go st2 else none) out) = some z)
  (hgo : ∀ st2 z, go st2 = some z -> ∃ y', Dh v { p.2 with env := Bg (A6 v ++ wr c) st.env } st2 = some y' /\ z = .go y')
  (hout : ∀ st2 z, out st2 = some z -> ∃ y', Dh v { p.2 with env := Bg (A6 v ++ wr c) st.env } st2 = some y' /\ z = .out (inj y'))
  (hrt : ∀ r0 z, rt1 r0 = some z -> ∃ q, z = .out q /\ (q = y -> rt r0 = some r)) (h : Aq f inj n 0 x0 = some y)
  (hK1 : ∀ y', inj y' = y -> K (some b) (Dg v y' { p.2 with env := Bg (A6 v ++ wr c) st.env }) = some r) (hK : KOk B amb (wr c) ρ st K r Q) (hR : ROk B amb ρ st Bd rt r Q) : WC Tryz.prog C.n (.loop c) Q env w := by
 obtain ⟨hI, h1, h2⟩ := Inv.enter hs hp fun t sv ht => (Lw ht).2
 rw [<- Zl (ls := p.1), <- T6 hx0] at hI
 have hk0 : lk env ks = some (iv ((0 : Nat) : Int)) := by
  obtain ⟨u, u1, u2⟩ := hs.env _ _ (Abr h00)
  cases u2; exact u1
 refine Av7 (α := Nat × Nat × VT v) (fun s env w => Inv B amb ρ { p.2 with env := Bg (A6 v ++ wr c) st.env } v (Jl (Gh _ s.2.2)) env w /\ lk env ks = some (iv (s.2.1 : Int)) /\ s.2.1 + s.1 = n /\ Aq f inj s.1 s.2.1 s.2.2 = some y) (fun s => s.1) (n, 0, x0) ⟨hI, hk0, by simp, h⟩ ?_
 rintro ⟨m, k, x⟩ env1 w1 ⟨hI1, hk, hkm, hm⟩
 obtain ⟨u, u1, u2, q, q1, q2, q3⟩ := hI1.evs _ _ (Abr hln)
 subst u2
 replace hkm : k + m = n := hkm
 cases m with
 | zero =>
  have hkn : k = n := hkm
  refine A38 hhead hd hk u1 (by subst hkn; exact Int.lt_irrefl _) ?_
  have hd0 : Ap (Bg (A6 v ++ wr c) st.env) d = none := by
   cases hq : Ap (Bg (A6 v ++ wr c) st.env) d with
   | none => rfl
   | some sv => have := (Sr hq).2; rw [hdw] at this; cases this
  obtain ⟨ρ2, hn2⟩ := Xc h1 h2 hsub (hI1.put (d := d) (u := .bool false) hdv hd0)
  exact hK (some b) _ ρ2 _ w1 (hK1 x (Option.some.inj hm)) hn2
 | succ m' =>
  obtain ⟨z, hz, hz2⟩ := Af (x := f k x) hm
  obtain ⟨hok, hrun⟩ := hf k x z hz
  obtain ⟨ρ1, a1, a2, a3, a4⟩ := hI1.sat
  have hx1 := Ext.one ρ1 (.num k)
  have hlast := Di ρ1 (.num k)
  rw [a2.len] at hlast
  have hne : ∀ t, Am (wr c) t = false -> Nat.beq ks t = false := fun t ht => G3 fun e => by rw [<- e, hkw] at ht; cases ht
  have hsK : Sat B amb (ρ1 ++ [.num k]) (Nk ks k hh (Dg v x { p.2 with env := Bg (A6 v ++ wr c) st.env })) env1 w1 := by
   obtain ⟨m0, rs0, b1, b2, b3, hM⟩ := a2.mem
   refine ⟨by simp [Nk, <- a2.len, Dg], EnvOk.set (a2.env.mono hx1) hk ?_, m0, rs0, OwnOk.mono hx1 (fun _ h => h) b1, b2.mono hx1 fun _ h => h, b3, hM⟩
   exact ⟨rfl, hlast, q, hx1.get (a1.get q1), by omega, by omega⟩
  have hnK : Nx B amb (wr c) ρ1 (Dg v x { p.2 with env := Bg (A6 v ++ wr c) st.env }) (ρ1 ++ [.num k]) (Nk ks k hh (Dg v x { p.2 with env := Bg (A6 v ++ wr c) st.env })) env1 w1 :=
   ⟨hsK, hx1, ⟨Nat.le_succ _, fun c' h _ => ⟨c', h, .inl rfl⟩, [], rfl⟩, fun t ht => .inr (by simp only [Nk, Ap, hne t ht, cond_false])⟩
  refine hc _ b _ rt1 _ z _ env1 w1 _ hrun hsK (fun e st' ρ' env' w' h' hnx => ?_) fun st' r0 ρ' env' w' k1 k2 k3 k4 k5 => ?_
  ·have hI2 : ∀ y', Dh v { p.2 with env := Bg (A6 v ++ wr c) st.env } st' = some y' -> Inv B amb ρ { p.2 with env := Bg (A6 v ++ wr c) st.env } v (Jl (Gh _ y')) env' w' := fun y' hy' =>
    Av1 hI1 hok a1 a3 (fun t sv ht => (a4 t (Sr ht).1).trans ht) (hnK.trans hnx) hy'
   cases e with
   | none =>
    simp only [J8] at h'
    have hj := (bt h').1; replace h' := (bt h').2
    obtain ⟨y', e1, rfl⟩ := hgo st' z h'
    refine ⟨(m', k + 1, y'), Nat.lt_succ_self _, hI2 y' e1, ?_, by show k + 1 + m' = n; omega, hz2⟩
    obtain ⟨k', q', hsx⟩ := A96 hj
    obtain ⟨u', v1, v2, v3⟩ := hnx.sat.env _ _ (Abr hsx)
    have v4 := hnx.ext.get hlast
    have v5 : some (HV.num k') = some (HV.num k) := v3.symm.trans v4
    cases v5
    rw [v1, v2]
    show some (iv ((k : Int) + 1)) = some (iv ((k + 1 : Nat) : Int))
    rw [Int.natCast_add]; rfl
   | some j =>
    simp only [J8] at h'
    have hj := (bt h').1; replace h' := (bt h').2
    obtain ⟨y', e1, rfl⟩ := hout st' z h'
    obtain ⟨ρ2, hn2⟩ := Xc h1 h2 hsub (hI2 y' e1)
    have hj := Nat.eq_of_beq_eq_true hj
    subst hj
    exact hK (some _) _ ρ2 env' w' (hK1 y' (Option.some.inj hz2)) hn2
  ·obtain ⟨q, rfl, hq⟩ := hrt r0 z k2
   exact hR st' r0 ρ' env' w' k1 (hq (Option.some.inj hz2)) k3 (a1.trans (hx1.trans k4)) (((a3.grow0 h1 h2).trans hnK.grow).trans k5)
theorem Ba0 {c : Code} (hc : RunOk B amb C Bd c) : RunOk B amb C Bd (.loop c) := fun R b st rt K r ρ env w Q h hs hK hR => by
 rw [run] at h
 split at h
 ·cases h
 ·rename_i hh _
  dsimp only at h
  split at h
  ·cases h
  ·rename_i p hp
   have hsub := (Jd h).1; replace h := (Jd h).2
   split at h
   ·cases h
   ·rename_i x0 hx0
    split at h
    ·rename_i ks ns hes
     split at h
     ·rename_i k' n' e d q n hhead hln h00
      have hb := (bt h).1; replace h := (bt h).2
      simp only [Bool.and_eq_true, Bool.not_eq_true'] at hb
      obtain ⟨⟨⟨b1, b2⟩, b3, b4, b5⟩, b6, b7⟩ := hb
      have e1 := Nat.eq_of_beq_eq_true b1
      have e2 := Nat.eq_of_beq_eq_true b2
      have e3 := Nat.eq_of_beq_eq_true b3
      rw [<- e1, <- e2, e3] at hhead
      cases hx : hh.esc with
      | true =>
       rw [hx] at h
       simp only [cond_true] at h
       obtain ⟨y, h1, h2⟩ := Af h
       exact Ao6 hc hs hp hsub hx0 hhead b4 b5 b6 b7 hln h00 (inj := fun x => (Sum.inl x : Sum (VT hh.vary) _)) (fun k x z hz => Jd hz) (fun st2 z hz => by obtain ⟨y', e1, e2⟩ := Kk hz; exact ⟨y', e1, e2.symm⟩) (fun st2 z hz => by obtain ⟨y', e1, e2⟩ := Kk hz; exact ⟨y', e1, e2.symm⟩)
        (fun r0 z hz => by cases hz; exact ⟨_, rfl, fun e => by rw [<- e] at h2; exact h2⟩) h1 (fun y' e => by rw [<- e] at h2; exact h2) hK hR
      | false =>
       rw [hx] at h
       simp only [cond_false] at h
       obtain ⟨y, h1, h2⟩ := Af h
       exact Ao6 hc hs hp hsub hx0 hhead b4 b5 b6 b7 hln h00 (inj := fun x => x) (fun k x z hz => Jd hz) (fun st2 z hz => by obtain ⟨y', e1, e2⟩ := Kk hz; exact ⟨y', e1, e2.symm⟩) (fun st2 z hz => by obtain ⟨y', e1, e2⟩ := Kk hz; exact ⟨y', e1, e2.symm⟩)
        (fun r0 z hz => by cases hz) h1 (fun y' e => by rw [<- e] at h2; exact h2) hK hR
     ·cases h
    ·cases hx : hh.esc with
     | true =>
      rw [hx] at h
      simp only [cond_true] at h
      obtain ⟨y, h1, h2⟩ := Af h
      exact Arr hc hs hp hsub hx0 (inj := fun x => (Sum.inl x : Sum (VT hh.vary) _)) (fun x z hz => Jd hz) (fun st2 z hz => by obtain ⟨y', e1, e2⟩ := Kk hz; exact ⟨y', e1, e2.symm⟩) (fun st2 z hz => by obtain ⟨y', e1, e2⟩ := Kk hz; exact ⟨y', e1, e2.symm⟩)
       (fun r0 z hz => by cases hz; exact ⟨_, rfl, fun e => by rw [<- e] at h2; exact h2⟩) h1 (fun y' e => by rw [<- e] at h2; exact h2) hK hR
     | false =>
      rw [hx] at h
      simp only [cond_false] at h
      obtain ⟨y, h1, h2⟩ := Af h
      exact Arr hc hs hp hsub hx0 (inj := fun x => x) (fun x z hz => Jd hz) (fun st2 z hz => by obtain ⟨y', e1, e2⟩ := Kk hz; exact ⟨y', e1, e2.symm⟩) (fun st2 z hz => by obtain ⟨y', e1, e2⟩ := Kk hz; exact ⟨y', e1, e2.symm⟩)
       (fun r0 z hz => by cases hz) h1 (fun y' e => by rw [<- e] at h2; exact h2) hK hR
theorem Bd4 (hC : ∀ c ∈ C.cons, Holds amb c) (c : Code) : RunOk B amb C Bd c := by
 induction c with
 | skip => exact fun R b st rt K r ρ env w Q h hs hK hR => O2 (hK none st ρ env w h (Nx.refl hs))
 | region id ops draw => exact fun R b st rt K r ρ env w Q h hs hK hR => Bd3 hC h hs fun st' ρ' env' w' h1 h2 h3 h4 h5 => hK none st' ρ' env' w' h1 ⟨h2, h3, h4, fun t ht => .inr (h5 t ht)⟩
 | seq a c ha hc => exact Bfl ha hc
 | cond o a c ha hc => exact A0m ha hc
 | block i c hc => exact A0a hc
 | loop c hc => exact Ba0 hc
 | exit i => exact fun R b st rt K r ρ env w Q h hs hK hR => Av6 (hK (some i) st ρ env w h (Nx.refl hs))
 | ret =>
   intro R b st rt K r ρ env w Q h hs hK hR
   obtain ⟨r0, h1, h2⟩ := Af h
   exact O1 (hR st r0 ρ env w h1 h2 hs (Ext.refl ρ) (Grow.refl st))
 | _ => exact fun R b st rt K r ρ env w Q h hs hK hR => by cases h
end
end
section
open Go.RowKit
section
variable {ρ ρ' : List HV} {rs rs' : List Rd} {B : Base} {amb : List Rd} {st : SSt} {env : Env} {w : World} {m : List As}
def Cell.det : Cell -> Bool
 | .i _ _ => true
 | .y _ => true
 | .b _ => true
 | .s _ => true
 | .sl _ => true
 | _ => false
theorem A0w {c : Cell} {u v : Value} (h : c.det = true) (h1 : c.Den ρ u) (h2 : c.Den ρ v) : u = v := by
 cases c with
 | i _ _ => exact h1.trans h2.symm
 | y _ => exact h1.trans h2.symm
 | b _ => exact h1.trans h2.symm
 | s _ => exact h1.trans h2.symm
 | sl k => obtain ⟨s, k1, rfl⟩ := h1; obtain ⟨s', k2, rfl⟩ := h2; rw [k1] at k2; cases k2; rfl
 | _ => cases h
theorem Ao2 : ∀ {cs : List Cell} {us vs : List Value}, cs.all Cell.det = true -> All2 (Cell.Den ρ) cs us -> All2 (Cell.Den ρ) cs vs -> us = vs
 | [], [], [], _, _, _ => rfl
 | c :: cs, u :: us, v :: vs, h, ⟨h1, h2⟩, ⟨k1, k2⟩ => by
  simp only [List.all_cons, Bool.and_eq_true] at h
  rw [A0w h.1 h1 k1, Ao2 h.2 h2 k2]
 | [], _ :: _, _, _, h, _ => h.elim
 | [], [], _ :: _, _, _, h => h.elim
 | _ :: _, [], _, _, h, _ => h.elim
 | _ :: _, _ :: _, [], _, _, h => h.elim
theorem J5 {o : Bool} : ∀ {ls : List Leaf} {st : SSt}, (Ar o ls st).1.all Cell.det = true
 | [], _ => rfl
 | .i _ :: r, st => by simp [Ar, Cell.det, J5 (ls := r)]
 | .b _ :: r, st => by simp [Ar, Cell.det, J5 (ls := r)]
 | .s _ :: r, st => by simp [Ar, Cell.det, J5 (ls := r)]
 | .y _ :: r, st => by simp [Ar, Cell.det, J5 (ls := r)]
 | .sl _ _ :: r, st => by simp [Ar, Cell.det, J5 (ls := r)]
theorem G4 {o : Bool} : ∀ {ls : List Leaf} {st : SSt}, ∀ c ∈ st.own, c ∈ (Ar o ls st).2.own
 | [], _, _, h => h
 | .i _ :: r, st, c, h => G4 (ls := r) c h
 | .b _ :: r, st, c, h => G4 (ls := r) c h
 | .s _ :: r, st, c, h => G4 (ls := r) c h
 | .y _ :: r, st, c, h => G4 (ls := r) c h
 | .sl _ _ :: r, st, c, h => G4 (ls := r) c (by
   cases o with
   | true => exact List.mem_cons_of_mem _ h
   | false => exact h)
def BxOk (ρ : List HV) (own : List Chunk) (x : Nat × Nat × BM × Ty) (y : Bx) : Prop := ρ[x.1]? = some (.box y.1) /\ ∃ cs, Chunk.box x.1 x.2.1 cs ∈ own /\ All2 (Cell.Den ρ) cs y.2.2 /\ cs.all Cell.det = true
theorem BxOk.mono (hx : Ext ρ ρ') {own own' : List Chunk} (h : ∀ c ∈ own, c ∈ own') {x : Nat × Nat × BM × Ty} {y : Bx} (k : BxOk ρ own x y) : BxOk ρ' own' x y := by
 obtain ⟨k1, cs, k2, k3, k4⟩ := k
 exact ⟨hx.get k1, cs, h _ k2, k3.mono fun _ _ => Cell.Den.mono hx, k4⟩
def IniOk (X S : Bs) (w : World) (amb : List Rd) (ρ : List HV) (st : SSt) (z : Ini) (ps : List PK) (vals caps : List Value) (bx : List Bx) : Prop :=
 ∃ ρ' rs' m', Ext ρ ρ' /\ ρ'.length = z.st.nxt /\ OwnOk ρ' rs' z.st.own m' /\ RdsOk ρ' z.st.rds rs' /\ (∀ r ∈ amb, r ∈ rs') /\ St ⟨w, X, S⟩ m' rs' w /\ All2 (V1.Den ρ') z.vs vals /\ All2 (CapIs ρ') z.caps caps /\ All2 (BxOk ρ' z.st.own) z.bx bx /\ z.bx.map (·.2.2.1) = F7 ps /\ ∀ c ∈ st.own, c ∈ z.st.own
theorem A9u {X S : Bs} {ps : List PK} {a : PArgs ps} {vals caps : List Value} {own : List As} {bx : List Bx} (h : PIn S w ps a vals caps own bx) : ∀ {st : SSt} {ρ : List HV} {m : List As} {rs : List Rd}, ρ.length = st.nxt -> OwnOk ρ rs st.own m -> RdsOk ρ st.rds rs -> (∀ r ∈ amb, r ∈ rs) -> St ⟨w, X, S⟩ (own ++ m) rs w -> IniOk X S w amb ρ st (Fg ps a st) ps vals caps bx := by
 induction h with
 | nil => intro st ρ m rs hn h1 h2 h3 hM; exact ⟨ρ, rs, m, Ext.refl ρ, hn, h1, h2, h3, hM, trivial, trivial, trivial, rfl, fun _ h => h⟩
 | @ro t ps x q vs vals caps own bx h _ ih =>
  intro st ρ m rs hn h1 h2 h3 hM
  have hr : ∀ r' ∈ rs, r' ∈ rX vs (fD t x) :: rs := fun _ h => List.mem_cons_of_mem _ h
  have hM1 : St ⟨w, X, S⟩ (m ++ own) (rX vs (fD t x) :: rs) w := (hM.addE (r := rX vs (fD t x)) h).perm List.perm_append_comm
  obtain ⟨ρ1, rs1, a1, a2, a3, a4, a5, a6, a7, a8, a9, a10⟩ := Nb (x0 := own) (Ay t x) st ρ vs _ hn (OwnOk.mono (Ext.refl ρ) hr h1) (h2.mono (Ext.refl ρ) hr) (fun S' hS' => by rw [<- Dc]; exact hS' _ (List.mem_cons_self ..)) hM1
  obtain ⟨ρ2, rs2, m2, b1, b2, b3, b4, b5, b6, b7, b8, b9, b10, b11⟩ := ih a3 a4 a5 (fun r hr' => a2 r (hr r (h3 r hr'))) (a6.perm List.perm_append_comm)
  exact ⟨ρ2, rs2, m2, a1.trans b1, b2, b3, b4, b5, b6, ⟨(Adg a7 (by rw [Ob h, C1])).mono b1, b7⟩, b8, b9, b10, fun c hc => b11 c (G4 c hc)⟩
 | @ow t ps x q vs vals caps own bx h _ ih =>
  intro st ρ m rs hn h1 h2 h3 hM
  have hM1 : St ⟨w, X, S⟩ (Ao ((Ay t x).map Leaf.ce) vs ++ (m ++ own)) rs w := by
   rw [<- Dc]
   exact hM.perm (by rw [List.append_assoc]; exact List.perm_append_comm.append_left _)
  obtain ⟨ρ1, m1, a1, a2, a3, a4, a5, a6, a7, a8⟩ := J6 (x := own) (Ay t x) st ρ vs m hn h1 (by rw [Fm, h]) hM1
  obtain ⟨ρ2, rs2, m2, b1, b2, b3, b4, b5, b6, b7, b8, b9, b10, b11⟩ := ih a2 a3 (by rw [a8]; exact h2.mono a1 fun _ h => h) h3 (a4.perm List.perm_append_comm)
  exact ⟨ρ2, rs2, m2, a1.trans b1, b2, b3, b4, b5, b6, ⟨(Adg a5 h).mono b1, b7⟩, b8, b9, b10, fun c hc => b11 c (G4 c hc)⟩
 | @bo t ps x q b e vs vals caps own bx h _ ih =>
  intro st ρ m rs hn h1 h2 h3 hM
  have hM1 : St ⟨w, X, S⟩ (Ao ((Ay t x).map Leaf.ce) vs ++ (m ++ (Aw b vs.toArray e :: own))) rs w := by
   rw [<- Dc]
   refine hM.perm ?_
   simp only [List.cons_append, List.append_assoc]
   refine (List.perm_middle.symm).trans (List.Perm.append_left _ ?_)
   exact (List.Perm.cons _ List.perm_append_comm).trans List.perm_middle.symm
  obtain ⟨ρ1, m1, a1, a2, a3, a4, a5, a6, a7, a8⟩ := J6 (x := Aw b vs.toArray e :: own) (Ay t x) st ρ vs m hn h1 (by rw [Fm, h]) hM1
  have hx := Ext.one ρ1 (.box b)
  have hlast := Di ρ1 (.box b)
  rw [a2] at hlast
  obtain ⟨ρ2, rs2, m2, b1, b2, b3, b4, b5, b6, b7, b8, b9, b10, b11⟩ := ih (st := { (Ar true (Ay t x) st).2 with own := .box (Ar true (Ay t x) st).2.nxt (Ar true (Ay t x) st).2.nxt (Ar true (Ay t x) st).1 :: (Ar true (Ay t x) st).2.own, nxt := (Ar true (Ay t x) st).2.nxt + 1 }) (m := Aw b vs.toArray e :: m1) (by simp [a2]) ⟨⟨b, e, vs, hlast, a5.mono fun _ _ => Cell.Den.mono hx, rfl⟩, OwnOk.mono hx (fun _ h => h) a3⟩ (by rw [show (_ : SSt).rds = _ from a8]; exact h2.mono (a1.trans hx) fun _ h => h) h3 (a4.perm (List.perm_middle.trans ((List.Perm.cons _ List.perm_append_comm).trans List.perm_middle.symm)))
  exact ⟨ρ2, rs2, m2, (a1.trans hx).trans b1, b2, b3, b4, b5, b6, ⟨⟨b, b1.get hlast, rfl⟩, b7⟩, b8, ⟨⟨b1.get hlast, _, b11 _ (List.mem_cons_self ..), a5.mono fun _ _ => Cell.Den.mono (hx.trans b1), J5⟩, b9⟩, congrArg _ b10, fun c hc => b11 c (List.mem_cons_of_mem _ (G4 c hc))⟩
 | @ea t ps x q b e vs vals caps own bx h _ ih =>
  intro st ρ m rs hn h1 h2 h3 hM
  have hM1 : St ⟨w, X, S⟩ (Ao ((Ay t x).map Leaf.ce) vs ++ (m ++ (Aw b vs.toArray e :: own))) rs w := by
   rw [<- Dc]
   refine hM.perm ?_
   simp only [List.cons_append, List.append_assoc]
   refine (List.perm_middle.symm).trans (List.Perm.append_left _ ?_)
   exact (List.Perm.cons _ List.perm_append_comm).trans List.perm_middle.symm
  obtain ⟨ρ1, m1, a1, a2, a3, a4, a5, a6, a7, a8⟩ := J6 (x := Aw b vs.toArray e :: own) (Ay t x) st ρ vs m hn h1 (by rw [Fm, h]) hM1
  have hx := Ext.one ρ1 (.box b)
  have hlast := Di ρ1 (.box b)
  rw [a2] at hlast
  obtain ⟨ρ2, rs2, m2, b1, b2, b3, b4, b5, b6, b7, b8, b9, b10, b11⟩ := ih (st := { (Ar true (Ay t x) st).2 with own := .box (Ar true (Ay t x) st).2.nxt (Ar true (Ay t x) st).2.nxt (Ar true (Ay t x) st).1 :: (Ar true (Ay t x) st).2.own, nxt := (Ar true (Ay t x) st).2.nxt + 1 }) (m := Aw b vs.toArray e :: m1) (by simp [a2]) ⟨⟨b, e, vs, hlast, a5.mono fun _ _ => Cell.Den.mono hx, rfl⟩, OwnOk.mono hx (fun _ h => h) a3⟩ (by rw [show (_ : SSt).rds = _ from a8]; exact h2.mono (a1.trans hx) fun _ h => h) h3 (a4.perm (List.perm_middle.trans ((List.Perm.cons _ List.perm_append_comm).trans List.perm_middle.symm)))
  exact ⟨ρ2, rs2, m2, (a1.trans hx).trans b1, b2, b3, b4, b5, b6, ⟨⟨b, b1.get hlast, rfl⟩, b7⟩, b8, b9, b10, fun c hc => b11 c (List.mem_cons_of_mem _ (G4 c hc))⟩
 | @li t ps x q b e vs vals caps own bx h _ ih =>
  intro st ρ m rs hn h1 h2 h3 hM
  have hM1 : St ⟨w, X, S⟩ (Ao ((Ay t x).map Leaf.ce) vs ++ (m ++ (Aw b vs.toArray e :: own))) rs w := by
   rw [<- Dc]
   refine hM.perm ?_
   simp only [List.cons_append, List.append_assoc]
   refine (List.perm_middle.symm).trans (List.Perm.append_left _ ?_)
   exact (List.Perm.cons _ List.perm_append_comm).trans List.perm_middle.symm
  obtain ⟨ρ1, m1, a1, a2, a3, a4, a5, a6, a7, a8⟩ := J6 (x := Aw b vs.toArray e :: own) (Ay t x) st ρ vs m hn h1 (by rw [Fm, h]) hM1
  have hx := Ext.one ρ1 (.box b)
  have hlast := Di ρ1 (.box b)
  rw [a2] at hlast
  obtain ⟨ρ2, rs2, m2, b1, b2, b3, b4, b5, b6, b7, b8, b9, b10, b11⟩ := ih (st := { (Ar true (Ay t x) st).2 with own := .box (Ar true (Ay t x) st).2.nxt (Ar true (Ay t x) st).2.nxt (Ar true (Ay t x) st).1 :: (Ar true (Ay t x) st).2.own, nxt := (Ar true (Ay t x) st).2.nxt + 1 }) (m := Aw b vs.toArray e :: m1) (by simp [a2]) ⟨⟨b, e, vs, hlast, a5.mono fun _ _ => Cell.Den.mono hx, rfl⟩, OwnOk.mono hx (fun _ h => h) a3⟩ (by rw [show (_ : SSt).rds = _ from a8]; exact h2.mono (a1.trans hx) fun _ h => h) h3 (a4.perm (List.perm_middle.trans ((List.Perm.cons _ List.perm_append_comm).trans List.perm_middle.symm)))
  exact ⟨ρ2, rs2, m2, (a1.trans hx).trans b1, b2, b3, b4, b5, b6, ⟨⟨b, b1.get hlast, rfl⟩, b7⟩, b8, b9, b10, fun c hc => b11 c (List.mem_cons_of_mem _ (G4 c hc))⟩
 | @br mm hm t ps x q b e vs vals caps own bx h _ ih =>
  cases mm
  case ow => cases hm
  all_goals
   intro st ρ m rs hn h1 h2 h3 hM
   have hr : ∀ r' ∈ rs, r' ∈ rX vs (fD t x) :: rs := fun _ h => List.mem_cons_of_mem _ h
   have hM1 : St ⟨w, X, S⟩ (m ++ (Aw b vs.toArray e :: own)) (rX vs (fD t x) :: rs) w := (hM.addE (r := rX vs (fD t x)) h).perm List.perm_append_comm
   obtain ⟨ρ1, rs1, a1, a2, a3, a4, a5, a6, a7, a8, a9, a10⟩ := Nb (x0 := Aw b vs.toArray e :: own) (Ay t x) st ρ vs _ hn (OwnOk.mono (Ext.refl ρ) hr h1) (h2.mono (Ext.refl ρ) hr) (fun S' hS' => by rw [<- Dc]; exact hS' _ (List.mem_cons_self ..)) hM1
   have hx := Ext.one ρ1 (.box b)
   have hlast := Di ρ1 (.box b)
   rw [a3] at hlast
   obtain ⟨ρ2, rs2, m2, b1, b2, b3, b4, b5, b6, b7, b8, b9, b10, b11⟩ := ih (st := { (Ar false (Ay t x) st).2 with own := .box (Ar false (Ay t x) st).2.nxt (Ar false (Ay t x) st).2.nxt (Ar false (Ay t x) st).1 :: (Ar false (Ay t x) st).2.own, nxt := (Ar false (Ay t x) st).2.nxt + 1 }) (m := Aw b vs.toArray e :: m) (by simp [a3]) ⟨⟨b, e, vs, hlast, a7.mono fun _ _ => Cell.Den.mono hx, rfl⟩, OwnOk.mono hx (fun _ h => h) a4⟩ (a5.mono hx fun _ h => h) (fun r hr' => a2 r (hr r (h3 r hr'))) (a6.perm (List.perm_middle.trans ((List.Perm.cons _ List.perm_append_comm).trans List.perm_middle.symm)))
   exact ⟨ρ2, rs2, m2, (a1.trans hx).trans b1, b2, b3, b4, b5, b6, ⟨⟨b, b1.get hlast, rfl⟩, b7⟩, b8, ⟨⟨b1.get hlast, _, b11 _ (List.mem_cons_self ..), a7.mono fun _ _ => Cell.Den.mono (hx.trans b1), J5⟩, b9⟩, congrArg _ b10, fun c hc => b11 c (List.mem_cons_of_mem _ (G4 c hc))⟩
 | @fn f n ps q cs vals caps own bx h _ ih =>
  intro st ρ m rs hn h1 h2 h3 hM
  obtain ⟨ρ2, rs2, m2, b1, b2, b3, b4, b5, b6, b7, b8, b9, b10, b11⟩ := ih hn h1 h2 h3 hM
  have hl : (Fg ps q st).caps.length - n = caps.length := by rw [b8.len, List.length_append, h]; omega
  have e1 : All2 (CapIs ρ2) ((Fg ps q st).caps.drop ((Fg ps q st).caps.length - n)) cs := by
   have := b8.drop caps.length
   rw [List.drop_left] at this
   rw [hl]; exact this
  have e2 : All2 (CapIs ρ2) ((Fg ps q st).caps.take ((Fg ps q st).caps.length - n)) caps := by
   have := b8.take caps.length
   rw [List.take_left] at this
   rw [hl]; exact this
  exact ⟨ρ2, rs2, m2, b1, b2, b3, b4, b5, b6, ⟨⟨cs, rfl, e1⟩, b7⟩, e2, b9, b10, b11⟩
 | @co t ps x q b e vs vals caps own bx h _ ih =>
  intro st ρ m rs hn h1 h2 h3 hM
  have hM1 : St ⟨w, X, S⟩ (Ao ((Ay t x).map Leaf.ce) vs ++ (m ++ (Aw b vs.toArray e :: own))) rs w := by
   rw [<- Dc]
   refine hM.perm ?_
   simp only [List.cons_append, List.append_assoc]
   refine (List.perm_middle.symm).trans (List.Perm.append_left _ ?_)
   exact (List.Perm.cons _ List.perm_append_comm).trans List.perm_middle.symm
  obtain ⟨ρ1, m1, a1, a2, a3, a4, a5, a6, a7, a8⟩ := J6 (x := Aw b vs.toArray e :: own) (Ay t x) st ρ vs m hn h1 (by rw [Fm, h]) hM1
  have hx := Ext.one ρ1 (.box b)
  have hlast := Di ρ1 (.box b)
  rw [a2] at hlast
  obtain ⟨ρ2, rs2, m2, b1, b2, b3, b4, b5, b6, b7, b8, b9, b10, b11⟩ := ih (st := { (Ar true (Ay t x) st).2 with own := .box (Ar true (Ay t x) st).2.nxt (Ar true (Ay t x) st).2.nxt (Ar true (Ay t x) st).1 :: (Ar true (Ay t x) st).2.own, nxt := (Ar true (Ay t x) st).2.nxt + 1 }) (m := Aw b vs.toArray e :: m1) (by simp [a2]) ⟨⟨b, e, vs, hlast, a5.mono fun _ _ => Cell.Den.mono hx, rfl⟩, OwnOk.mono hx (fun _ h => h) a3⟩ (by rw [show (_ : SSt).rds = _ from a8]; exact h2.mono (a1.trans hx) fun _ h => h) h3 (a4.perm (List.perm_middle.trans ((List.Perm.cons _ List.perm_append_comm).trans List.perm_middle.symm)))
  exact ⟨ρ2, rs2, m2, (a1.trans hx).trans b1, b2, b3, b4, b5, b6, b7, ⟨⟨b, b1.get hlast, rfl⟩, b8⟩, ⟨⟨b1.get hlast, _, b11 _ (List.mem_cons_self ..), a5.mono fun _ _ => Cell.Den.mono (hx.trans b1), J5⟩, b9⟩, congrArg _ b10, fun c hc => b11 c (List.mem_cons_of_mem _ (G4 c hc))⟩
 | @cr mm hm t ps x q b e vs vals caps own bx h _ ih =>
  cases mm
  case ow => cases hm
  all_goals
   intro st ρ m rs hn h1 h2 h3 hM
   have hr : ∀ r' ∈ rs, r' ∈ rX vs (fD t x) :: rs := fun _ h => List.mem_cons_of_mem _ h
   have hM1 : St ⟨w, X, S⟩ (m ++ (Aw b vs.toArray e :: own)) (rX vs (fD t x) :: rs) w := (hM.addE (r := rX vs (fD t x)) h).perm List.perm_append_comm
   obtain ⟨ρ1, rs1, a1, a2, a3, a4, a5, a6, a7, a8, a9, a10⟩ := Nb (x0 := Aw b vs.toArray e :: own) (Ay t x) st ρ vs _ hn (OwnOk.mono (Ext.refl ρ) hr h1) (h2.mono (Ext.refl ρ) hr) (fun S' hS' => by rw [<- Dc]; exact hS' _ (List.mem_cons_self ..)) hM1
   have hx := Ext.one ρ1 (.box b)
   have hlast := Di ρ1 (.box b)
   rw [a3] at hlast
   obtain ⟨ρ2, rs2, m2, b1, b2, b3, b4, b5, b6, b7, b8, b9, b10, b11⟩ := ih (st := { (Ar false (Ay t x) st).2 with own := .box (Ar false (Ay t x) st).2.nxt (Ar false (Ay t x) st).2.nxt (Ar false (Ay t x) st).1 :: (Ar false (Ay t x) st).2.own, nxt := (Ar false (Ay t x) st).2.nxt + 1 }) (m := Aw b vs.toArray e :: m) (by simp [a3]) ⟨⟨b, e, vs, hlast, a7.mono fun _ _ => Cell.Den.mono hx, rfl⟩, OwnOk.mono hx (fun _ h => h) a4⟩ (a5.mono hx fun _ h => h) (fun r hr' => a2 r (hr r (h3 r hr'))) (a6.perm (List.perm_middle.trans ((List.Perm.cons _ List.perm_append_comm).trans List.perm_middle.symm)))
   exact ⟨ρ2, rs2, m2, (a1.trans hx).trans b1, b2, b3, b4, b5, b6, b7, ⟨⟨b, b1.get hlast, rfl⟩, b8⟩, ⟨⟨b1.get hlast, _, b11 _ (List.mem_cons_self ..), a7.mono fun _ _ => Cell.Den.mono (hx.trans b1), J5⟩, b9⟩, congrArg _ b10, fun c hc => b11 c (List.mem_cons_of_mem _ (G4 c hc))⟩
end
end
end Go.Proofs.YtipinmfmejccdaaGreat
