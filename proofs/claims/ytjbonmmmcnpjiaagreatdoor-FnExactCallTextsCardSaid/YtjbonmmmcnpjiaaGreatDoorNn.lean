/- The second layer, part N: an element's own row lent; rows whose elements' lists are only read. No condition. -/
import Derived.Test.YtjbonmmmcnpjiaaGreatDoorNm
namespace Go.Proofs.YtjbonmmmcnpjiaaGreatDoor
open Go.RowKit

theorem set_one {A : Type} {l : List A} {q : Nat} {a : A} (h : q < l.length) : l.set q a = l.take q ++ [a] ++ l.drop (q + 1) := by
  rw [List.set_eq_take_append_cons_drop, if_pos h]; simp

theorem zipC_erase : ∀ (q : Nat) (cs : List Ce) (vs : List Value), zipC (cs.eraseIdx q) (vs.eraseIdx q) = (zipC cs vs).eraseIdx q
  | 0, [], [] => rfl
  | 0, [], _ :: _ => by simp [zipC]
  | 0, _ :: _, [] => by cases ‹List Ce› <;> simp [zipC]
  | 0, _ :: _, _ :: _ => by simp [zipC]
  | q + 1, [], vs => by simp [zipC]
  | q + 1, _ :: _, [] => by simp [zipC]
  | q + 1, c :: cs, v :: vs => by simp [zipC, zipC_erase q cs vs]

theorem zipC_get : ∀ {q : Nat} {cs : List Ce} {vs : List Value} {c : Ce} {v : Value}, cs[q]? = some c → vs[q]? = some v → (zipC cs vs)[q]? = some (oC c v)
  | 0, c :: cs, v :: vs, _, _, h1, h2 => by simp at h1 h2; subst h1; subst h2; rfl
  | q + 1, c :: cs, v :: vs, _, _, h1, h2 => by simp only [zipC, List.getElem?_cons_succ]; exact zipC_get (by simpa using h1) (by simpa using h2)
  | _, [], _, _, _, h1, _ => by simp at h1
  | _, _ :: _, [], _, _, _, h2 => by simp at h2

theorem zipC_len : ∀ {cs : List Ce} {vs : List Value}, cs.length = vs.length → (zipC cs vs).length = vs.length
  | [], [], _ => rfl
  | [], _ :: _, h => by simp at h
  | _ :: _, [], h => by simp at h
  | _ :: _, _ :: _, h => by simp [zipC]; exact zipC_len (by simpa using h)

theorem perm_erase {A : Type} {l : List A} {q : Nat} {a : A} (h : l[q]? = some a) : l.Perm (a :: l.eraseIdx q) := by
  obtain ⟨hq, rfl⟩ := List.getElem?_eq_some_iff.1 h
  rw [List.eraseIdx_eq_take_drop_succ]
  have h2 : l = l.take q ++ l[q] :: l.drop (q + 1) := by simp
  conv => lhs; rw [h2]
  exact List.perm_middle

theorem perm_put {A : Type} {l : List A} {q : Nat} {a : A} (h : q < l.length) : (a :: l.eraseIdx q).Perm (l.set q a) := by
  rw [List.eraseIdx_eq_take_drop_succ, set_one h, List.append_assoc]
  exact List.perm_middle.symm

/-- A row but for one cell, in which u stands. -/
def oHo (k : Nat) {T : Type} (f : T → List Ce) (L : List T) (v : Value) (q : Nat) (u : Value) : As where
  ok := fun F w => ∃ xs : List Value, (L.flatMap f).length = xs.length ∧ xs[q]? = some u ∧ Sep (oRow k v L.length xs :: (zipC (L.flatMap f) xs).eraseIdx q) F w
  loc := fun h ⟨xs, h1, h2, h3⟩ => ⟨xs, h1, h2, h3.loc h⟩
  lt := fun ⟨_, _, _, h3⟩ hb => h3.lt _ hb
  up := fun hs hl ⟨xs, h1, h2, h3⟩ => ⟨xs, h1, h2, h3.up hs hl⟩

section
variable {w0 : Base} {w w' : World} {m l l' own : List As} {rs : List Rd} {c c' : Ce} {v : Value} {S : Bs}
variable {T : Type} {k : Nat} {f : T → List Ce} {L : List T}

theorem row_cell {F : Bs} {n : Nat} {xs : List Value} (h : (oRow k v n xs).ok F w) {j : Nat} {u : Value} (hj : xs[j]? = some u) : w.cell? (eaddr v j) = some u := by
  obtain ⟨_, gl, gr⟩ := h
  rcases gr with ⟨rfl, hn⟩ | ⟨b, off, cap, cur, e, hd, rfl, hb, ⟨hg, _⟩, _, _, _, htk⟩
  · rw [hn, Nat.zero_mul] at gl
    rw [List.eq_nil_of_length_eq_zero gl] at hj
    simp at hj
  · exact row_at hg htk hj

/-- An element's own thing is taken out. -/
theorem St.open [Inhabited T] {vl : List Vi} {i j : Nat} {s : Sv} (h : St w0 (oV (oC (cSl k f L) v) vl :: m) rs w) (hv : vC (eaddr v (i * k + j)) s.v ∈ vl) (hf : ∀ x, (f x).length = k) (hi : i < L.length) (hc : (f (el L i))[j]? = some c) :
    St w0 (oC c s.v :: oHo k f L v (i * k + j) s.v :: m) rs w := by
  refine St.iso (l := [oV (oC (cSl k f L) v) vl]) (l' := [oC c s.v, oHo k f L v (i * k + j) s.v]) h fun F ⟨h0, F1, F2, ⟨⟨xs, g1, g2⟩, gv⟩, _, _, h4, _⟩ => ?_
  have hj : j < k := by
    have := (List.getElem?_eq_some_iff.1 hc).1
    rwa [hf] at this
  have hq : (L.flatMap f)[i * k + j]? = some c := by rw [flatMap_el hf L i j hi hj]; exact hc
  have hlt : i * k + j < xs.length := by rw [← g1]; exact (List.getElem?_eq_some_iff.1 hq).1
  have hcell : w.cell? (eaddr v (i * k + j)) = some s.v := (gv _ hv).2.2
  obtain ⟨_, G1, _, k1, _⟩ := id g2
  have hx : xs[i * k + j]? = some s.v := by
    have := row_cell k1 (List.getElem?_eq_getElem hlt)
    rw [this] at hcell
    rw [List.getElem?_eq_getElem hlt]; exact hcell
  have hp := perm_erase (zipC_get hq hx)
  have g3 : Sep (oC c s.v :: oRow k v L.length xs :: (zipC (L.flatMap f) xs).eraseIdx (i * k + j)) F1 w := g2.perm ((hp.cons _).trans (List.Perm.swap ..))
  obtain ⟨q0, Q1, Q2, q1, q2, q3, q4, q5⟩ := g3
  exact ⟨h0, Q1, Q2, q1, ⟨q2.lt, Q2, fun _ => False, ⟨xs, g1, hx, q2⟩, (fun _ h => h.elim), (fun _ _ h => h), (fun _ h => h), fun _ h => h.elim⟩, q3, fun b hb => h4 b (q4 b hb), fun b hb => h4 b (q5 b hb)⟩

/-- It is put back, changed. -/
theorem St.close [Inhabited T] {i j : Nat} {u : Value} (a : T) (h : St w0 (oC c' u :: oHo k f L v (i * k + j) u :: m) rs w) (hf : ∀ x, (f x).length = k) (hi : i < L.length) (hj : Nat.blt j k = true) (ha : f a = (f (el L i)).set j c') : St w0 (oC (cSl k f (L.set i a)) v :: m) rs w := by
  refine St.iso (l := [oC c' u, oHo k f L v (i * k + j) u]) (l' := [oC (cSl k f (L.set i a)) v]) h fun F ⟨h0, F1, F2, h1, ⟨_, G1, _, ⟨xs, g1, g2, g3⟩, _, _, g5, _⟩, h3, h4, h5⟩ => ?_
  have hj' : j < k := by simpa using hj
  have g3' := g3.up (F' := F2) g5 (fun b hb => h0 b (h5 b hb))
  obtain ⟨hlt, hx⟩ := List.getElem?_eq_some_iff.1 g2
  have hcs : (L.set i a).flatMap f = (L.flatMap f).set (i * k + j) c' := flatMap_upd hf L i j c' a hi hj' ha
  have hz : zipC ((L.set i a).flatMap f) xs = (zipC (L.flatMap f) xs).set (i * k + j) (oC c' u) := by
    have key : ∀ (q : Nat) (cs : List Ce) (vs : List Value), vs[q]? = some u → zipC (cs.set q c') vs = (zipC cs vs).set q (oC c' u) := by
      intro q
      induction q with
      | zero => intro cs vs hv; cases cs <;> cases vs <;> simp_all [zipC]
      | succ q ih => intro cs vs hv; cases cs <;> cases vs <;> simp_all [zipC]
    rw [hcs, key _ _ _ g2]
  have g6 : Sep (oRow k v L.length xs :: zipC ((L.set i a).flatMap f) xs) F w := by
    have g7 : Sep (oC c' u :: oRow k v L.length xs :: (zipC (L.flatMap f) xs).eraseIdx (i * k + j)) F w := ⟨h0, F1, F2, h1, g3', h3, h4, h5⟩
    rw [hz]
    exact g7.perm ((List.Perm.swap ..).trans ((perm_put (by rw [zipC_len g1]; exact hlt)).cons _))
  exact ⟨h0, F, fun _ => False, ⟨xs, by rw [hcs, List.length_set, g1], by rw [List.length_set]; exact g6⟩, (fun _ h => h.elim), (fun _ _ h => h), (fun _ h => h), fun _ h => h.elim⟩

-- Rows whose elements' lists are only read

theorem St.more {r : Rd} (h : St w0 m rs w) (hr : ∀ S, (∀ r ∈ rs, r.ok S w) → r.ok S w) : St w0 m (r :: rs) w := by
  obtain ⟨h1, hb, F, h2, h3, h4⟩ := h
  refine ⟨h1, hb, F, h2, h3, fun r' hr' => ?_⟩
  rcases List.mem_cons.1 hr' with rfl | hr'
  · exact hr _ h4
  · exact h4 r' hr'

/-- An empty row, to be filled with elements that are only read. -/
theorem St.nilS (h : St w0 m rs w) (k : Nat) (f : T → List Ce) : St w0 (oRow k (.slice none 0 0) ([] : List T).length [] :: m) (rX [] (([] : List T).flatMap f) :: rs) w :=
  (h.pure (row_nil k)).more fun _ _ => rfl

/-- An owned row whose elements are only read from now on. -/
theorem St.toS (h : St w0 (oC (cSl k f L) v :: m) rs w) : ∃ xs, St w0 (oRow k v L.length xs :: m) (rX xs (L.flatMap f) :: rs) w := by
  obtain ⟨xs, hl, h1⟩ := h.unrow
  refine ⟨xs, ?_⟩
  have h2 := h1.perm (m' := zipC (L.flatMap f) xs ++ (oRow k v L.length xs :: m)) List.perm_middle.symm
  exact St.fix (l := zipC (L.flatMap f) xs) (r := rX xs (L.flatMap f)) h2 fun F hF => zipC_seen hl hF

/-- Such a row is only read from now on. -/
theorem St.sealS {xs : List Value} (h : St w0 (oRow k v L.length xs :: m) rs w) (_hf : ∀ x, (f x).length = k) (hr : rX xs (L.flatMap f) ∈ rs) : St w0 m (rV v (cSl k f L) :: rs) w := by
  obtain ⟨h1, hb, F, h2, h3, h4⟩ := h
  obtain ⟨h0, F1, F2, g1, g2, g3, g4, g5⟩ := h2
  have hx := h4 _ hr
  refine ⟨h1, hb, F2, g2, fun b hb' => h3 b (g5 b hb'), fun r hr' => ?_⟩
  rcases List.mem_cons.1 hr' with rfl | hr'
  · have hx' : rdAll (fun b => (w0.S b ∨ w0.X b ∨ w0.w.heap.size ≤ b.1) ∧ b.1 < w.heap.size ∧ ¬ F2 b) w (L.flatMap f) xs := rdAll_mono (fun b hb' => ⟨hb'.1, hb'.2.1, fun h' => hb'.2.2 (g5 b h')⟩) (Lc.refl _ _) _ _ hx
    obtain ⟨_, gl, gr⟩ := id g1
    rcases gr with ⟨rfl, hn⟩ | ⟨b, off, cap, cur, e, hd, rfl, hbb, hg, hnc, hcm, hsz, htk⟩
    · exact ⟨none, 0, by rw [hn], by omega, by simp [maxLen], fun hne => absurd (List.eq_nil_of_length_eq_zero hn) hne⟩
    · refine ⟨_, cap, rfl, hnc, hcm, fun _ => ⟨b, off, xs, rfl, fun j hj => ?_, gl, fun j u hj => ?_, hx'⟩⟩
      · have hF := hbb j (Nat.lt_of_lt_of_le hj (Nat.mul_le_mul_right _ hnc))
        exact ⟨.inr ((h3 _ (g4 _ hF)).elim .inr .inl), h0 _ (g4 _ hF), g3 _ hF⟩
      · have := row_cell g1 hj
        simpa [eaddr] using this
  · exact r.mono (fun b hb' => ⟨hb'.1, hb'.2.1, fun h' => hb'.2.2 (g5 b h')⟩) (Lc.refl _ _) (h4 r hr')

/-- What was owned, with what was seen in it, is only read from now on. -/
theorem St.unV {o : As} {vl : List Vi} (h : St w0 (oV o vl :: m) rs w) {r : Rd} (hr : ∀ F, (∀ x ∈ vl, x.ok F w) → o.ok F w → r.ok F w) : St w0 m (r :: rs) w :=
  St.fix (l := [oV o vl]) (r := r) h fun _F ⟨_, F1, _, ⟨h1, h2⟩, _, _, h4, _⟩ => r.mono h4 (Lc.refl _ _) (hr F1 h2 h1)

end

section
variable {P : Program} {n : Nat} {ops : Array Oper} {Q : Post} {env : Env} {w : World} {w0 : Base} {rest : List Oper} {ty : TypeId} {pos : String} {af : Array Edge} {m own : List As} {rs : List Rd}
variable {T : Type} {k : Nat} {f : T → List Ce} {L : List T}

/-- A store into an element of a row that the call owns. -/
theorem x_stE {K : World → Prop} [Inhabited T] {t : TypeId} {x y : Operand} {s : Sv} {u : Value} {size bytes : Nat} {z : Value} {i j : Nat} (a : T) (cs : List Ce) (hs : Sz P t size bytes z) (hf : ∀ x, (f x).length = k) (hx : ev env x = some (.pointer (some (eaddr s.v (i * k + j))))) (hy : ev env y = some u) (hi : i < L.length)
    (hu : u.cells.size = size) (hl : cs.length = u.cells.toList.length) (hj : Nat.ble (j + u.cells.toList.length) k = true) (hone : u.cells.toList.all (·.oneCell') = true) (ha : f a = (f (el L i)).take j ++ cs ++ (f (el L i)).drop (j + u.cells.toList.length)) (hz : ∀ w, Z w own (zipC cs u.cells.toList))
    (hM : St w0 (oC (cSl k f L) s.v :: (own ++ m)) rs w) (h : ∀ w', St w0 (oC (cSl k f (L.set i a)) s.v :: m) rs w' → K w') : ExU P n env w ⟨none, .store t x y, ty, pos, af, none⟩ K := by
  obtain ⟨w', hr, h1⟩ := St.stE (ty := ty) (pos := pos) (af := af) a cs hs hf hx hy hi hu hl hj hone ha hz hM
  exact ⟨w', hr, h w' h1⟩

/-- A store into a box. -/
theorem x_stB {K : World → Prop} {t : TypeId} {x y : Operand} {b j : Nat} {cs : Array Value} {e : TypeId} {u : Value} {size bytes : Nat} {z : Value} (cs' : Array Value) (hs : Sz P t size bytes z) (hx : ev env x = some (.pointer (some ⟨b, j, none⟩))) (hy : ev env y = some u) (hu : u.cells.size = size) (hone : u.cells.toList.all (·.oneCell') = true)
    (hj : Nat.ble (j + u.cells.toList.length) cs.size = true) (hc : cs'.toList = cs.toList.take j ++ u.cells.toList ++ cs.toList.drop (j + u.cells.toList.length)) (hM : St w0 (oBox b cs e :: m) rs w)
    (h : ∀ w', St w0 (oBox b cs' e :: m) rs w' → K w') : ExU P n env w ⟨none, .store t x y, ty, pos, af, none⟩ K := by
  obtain ⟨w', hr, h1⟩ := St.stB (ty := ty) (pos := pos) (af := af) (cs' := cs') hs hx hy hu hone hj hc hM
  exact ⟨w', hr, h w' h1⟩

/-- One element, whose lists are only read, is appended. -/
theorem w_pushS {d1 d2 : Nat} {x y : Operand} {t e : TypeId} {ty2 : TypeId} {pos2 : String} {af2 : Array Edge} {size bytes : Nat} {z v : Value} {s : Sv} {xs : List Value} (a : T) (hd1 : Nat.blt d1 n = true) (hd2 : Nat.blt d2 n = true)
    (ht : P.underlying t = some (.slice e)) (hs : Sz P e size bytes z) (hx : ev env x = some v) (hvs : v.cells.size = size) (hsm : Nat.ble size 1000 = true) (hsv : ∀ u, ev ((d1, u) :: env) y = some s.v)
    (hM : St w0 (oRow size s.v L.length xs :: m) rs w) (hr0 : rX xs (L.flatMap f) ∈ rs) (hz : ∀ S w, (∀ r ∈ rs, r.ok S w) → rdAll S w (f a) v.cells.toList) (hone : v.cells.toList.all (·.oneCell') = true) (h40 : L.length < 1099511627776) (hby : Nat.ble bytes 127 = true)
    (h : ∀ u (s' : Sv) xs' w', St w0 (oRow size s'.v (L ++ [a]).length xs' :: m) (rX xs' ((L ++ [a]).flatMap f) :: rs) w' → WL P n ops rest Q ((d2, s'.v) :: (d1, u) :: env) w') :
    WL P n ops (⟨some d1, .buildSlice t 1 #[(0, x)], ty, pos, af, none⟩ :: ⟨some d2, .call { callee := .builtin .append, args := #[y, .tmp d1], argTypes := #[t, t] }, ty2, pos2, af2, none⟩ :: rest) Q env w := by
  have hb := run_one (P := P) (w := w) ht hs hvs hsm
  have hby' : bytes ≤ 127 := by simpa using hby
  refine wv hd1 (v := .slice (some ⟨w.heap.size, 0, none⟩) 1 1) (w' := w.alloc (.cells v.cells e)) (fun a ha => by simp [execOp, ha.ev hx, hb]) ?_
  have hM1 := hM.call (Rel.alloc w (.cells v.cells e))
  have hbox : (w.alloc (.cells v.cells e)).heap[w.heap.size]? = some (.cells v.cells e (0, 0)) := heap_alloc_new w _
  have hsrc : Src P size t (.slice (some ⟨w.heap.size, 0, none⟩) 1 1) 1 v.cells.toList (w.alloc (.cells v.cells e)) :=
    Src.ofSlice _ ht _ _ _ _ (by simp [hvs]) (fun j u hj => by
      rw [Addr.add_lit, Nat.zero_add]
      rw [Array.getElem?_toList] at hj
      simp only [World.cell?, hbox, Option.isSome_none, Bool.false_eq_true, if_false, hj]) (fun u hu => List.all_eq_true.1 hone u hu)
  obtain ⟨s', w', hr, h3⟩ := hM1.appRow (tyy := ty2) ht hs hsrc (by simp only [maxLen]; omega) (by
    have := Nat.mul_le_mul (show L.length + 1 ≤ 1099511627776 by omega) hby'
    omega)
  refine wv hd2 (v := s'.v) (w' := w') (fun a ha => ?_) (h _ s' (xs ++ v.cells.toList) w' ?_)
  · have e1 := ha.ev (hsv _)
    have e2 : a.eval (.tmp d1) = .slice (some ⟨w.heap.size, 0, none⟩) 1 1 := ha.ev (x := .tmp d1) (by simp [ev, lk])
    simp [execOp, resolve, invoke, builtin, e1, e2, hr]
  · rw [List.length_append, List.length_singleton]
    refine h3.more fun S hS => ?_
    show rdAll S w' _ _
    rw [List.flatMap_append, List.flatMap_cons, List.flatMap_nil, List.append_nil]
    exact rdAll_append (hS _ hr0) (hz S w' hS)

/-- A list whose elements are only read is appended to such a row. -/
theorem x_appendS {K : Value → World → Prop} {d : Nat} {x y : Operand} {t e : TypeId} {size bytes : Nat} {z xv : Value} {s : Sv} {xs : List Value} {M : List T} (ht : P.underlying t = some (.slice e)) (hs : Sz P e size bytes z) (hx : ev env x = some xv) (hsv : ev env y = some s.v)
    (_hf : ∀ x, (f x).length = size) (hM : St w0 (oRow size s.v L.length xs :: m) rs w) (hr0 : rX xs (L.flatMap f) ∈ rs) (hsrc : rV xv (cSl size f M) ∈ rs) (h40 : L.length + M.length ≤ 1099511627776) (hby : Nat.ble bytes 127 = true)
    (h : ∀ (s' : Sv) xs' w', St w0 (oRow size s'.v (L ++ M).length xs' :: m) (rX xs' ((L ++ M).flatMap f) :: rs) w' → K (s'.v) w') :
    Ex P n env w ⟨some d, .call { callee := .builtin .append, args := #[y, x], argTypes := #[t, t] }, ty, pos, af, none⟩ K := by
  have hby' : bytes ≤ 127 := by simpa using hby
  have key : ∃ us, Src P size t xv M.length us w ∧ St w0 (oRow size s.v L.length xs :: m) (rX us (M.flatMap f) :: rs) w := by
    obtain ⟨h1, hb, F, h2, h3, h4⟩ := hM
    obtain ⟨us, g1, g2⟩ := Cs.src ht (rVg (h4 _ hsrc))
    refine ⟨us, g1, h1, hb, F, h2, h3, fun r hr => ?_⟩
    rcases List.mem_cons.1 hr with rfl | hr
    · exact g2
    · exact h4 r hr
  obtain ⟨us, hsr, hM1⟩ := key
  obtain ⟨s', w', hr, h3⟩ := hM1.appRow (tyy := ty) ht hs hsr (by simp only [maxLen]; omega) (by
    have := Nat.mul_le_mul h40 hby'
    omega)
  refine exI (v := s'.v) (w' := w') (fun a ha => ?_) (h s' (xs ++ us) w' ?_)
  · simp [execOp, resolve, invoke, builtin, ha.ev hsv, ha.ev hx, hr]
  · rw [List.length_append]
    have h4 := h3.more (r := rX (xs ++ us) ((L ++ M).flatMap f)) fun S hS => by
      show rdAll S w' _ _
      rw [List.flatMap_append]
      exact rdAll_append (hS _ (List.mem_cons_of_mem _ hr0)) (hS _ (List.mem_cons_self ..))
    obtain ⟨q1, hb, F, q2, q3, q4⟩ := h4
    refine ⟨q1, hb, F, q2, q3, fun r hr => q4 r ?_⟩
    rcases List.mem_cons.1 hr with rfl | hr
    · exact List.mem_cons_self ..
    · exact List.mem_cons_of_mem _ (List.mem_cons_of_mem _ hr)

/-- A slice literal whose elements are only read. -/
theorem x_litS {K : Value → World → Prop} {d : Nat} {t e : TypeId} {size bytes : Nat} {z : Value} {parts : List (Nat × Operand)} {vs : List (Nat × Value)} (l : List T) (us : List Value) (len : Nat) (ht : P.underlying t = some (.slice e)) (hs : Sz P e size bytes z)
    (hp : evP env parts = some vs) (hl : l.length = len) (hul : us.length = len * size) (hpos : Nat.blt 0 len = true) (hsm : Nat.ble (len * size) 1000 = true)
    (hfill : Instr.fill (fun i => some (i * size, size)) ((Array.range (len * size)).map (z.cells[· % z.cells.size]!)) vs = some us.toArray) (hz : ∀ S w, (∀ r ∈ rs, r.ok S w) → rdAll S w (l.flatMap f) us)
    (hM : St w0 m rs w) (h : ∀ (s : Sv) w', Rel w w' → St w0 (oRow size s.v l.length us :: m) (rX us (l.flatMap f) :: rs) w' → K s.v w') :
    Ex P n env w ⟨some d, .buildSlice t len parts.toArray, ty, pos, af, none⟩ K := by
  obtain ⟨i, hi, hzz, hsz, hbt⟩ := hs.info
  have hsm' := Nat.le_of_ble_eq_true hsm
  have hpos' : 0 < len := by simpa using hpos
  have hs0 := hs.2.2
  have hne : ¬ len * size = 0 := by
    intro e0
    rcases Nat.mul_eq_zero.1 e0 with h | h <;> omega
  have hmx : len ≤ maxLen := by
    simp only [maxLen]
    have : len ≤ len * size := Nat.le_mul_of_pos_right _ hs0
    omega
  refine exI (v := Sv.v ⟨some ⟨w.heap.size, 0, none⟩, len, len⟩) (w' := w.alloc (.cells us.toArray e)) (fun a ha => ?_) (h _ _ (Rel.alloc w _) ?_)
  · have h1 := ha.evP hp
    have h2 : (parts.toArray.map fun (i, x) => (i, a.eval x)).toList = vs := by rw [Array.toList_map, ← h1]
    have h3 := run_buildSlice (P := P) w t e len (parts.toArray.map fun p => (p.1, a.eval p.2)) us.toArray i z ht hi hzz (by rw [hsz]; omega) (by rw [hsz]; exact hne) (by rw [hsz, h2]; exact hfill)
    simp only [execOp, Sem.run_bind, h3, Result.andThen_ok, Sem.run_pure]
    rfl
  · rw [hl]
    exact (hM.allocRow (k := size) (n := len) (cap := len) us [] us.toArray e (by simp) hul (Nat.le_refl _) hmx (by simpa using hul)).more fun S hS => hz S _ hS

end
end Go.Proofs.YtjbonmmmcnpjiaaGreatDoor
