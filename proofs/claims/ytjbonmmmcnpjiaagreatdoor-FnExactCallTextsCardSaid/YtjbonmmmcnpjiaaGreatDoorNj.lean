/- The second layer, part J: data that is read, data that is owned: what an operation finds there. No condition. -/
import Derived.Test.YtjbonmmmcnpjiaaGreatDoorNi
namespace Go.Proofs.YtjbonmmmcnpjiaaGreatDoor
open Go.RowKit

/-- An element of a list. -/
def el {T : Type} [Inhabited T] (L : List T) (i : Nat) : T := L.getD i default

theorem el_eq {T : Type} [Inhabited T] {L : List T} {i : Nat} (h : i < L.length) : el L i = L[i] := by
  unfold el; rw [List.getD_eq_getElem?_getD, List.getElem?_eq_getElem h]; rfl
theorem el_cons_zero {T : Type} [Inhabited T] (x : T) (L : List T) : el (x :: L) 0 = x := rfl
theorem el_cons_succ {T : Type} [Inhabited T] (x : T) (L : List T) (i : Nat) : el (x :: L) (i + 1) = el L i := rfl

theorem flatMap_len {T A : Type} {k : Nat} {f : T → List A} (hf : ∀ x, (f x).length = k) : ∀ L : List T, (L.flatMap f).length = L.length * k
  | [] => by simp
  | x :: L => by rw [List.flatMap_cons, List.length_append, hf, flatMap_len hf L, List.length_cons, Nat.add_mul]; omega

theorem flatMap_el {T A : Type} [Inhabited T] {k : Nat} {f : T → List A} (hf : ∀ x, (f x).length = k) : ∀ (L : List T) (i j : Nat), i < L.length → j < k → (L.flatMap f)[i * k + j]? = (f (el L i))[j]?
  | [], i, j, hi, _ => by simp at hi
  | x :: L, 0, j, _, hj => by
    rw [List.flatMap_cons, Nat.zero_mul, Nat.zero_add, List.getElem?_append_left (by rw [hf]; exact hj)]
    rfl
  | x :: L, i + 1, j, hi, hj => by
    rw [List.flatMap_cons, List.getElem?_append_right (by rw [hf, Nat.add_mul]; omega), hf]
    rw [show (i + 1) * k + j - k = i * k + j by rw [Nat.add_mul]; omega]
    rw [flatMap_el hf L i j (by simpa using hi) hj]
    rfl

theorem flatMap_upd {T A : Type} [Inhabited T] {k : Nat} {f : T → List A} (hf : ∀ x, (f x).length = k) : ∀ (L : List T) (i j : Nat) (u : A) (y : T), i < L.length → j < k → f y = (f (el L i)).set j u → (L.set i y).flatMap f = (L.flatMap f).set (i * k + j) u
  | [], i, j, _, _, hi, _, _ => by simp at hi
  | x :: L, 0, j, u, y, _, hj, hx => by
    have hx' : f y = (f x).set j u := hx
    rw [List.flatMap_cons, Nat.zero_mul, Nat.zero_add, List.set_append_left _ _ (by rw [hf]; exact hj), List.set_cons_zero, List.flatMap_cons, hx']
  | x :: L, i + 1, j, u, y, hi, hj, hx => by
    rw [List.flatMap_cons, List.set_append_right _ _ (by rw [hf, Nat.add_mul]; omega), hf, List.set_cons_succ, List.flatMap_cons]
    rw [show (i + 1) * k + j - k = i * k + j by rw [Nat.add_mul]; omega]
    rw [flatMap_upd hf L i j u y (by simpa using hi) hj hx]

/-- Where cell j of a slice lies. -/
def eaddr : Value → Nat → Addr
  | .slice (some a) _ _, j => ⟨a.block, a.off + j, none⟩
  | _, _ => ⟨0, 0, none⟩

def al (w : World) : Bs := fun b => b.1 < w.heap.size

section
variable {w0 : Base} {w w' : World} {m l l' : List As} {rs : List Rd} {c : Ce} {v : Value} {S : Bs}

theorem St.seeR (h : St w0 m rs w) (hr : rV v c ∈ rs) : c.rd (al w) w v := by
  obtain ⟨_, _, F, _, _, h4⟩ := h
  exact c.mono (fun b hb => hb.2.1) (Lc.refl _ _) (h4 _ hr)

theorem Sep.mem {F : Bs} {a : As} : ∀ {m : List As}, Sep m F w → a ∈ m → ∃ F', (∀ b, F' b → F b) ∧ a.ok F' w
  | c :: m, ⟨_, F1, F2, h1, h2, _, h4, h5⟩, hm => by
    rcases List.mem_cons.1 hm with rfl | hm
    · exact ⟨F1, h4, h1⟩
    · obtain ⟨F', h6, h7⟩ := h2.mem hm
      exact ⟨F', fun b hb => h5 b (h6 b hb), h7⟩

theorem St.at' (h : St w0 m rs w) {a : As} (hm : a ∈ m) : ∃ F, a.ok F w := by
  obtain ⟨_, _, F, h2, _, _⟩ := h
  obtain ⟨F', _, h'⟩ := h2.mem hm
  exact ⟨F', h'⟩

theorem St.seeO (h : St w0 m rs w) (hm : oC c v ∈ m) : c.rd (al w) w v := by
  obtain ⟨F, hF⟩ := h.at' hm
  exact c.mono (fun b hb => c.lt hF hb) (Lc.refl _ _) (c.seen hF)

theorem St.seeOV (h : St w0 m rs w) {l : List Vi} (hm : oV (oC c v) l ∈ m) : c.rd (al w) w v := by
  obtain ⟨F, hF, _⟩ := h.at' hm
  exact c.mono (fun b hb => c.lt hF hb) (Lc.refl _ _) (c.seen hF)

theorem St.seeV (h : St w0 m rs w) {o : As} {l : List Vi} (hm : oV o l ∈ m) (hr : vR v c ∈ l) : c.rd (al w) w v := by
  obtain ⟨F, hF, h2⟩ := h.at' hm
  exact c.mono (fun b hb => o.lt hF hb) (Lc.refl _ _) (h2 _ hr)

variable {T : Type} {k : Nat} {f : T → List Ce} {L : List T}

theorem Cs.form (h : (cSl k f L).rd S w v) : ∃ s : Sv, v = s.v ∧ s.n = L.length ∧ L.length ≤ s.c ∧ s.c ≤ maxLen := by
  obtain ⟨a, cap, rfl, h1, h2, _⟩ := h
  exact ⟨⟨a, _, cap⟩, rfl, rfl, h1, h2⟩
theorem Cs.sv (h : (cSl k f L).rd S w v) : ∃ s : Sv, v = s.v := by
  obtain ⟨s, h, _⟩ := Cs.form h
  exact ⟨s, h⟩
theorem Cs.le (h : (cSl k f L).rd S w v) : (L.length : Int) ≤ 9223372036854775807 := by
  obtain ⟨s, _, h0, h1, h2⟩ := Cs.form h
  simp only [maxLen] at h2
  omega
theorem Cs.ptr (h : (cSl k f L).rd S w v) {i : Nat} (hi : i < L.length) : ∃ b off len cap, v = .slice (some ⟨b, off, none⟩) len cap := by
  obtain ⟨a, cap, rfl, h1, h2, h3⟩ := h
  obtain ⟨b, off, xs, rfl, _⟩ := h3 (by intro e; subst e; simp at hi)
  exact ⟨b, off, _, _, rfl⟩

theorem Cs.at' [Inhabited T] (h : (cSl k f L).rd S w v) (hf : ∀ x, (f x).length = k) {i j : Nat} (hi : i < L.length) (hc : (f (el L i))[j]? = some c) : ∃ u, w.cell? (eaddr v (i * k + j)) = some u ∧ c.rd S w u ∧ S ((eaddr v (i * k + j)).block, (eaddr v (i * k + j)).off) ∧ (eaddr v (i * k + j)).spot = none := by
  obtain ⟨a, cap, rfl, h1, h2, h3⟩ := h
  obtain ⟨b, off, xs, rfl, hS, hl, hx, hr⟩ := h3 (by intro e; subst e; simp at hi)
  have hj : j < k := by
    have := (List.getElem?_eq_some_iff.1 hc).1
    rwa [hf] at this
  have h4 : (L.flatMap f)[i * k + j]? = some c := by rw [flatMap_el hf L i j hi hj]; exact hc
  obtain ⟨u, hu, hcu⟩ := rdAll_get hr h4
  have hlt : i * k + j < L.length * k := by
    have := Nat.mul_le_mul_right k (Nat.succ_le_of_lt hi)
    rw [Nat.succ_mul] at this
    omega
  exact ⟨u, by simpa [eaddr] using hx _ u hu, hcu, hS _ hlt, rfl⟩

theorem Cs.get [Inhabited T] (h : (cSl k f L).rd S w v) (hf : ∀ x, (f x).length = k) {i j : Nat} {u : Value} {hu : u.oneCell' = true} (hi : i < L.length) (hc : (f (el L i))[j]? = some (cV u hu)) : w.cell? (eaddr v (i * k + j)) = some u := by
  obtain ⟨u', h1, h2, _⟩ := Cs.at' h hf hi hc
  have : u' = u := h2
  rw [← this]; exact h1

theorem rVg {c : Ce} {v : Value} {S : Bs} {w : World} (h : (rV v c).ok S w) : c.rd S w v := h
theorem vRg {c : Ce} {v : Value} {S : Bs} {w : World} (h : (vR v c).ok S w) : c.rd S w v := h
/-- A slice in an element is read. -/
theorem St.leaf [Inhabited T] {T' : Type} {k' : Nat} {f' : T' → List Ce} {L' : List T'} (h : St w0 m rs w) (hr : rV v (cSl k f L) ∈ rs) (hf : ∀ x, (f x).length = k) {i j : Nat} (hi : i < L.length) (hc : (f (el L i))[j]? = some (cSl k' f' L')) :
    ∃ s : Sv, St w0 m (rV s.v (cSl k' f' L') :: rs) w ∧ ∀ w1, Rel w w1 → w1.cell? (eaddr v (i * k + j)) = some s.v := by
  obtain ⟨h1, hb, F, h2, h3, h4⟩ := h
  obtain ⟨u, g1, g2, g3⟩ := Cs.at' (rVg (h4 _ hr)) hf hi hc
  obtain ⟨s, rfl⟩ := Cs.sv g2
  refine ⟨s, ⟨h1, hb, F, h2, h3, fun r hr' => ?_⟩, fun w1 hw => (hw.cell g3.1.2.1).trans g1⟩
  rcases List.mem_cons.1 hr' with rfl | hr'
  · exact g2
  · exact h4 r hr'

/-- A slice in an element of what is owned is looked at. -/
theorem St.leafO [Inhabited T] {T' : Type} {k' : Nat} {f' : T' → List Ce} {L' : List T'} (h : St w0 (oC (cSl k f L) v :: m) rs w) (hf : ∀ x, (f x).length = k) {i j : Nat} (hi : i < L.length) (hc : (f (el L i))[j]? = some (cSl k' f' L')) :
    ∃ s : Sv, St w0 (oV (oC (cSl k f L) v) [vR s.v (cSl k' f' L'), vC (eaddr v (i * k + j)) s.v] :: m) rs w ∧ ∀ w1, Rel w w1 → w1.cell? (eaddr v (i * k + j)) = some s.v := by
  obtain ⟨h1, hb, F, ⟨h0, F1, F2, g1, g2, g3, g4, g5⟩, h3, h4⟩ := h
  obtain ⟨u, k1, k2, k3⟩ := Cs.at' ((cSl k f L).seen g1) hf hi hc
  obtain ⟨s, rfl⟩ := Cs.sv k2
  exact ⟨s, ⟨h1, hb, F, ⟨h0, F1, F2, ⟨g1, fun r hr => by
    rcases List.mem_cons.1 hr with rfl | hr
    · exact k2
    · rw [List.mem_singleton.1 hr]; exact ⟨k3.1, k3.2, k1⟩⟩, g2, g3, g4, g5⟩, h3, h4⟩, fun w1 hw => (hw.cell (h0 _ (g4 _ k3.1))).trans k1⟩

theorem St.leafV [Inhabited T] {T' : Type} {k' : Nat} {f' : T' → List Ce} {L' : List T'} {vl : List Vi} (h : St w0 (oV (oC (cSl k f L) v) vl :: m) rs w) (hf : ∀ x, (f x).length = k) {i j : Nat} (hi : i < L.length) (hc : (f (el L i))[j]? = some (cSl k' f' L')) :
    ∃ s : Sv, St w0 (oV (oC (cSl k f L) v) (vR s.v (cSl k' f' L') :: vC (eaddr v (i * k + j)) s.v :: vl) :: m) rs w ∧ ∀ w1, Rel w w1 → w1.cell? (eaddr v (i * k + j)) = some s.v := by
  obtain ⟨h1, hb, F, ⟨h0, F1, F2, ⟨g1, gv⟩, g2, g3, g4, g5⟩, h3, h4⟩ := h
  obtain ⟨u, k1, k2, k3⟩ := Cs.at' ((cSl k f L).seen g1) hf hi hc
  obtain ⟨s, rfl⟩ := Cs.sv k2
  refine ⟨s, ⟨h1, hb, F, ⟨h0, F1, F2, ⟨g1, fun r hr => ?_⟩, g2, g3, g4, g5⟩, h3, h4⟩, fun w1 hw => (hw.cell (h0 _ (g4 _ k3.1))).trans k1⟩
  rcases List.mem_cons.1 hr with rfl | hr
  · exact k2
  rcases List.mem_cons.1 hr with rfl | hr
  · exact ⟨k3.1, k3.2, k1⟩
  · exact gv r hr

theorem St.unview {o : As} {vl : List Vi} (h : St w0 (oV o vl :: m) rs w) : St w0 (o :: m) rs w :=
  St.iso (l := [oV o vl]) (l' := [o]) h fun _ ⟨h0, F1, F2, ⟨h1, _⟩, h⟩ => ⟨h0, F1, F2, h1, h⟩

/-- A slice in an element of something seen in what is owned is looked at. -/
theorem St.leafW [Inhabited T] {T' : Type} {k' : Nat} {f' : T' → List Ce} {L' : List T'} {o : As} {vl : List Vi} (h : St w0 (oV o vl :: m) rs w) (hv : vR v (cSl k f L) ∈ vl) (hf : ∀ x, (f x).length = k) {i j : Nat} (hi : i < L.length) (hc : (f (el L i))[j]? = some (cSl k' f' L')) :
    ∃ s : Sv, St w0 (oV o (vR s.v (cSl k' f' L') :: vl) :: m) rs w ∧ ∀ w1, Rel w w1 → w1.cell? (eaddr v (i * k + j)) = some s.v := by
  obtain ⟨h1, hb, F, ⟨h0, F1, F2, ⟨g1, gv⟩, g2, g3, g4, g5⟩, h3, h4⟩ := h
  obtain ⟨u, k1, k2, k3⟩ := Cs.at' (vRg (gv _ hv)) hf hi hc
  obtain ⟨s, rfl⟩ := Cs.sv k2
  refine ⟨s, ⟨h1, hb, F, ⟨h0, F1, F2, ⟨g1, fun r hr => ?_⟩, g2, g3, g4, g5⟩, h3, h4⟩, fun w1 hw => (hw.cell (h0 _ (g4 _ k3.1))).trans k1⟩
  rcases List.mem_cons.1 hr with rfl | hr
  · exact k2
  · exact gv r hr

/-- A part of a slice. -/
def Sv.cut (s : Sv) (k lo hi : Nat) : Sv := ⟨if s.c - lo = 0 then s.p else s.p.map (·.add (lo * k)), hi - lo, s.c - lo⟩

theorem flatMap_take {A : Type} {f : T → List A} (hf : ∀ x, (f x).length = k) : ∀ (L : List T) (i : Nat), (L.take i).flatMap f = (L.flatMap f).take (i * k)
  | [], i => by simp
  | x :: L, 0 => by simp
  | x :: L, i + 1 => by
    rw [List.take_succ_cons, List.flatMap_cons, flatMap_take hf L i, List.flatMap_cons, List.take_append, hf, List.take_of_length_le (l := f x) (by rw [hf, Nat.add_mul]; omega)]
    congr 2
    rw [Nat.add_mul]; omega
theorem flatMap_drop {A : Type} {f : T → List A} (hf : ∀ x, (f x).length = k) : ∀ (L : List T) (i : Nat), (L.drop i).flatMap f = (L.flatMap f).drop (i * k)
  | [], i => by simp
  | x :: L, 0 => by simp
  | x :: L, i + 1 => by
    rw [List.drop_succ_cons, flatMap_drop hf L i, List.flatMap_cons, List.drop_append, hf, List.drop_eq_nil_of_le (as := f x) (by rw [hf, Nat.add_mul]; omega), List.nil_append]
    congr 1
    rw [Nat.add_mul]; omega

theorem rdAll_drop {S : Bs} : ∀ (n : Nat) {cs : List Ce} {vs : List Value}, rdAll S w cs vs → rdAll S w (cs.drop n) (vs.drop n)
  | 0, _, _, h => by simpa using h
  | n + 1, [], _, h => by have : _ = [] := h; subst this; simp [rdAll]
  | n + 1, c :: cs, _, ⟨v, r, e, _, h2⟩ => by subst e; simpa using rdAll_drop n h2
theorem rdAll_take {S : Bs} : ∀ (n : Nat) {cs : List Ce} {vs : List Value}, rdAll S w cs vs → rdAll S w (cs.take n) (vs.take n)
  | 0, _, _, h => by simp [rdAll]
  | n + 1, [], _, h => by have : _ = [] := h; subst this; simp [rdAll]
  | n + 1, c :: cs, _, ⟨v, r, e, h1, h2⟩ => by subst e; exact ⟨v, r.take n, rfl, h1, rdAll_take n h2⟩

theorem Cs.cut (hf : ∀ x, (f x).length = k) {s : Sv} {lo hi : Nat} (h1 : lo ≤ hi) (h2 : hi ≤ L.length) (h : (cSl k f L).rd S w s.v) : (cSl k f ((L.take hi).drop lo)).rd S w (s.cut k lo hi).v := by
  obtain ⟨a, cap, e, hc1, hc2, h3⟩ := h
  obtain ⟨rfl, e2, rfl⟩ : s.p = a ∧ s.n = L.length ∧ s.c = cap := by simpa [Sv.v] using e
  have hlen : ((L.take hi).drop lo).length = hi - lo := by simp; omega
  refine ⟨_, s.c - lo, by rw [hlen]; rfl, by omega, by omega, fun hne => ?_⟩
  have hlt : lo < hi := by
    have : ((L.take hi).drop lo).length ≠ 0 := fun e => hne (List.eq_nil_of_length_eq_zero e)
    omega
  obtain ⟨b, off, xs, ea, hb, hl, hcell, hr⟩ := h3 (by intro e; subst e; simp at h2; omega)
  have hhk := Nat.mul_le_mul_right k h2
  refine ⟨b, off + lo * k, (xs.take (hi * k)).drop (lo * k), ?_, fun j hj => ?_, ?_, fun j u hj => ?_, ?_⟩
  · simp only [Sv.cut]
    rw [if_neg (by omega), ea]
    simp [Addr.add_lit]
  · rw [hlen, Nat.sub_mul] at hj
    rw [Nat.add_assoc]
    exact hb _ (by omega)
  · rw [List.length_drop, List.length_take, hl, hlen, Nat.sub_mul]
    have := Nat.mul_le_mul_right k h2
    omega
  · rw [List.getElem?_drop, List.getElem?_take] at hj
    split at hj
    · rw [Nat.add_assoc]; exact hcell _ _ hj
    · cases hj
  · rw [flatMap_drop hf, flatMap_take hf]
    exact rdAll_drop _ (rdAll_take _ hr)

/-- A part of a slice that is read. -/
theorem St.cutR (hf : ∀ x, (f x).length = k) {s : Sv} {lo hi : Nat} (h1 : lo ≤ hi) (h2 : hi ≤ L.length) (h : St w0 m rs w) (hr : rV s.v (cSl k f L) ∈ rs) : St w0 m (rV (s.cut k lo hi).v (cSl k f ((L.take hi).drop lo)) :: rs) w := by
  obtain ⟨g1, hb, F, g2, g3, g4⟩ := h
  refine ⟨g1, hb, F, g2, g3, fun r hr' => ?_⟩
  rcases List.mem_cons.1 hr' with rfl | hr'
  · exact Cs.cut hf h1 h2 (rVg (g4 _ hr))
  · exact g4 r hr'

theorem St.cutV (hf : ∀ x, (f x).length = k) {s : Sv} {lo hi : Nat} {o : As} {vl : List Vi} (h1 : lo ≤ hi) (h2 : hi ≤ L.length) (h : St w0 (oV o vl :: m) rs w) (hr : vR s.v (cSl k f L) ∈ vl) : St w0 (oV o (vR (s.cut k lo hi).v (cSl k f ((L.take hi).drop lo)) :: vl) :: m) rs w := by
  refine St.iso (l := [oV o vl]) (l' := [oV o (vR (s.cut k lo hi).v (cSl k f ((L.take hi).drop lo)) :: vl)]) h fun F ⟨h0, F1, F2, ⟨g1, gv⟩, g⟩ => ⟨h0, F1, F2, ⟨g1, fun r hr' => ?_⟩, g⟩
  rcases List.mem_cons.1 hr' with rfl | hr'
  · exact Cs.cut hf h1 h2 (vRg (gv _ hr))
  · exact gv r hr'

theorem zipC_take : ∀ (n : Nat) (cs : List Ce) (vs : List Value), zipC (cs.take n) (vs.take n) = (zipC cs vs).take n
  | 0, _, _ => by simp [zipC]
  | n + 1, [], _ => by simp [zipC]
  | n + 1, _ :: _, [] => by simp [zipC]
  | n + 1, c :: cs, v :: vs => by simp [zipC, zipC_take n cs vs]
theorem zipC_drop : ∀ (n : Nat) (cs : List Ce) (vs : List Value), zipC (cs.drop n) (vs.drop n) = (zipC cs vs).drop n
  | 0, _, _ => by simp
  | n + 1, [], _ => by simp [zipC]
  | n + 1, _ :: _, [] => by simp [zipC]
  | n + 1, c :: cs, v :: vs => by simpa [zipC] using zipC_drop n cs vs

theorem Sep.take {F : Bs} {m : List As} (n : Nat) (h : Sep m F w) : Sep (m.take n) F w := by
  rw [← List.take_append_drop n m] at h
  obtain ⟨F1, F2, h1, _, _, h4, _⟩ := h.split
  exact h1.up h4 (by rw [List.take_append_drop] at h; exact h.lt)
theorem Sep.drop {F : Bs} {m : List As} (n : Nat) (h : Sep m F w) : Sep (m.drop n) F w := by
  rw [← List.take_append_drop n m] at h
  obtain ⟨F1, F2, _, h2, _, _, h5⟩ := h.split
  exact h2.up h5 (by rw [List.take_append_drop] at h; exact h.lt)

/-- A part of a slice that is owned. -/
theorem Own.cut (hf : ∀ x, (f x).length = k) {s : Sv} {lo hi : Nat} (h1 : lo ≤ hi) (h2 : hi ≤ L.length) {F : Bs} (h : (cSl k f L).ow F w s.v) : (cSl k f ((L.take hi).drop lo)).ow F w (s.cut k lo hi).v := by
  obtain ⟨xs, hx, h0, F1, F2, ⟨g0, gl, gr⟩, g2, g3, g4, g5⟩ := h
  have hlen : ((L.take hi).drop lo).length = hi - lo := by simp; omega
  have hlo := Nat.mul_le_mul_right k h1
  have hhi := Nat.mul_le_mul_right k h2
  have hxl : ((xs.take (hi * k)).drop (lo * k)).length = (hi - lo) * k := by
    rw [List.length_drop, List.length_take, gl, Nat.sub_mul]; omega
  refine ⟨(xs.take (hi * k)).drop (lo * k), by rw [flatMap_len hf, hlen, hxl], h0, F1, F2, ⟨g0, by rw [hlen, hxl], ?_⟩, ?_, g3, g4, g5⟩
  · rcases gr with ⟨e, hn⟩ | ⟨b, off, cap, cur, e', hd, e, hb, hg, hnc, hcm, hsz, htk⟩
    · left
      obtain ⟨e1, e2, e3⟩ : s.p = none ∧ s.n = 0 ∧ s.c = 0 := by simpa [Sv.v] using e
      have : hi = 0 := by omega
      have : lo = 0 := by omega
      subst_vars
      refine ⟨?_, by omega⟩
      simp [Sv.cut, Sv.v, e1, e3]
    · right
      obtain ⟨e1, e2, rfl⟩ : s.p = some ⟨b, off, none⟩ ∧ s.n = L.length ∧ s.c = cap := by simpa [Sv.v] using e
      by_cases hz : s.c - lo = 0
      · refine ⟨b, off, s.c - lo, cur, e', hd, ?_, fun j hj => by rw [hz, Nat.zero_mul] at hj; omega, hg, by omega, by omega, ?_, ?_⟩
        · simp only [Sv.cut, Sv.v, if_pos hz, e1, hlen]
        · rw [hz, Nat.zero_mul]; omega
        · rw [hlen, show hi - lo = 0 by omega, Nat.zero_mul, List.take_zero]
          symm
          apply List.eq_nil_of_length_eq_zero
          rw [hxl, show hi - lo = 0 by omega, Nat.zero_mul]
      · have hck := Nat.mul_le_mul_right k (show lo ≤ s.c by omega)
        refine ⟨b, off + lo * k, s.c - lo, cur, e', hd, ?_, fun j hj => by
          rw [Nat.sub_mul] at hj
          rw [Nat.add_assoc]
          exact hb _ (by omega), hg, by omega, by omega, ?_, ?_⟩
        · simp only [Sv.cut, Sv.v, if_neg hz, e1, hlen]
          simp [Addr.add_lit]
        · rw [Nat.sub_mul]
          have := Nat.mul_le_mul_right k (show lo ≤ s.c by omega)
          omega
        · rw [hlen, ← htk, List.take_take, Nat.min_eq_left hhi, List.drop_take, List.drop_drop, ← Nat.sub_mul]
  · rw [flatMap_drop hf, flatMap_take hf, zipC_drop, zipC_take]
    exact (g2.take _).drop _

theorem St.cutO (hf : ∀ x, (f x).length = k) {s : Sv} {lo hi : Nat} (h1 : lo ≤ hi) (h2 : hi ≤ L.length) (h : St w0 (oC (cSl k f L) s.v :: m) rs w) : St w0 (oC (cSl k f ((L.take hi).drop lo)) (s.cut k lo hi).v :: m) rs w :=
  St.iso (l := [oC (cSl k f L) s.v]) (l' := [oC (cSl k f ((L.take hi).drop lo)) (s.cut k lo hi).v]) h fun _ ⟨h0, F1, F2, h3, h⟩ => ⟨h0, F1, F2, Own.cut hf h1 h2 h3, h⟩

end

section
variable {P : Program} {n : Nat} {env : Env} {w : World} {d : Option Tmp} {ty : TypeId} {pos : String} {af : Array Edge} {g : Option (Nat × Bool)}
variable {T : Type} {k : Nat} {f : T → List Ce} {L : List T} {S : Bs} {w1 : World} {v : Value}

theorem r_lenC {x : Operand} {t e : TypeId} (ht : P.underlying t = some (.slice e)) (hx : ev env x = some v) (h : (cSl k f L).rd S w1 v) :
    Runs P n env w ⟨d, .call { callee := .builtin .len, args := #[x], argTypes := #[t] }, ty, pos, af, g⟩ (.int .i64 (L.length : Int)) w := by
  obtain ⟨a, cap, rfl, _⟩ := h
  exact r_len ht hx

theorem r_ixC {x y : Operand} {t e : TypeId} {bytes : Nat} {z : Value} {i : Int} (ht : P.underlying t = some (.slice e)) (hs : Sz P e k bytes z)
    (hx : ev env x = some v) (hy : ev env y = some (.int .i64 i)) (h : (cSl k f L).rd S w1 v) (h0 : 0 ≤ i ∧ i < (L.length : Int)) :
    Runs P n env w ⟨d, .indexAddr t x y, ty, pos, af, g⟩ (.pointer (some (eaddr v (i.toNat * k)))) w := fun a ha => by
  obtain ⟨b, off, len, cap, rfl⟩ := Cs.ptr h (i := i.toNat) (by omega)
  obtain ⟨a1, cap1, e1, _⟩ := h
  obtain ⟨_, rfl, _⟩ : _ ∧ len = L.length ∧ _ := by simpa using e1
  simp [execOp, ha.ev hx, ha.ev hy, Instr.indexAt, run_underlying ht, asIntOf, h0, hs.run, eaddr, Addr.add_lit]

/-- The address of a field of an element. -/
theorem r_fldC {x : Operand} {t : TypeId} {q off : Nat} {i j : Nat} {fs : Array Field} {fd : Field} {size bytes : Nat} {z : Value} (ht : P.underlying t = some (.struct fs)) (hf : fs[q]? = some fd) (ho : fd.offset = off)
    (hs : Sz P fd.type size bytes z) (hx : ev env x = some (.pointer (some (eaddr v j)))) (h : (cSl k f L).rd S w1 v) (hi : i < L.length) :
    Runs P n env w ⟨d, .fieldAddr t x q, ty, pos, af, g⟩ (.pointer (some (eaddr v (j + off)))) w := by
  obtain ⟨b, o, len, cap, rfl⟩ := Cs.ptr h hi
  simp only [eaddr] at hx ⊢
  rw [← Nat.add_assoc]
  exact r_fld ht hf ho hs hx

def cellsAt (w : World) (v : Value) : Nat → List Value → Prop
  | _, [] => True
  | o, u :: r => w.cell? (eaddr v o) = some u ∧ cellsAt w v (o + 1) r

theorem cellsAt_get {v : Value} : ∀ {o : Nat} {us : List Value}, cellsAt w v o us → ∀ {j : Nat} {u : Value}, us[j]? = some u → w.cell? (eaddr v (o + j)) = some u
  | _, [], _, j, u, hj => by simp at hj
  | o, x :: us, ⟨h1, _⟩, 0, u, hj => by simp at hj; subst hj; exact h1
  | o, x :: us, ⟨_, h2⟩, j + 1, u, hj => by
    rw [show o + (j + 1) = o + 1 + j by omega]; exact cellsAt_get h2 (by simpa using hj)

/-- A load of a whole element (or of a struct in it). -/
theorem r_ldC {x : Operand} {t : TypeId} {fs : Array Field} {size bytes : Nat} {z : Value} {i o : Nat} {us : List Value} (ht : P.underlying t = some (.struct fs)) (hs : Sz P t size bytes z) (hx : ev env x = some (.pointer (some (eaddr v o)))) (hl : us.length = size)
    (h : (cSl k f L).rd S w1 v) (hi : i < L.length) (hc : cellsAt w v o us) : Runs P n env w ⟨d, .load t x, ty, pos, af, g⟩ (.agg us.toArray) w := by
  obtain ⟨b, off, len, cap, rfl⟩ := Cs.ptr h hi
  refine r_ldS ht hs hx hl fun j u hj => ?_
  simpa [eaddr, Addr.add_lit, Nat.add_assoc] using cellsAt_get hc hj

theorem Sv.cut_eq (s : Sv) (k lo hi : Nat) : (s.cut k lo hi).v = .slice (if s.c - lo = 0 then s.p else s.p.map (·.add (lo * k))) (hi - lo) (s.c - lo) := rfl

theorem r_slc {x : Operand} {lo hi : Operand} {t e : TypeId} {bytes : Nat} {z : Value} {s : Sv} {i j : Int} (ht : P.underlying t = some (.slice e)) (hs : Sz P e k bytes z)
    (hx : ev env x = some s.v) (hlo : ev env lo = some (.int .i64 i)) (hhi : ev env hi = some (.int .i64 j)) (h : (cSl k f L).rd S w1 s.v) (h0 : 0 ≤ i ∧ i ≤ j ∧ j ≤ (L.length : Int)) :
    Runs P n env w ⟨d, .slice t x (some lo) (some hi) none, ty, pos, af, g⟩ (s.cut k i.toNat j.toNat).v w := fun b hb => by
  obtain ⟨s', e1, e2, hc, _⟩ := Cs.form h
  obtain rfl : s = s' := by cases s; cases s'; simpa [Sv.v] using e1
  have h4 : 0 ≤ j ∧ j ≤ (s.c : Int) := by omega
  have h5 : 0 ≤ i ∧ i ≤ (j.toNat : Int) := by omega
  have e6 : (s.c - i.toNat = 0) = (s.c = i.toNat) := by
    apply propext
    omega
  have hx' : b.eval x = .slice s.p s.n s.c := hb.ev hx
  simp only [execOp, hx', hb.ev hlo, hb.ev hhi, Option.map_some, Option.map_none, Instr.sliceAt, Sem.run_bind, run_underlying ht, Result.andThen_ok, Instr.slice, Instr.sliceBounds, Instr.sliceBound, asIntOf, Sem.run_pure, Sem.run_ite, if_pos h4, if_pos h5, hs.run, Option.isSome_none, Bool.false_eq_true, if_false, e6, Sv.cut_eq]

theorem r_slc_hi {x hi : Operand} {t e : TypeId} {bytes : Nat} {z : Value} {s : Sv} {j : Int} (ht : P.underlying t = some (.slice e)) (hs : Sz P e k bytes z)
    (hx : ev env x = some s.v) (hhi : ev env hi = some (.int .i64 j)) (h : (cSl k f L).rd S w1 s.v) (h0 : 0 ≤ j ∧ j ≤ (L.length : Int)) :
    Runs P n env w ⟨d, .slice t x none (some hi) none, ty, pos, af, g⟩ (s.cut k 0 j.toNat).v w := fun b hb => by
  obtain ⟨s', e1, e2, hc, _⟩ := Cs.form h
  obtain rfl : s = s' := by cases s; cases s'; simpa [Sv.v] using e1
  have h4 : 0 ≤ j ∧ j ≤ (s.c : Int) := by omega
  have hx' : b.eval x = .slice s.p s.n s.c := hb.ev hx
  simp only [execOp, hx', hb.ev hhi, Option.map_some, Option.map_none, Instr.sliceAt, Sem.run_bind, run_underlying ht, Result.andThen_ok, Instr.slice, Instr.sliceBounds, Instr.sliceBound, asIntOf, Sem.run_pure, Sem.run_ite, if_pos h4, hs.run, Nat.sub_zero, Sv.cut_eq]

theorem r_slc_lo {x lo : Operand} {t e : TypeId} {bytes : Nat} {z : Value} {s : Sv} {i : Int} (ht : P.underlying t = some (.slice e)) (hs : Sz P e k bytes z)
    (hx : ev env x = some s.v) (hlo : ev env lo = some (.int .i64 i)) (h : (cSl k f L).rd S w1 s.v) (h0 : 0 ≤ i ∧ i ≤ (L.length : Int)) :
    Runs P n env w ⟨d, .slice t x (some lo) none none, ty, pos, af, g⟩ (s.cut k i.toNat L.length).v w := fun b hb => by
  obtain ⟨s', e1, e2, hc, _⟩ := Cs.form h
  obtain rfl : s = s' := by cases s; cases s'; simpa [Sv.v] using e1
  have h5 : 0 ≤ i ∧ i ≤ (L.length : Int) := h0
  have e6 : (s.c - i.toNat = 0) = (s.c = i.toNat) := by
    apply propext
    omega
  have hx' : b.eval x = .slice s.p L.length s.c := by rw [← e2]; exact hb.ev hx
  simp only [execOp, hx', hb.ev hlo, Option.map_some, Option.map_none, Instr.sliceAt, Sem.run_bind, run_underlying ht, Result.andThen_ok, Instr.slice, Instr.sliceBounds, Instr.sliceBound, asIntOf, Sem.run_pure, Sem.run_ite, if_pos h5, hs.run, Option.isSome_none, Bool.false_eq_true, if_false, e6, Sv.cut_eq]

end
end Go.Proofs.YtjbonmmmcnpjiaaGreatDoor
