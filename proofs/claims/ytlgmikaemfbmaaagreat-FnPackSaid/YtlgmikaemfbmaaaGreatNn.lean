/- The second layer, part N: an element's own row lent; rows whose elements' lists are only read. No condition. -/
import Derived.Test.YtlgmikaemfbmaaaGreatNm
namespace Go.Proofs.YtlgmikaemfbmaaaGreat
open Go.RowKit

theorem zipC_get : ∀ {q : Nat} {cs : List Ce} {vs : List Value} {c : Ce} {v : Value}, cs[q]? = some c → vs[q]? = some v → (zipC cs vs)[q]? = some (oC c v)
  | 0, c :: cs, v :: vs, _, _, h1, h2 => by simp at h1 h2; subst h1; subst h2; rfl
  | q + 1, c :: cs, v :: vs, _, _, h1, h2 => by simp only [zipC, List.getElem?_cons_succ]; exact zipC_get (by simpa using h1) (by simpa using h2)
  | _, [], _, _, _, h1, _ => by simp at h1
  | _, _ :: _, [], _, _, _, h2 => by simp at h2

theorem perm_erase {A : Type} {l : List A} {q : Nat} {a : A} (h : l[q]? = some a) : l.Perm (a :: l.eraseIdx q) := by
  obtain ⟨hq, rfl⟩ := List.getElem?_eq_some_iff.1 h
  rw [List.eraseIdx_eq_take_drop_succ]
  have h2 : l = l.take q ++ l[q] :: l.drop (q + 1) := by simp
  conv => lhs; rw [h2]
  exact List.perm_middle

/-- A row but for one cell, in which u stands. -/
def oHo (k : Nat) {T : Type} (f : T → List Ce) (L : List T) (v : Value) (q : Nat) (u : Value) : As where
  ok := fun F w => ∃ xs : List Value, (L.flatMap f).length = xs.length ∧ xs[q]? = some u ∧ Sep (oRow k v L.length xs :: (zipC (L.flatMap f) xs).eraseIdx q) F w
  loc := fun h ⟨xs, h1, h2, h3⟩ => ⟨xs, h1, h2, h3.loc h⟩
  lt := fun ⟨_, _, _, h3⟩ hb => h3.lt _ hb
  up := fun hs hl ⟨xs, h1, h2, h3⟩ => ⟨xs, h1, h2, h3.up hs hl⟩

section
variable {w0 : Base} {w w' : World} {m l l' own : List As} {rs : List Rd} {c c' : Ce} {v : Value} {S : Bs}
variable {T : Type} {k : Nat} {f : T → List Ce} {L : List T}

theorem row_cell {F : Bs} {n : Nat} {xs : List Value} (h : (oRow k v n xs).ok F w) {j : Nat} {u : Value} (hj : xs[j]? = some u) : w.cell? (eaddr v j) = some u := by
  obtain ⟨_, gl, gr⟩ := h
  rcases gr with ⟨rfl, hn⟩ | ⟨b, off, cap, cur, e, rfl, hb, hg, _, _, _, htk⟩
  · rw [hn, Nat.zero_mul] at gl
    rw [List.eq_nil_of_length_eq_zero gl] at hj
    simp at hj
  · rw [← htk, List.getElem?_take] at hj
    split at hj
    · rw [List.getElem?_drop, Array.getElem?_toList] at hj
      simp [eaddr, World.cell?, hg, hj]
    · cases hj

/-- An element's own thing is taken out. -/
theorem St.open [Inhabited T] {vl : List Vi} {i j : Nat} {s : Sv} (h : St w0 (oV (oC (cSl k f L) v) vl :: m) rs w) (hv : vC (eaddr v (i * k + j)) s.v ∈ vl) (hf : ∀ x, (f x).length = k) (hi : i < L.length) (hc : (f (el L i))[j]? = some c) :
    St w0 (oC c s.v :: oHo k f L v (i * k + j) s.v :: m) rs w := by
  refine St.iso (l := [oV (oC (cSl k f L) v) vl]) (l' := [oC c s.v, oHo k f L v (i * k + j) s.v]) h fun F ⟨h0, F1, F2, ⟨⟨xs, g1, g2⟩, gv⟩, _, _, h4, _⟩ => ?_
  have hj : j < k := by
    have := (List.getElem?_eq_some_iff.1 hc).1
    rwa [hf] at this
  have hq : (L.flatMap f)[i * k + j]? = some c := by rw [flatMap_el hf L i j hi hj]; exact hc
  have hlt : i * k + j < xs.length := by rw [← g1]; exact (List.getElem?_eq_some_iff.1 hq).1
  have hcell : w.cell? (eaddr v (i * k + j)) = some s.v := (gv _ hv).2
  obtain ⟨_, G1, _, k1, _⟩ := id g2
  have hx : xs[i * k + j]? = some s.v := by
    have := row_cell k1 (List.getElem?_eq_getElem hlt)
    rw [this] at hcell
    rw [List.getElem?_eq_getElem hlt]; exact hcell
  have hp := perm_erase (zipC_get hq hx)
  have g3 : Sep (oC c s.v :: oRow k v L.length xs :: (zipC (L.flatMap f) xs).eraseIdx (i * k + j)) F1 w := g2.perm ((hp.cons _).trans (List.Perm.swap ..))
  obtain ⟨q0, Q1, Q2, q1, q2, q3, q4, q5⟩ := g3
  exact ⟨h0, Q1, Q2, q1, ⟨q2.lt, Q2, fun _ => False, ⟨xs, g1, hx, q2⟩, (fun _ h => h.elim), (fun _ _ h => h), (fun _ h => h), fun _ h => h.elim⟩, q3, fun b hb => h4 b (q4 b hb), fun b hb => h4 b (q5 b hb)⟩

-- Rows whose elements' lists are only read

theorem St.more {r : Rd} (h : St w0 m rs w) (hr : ∀ S, (∀ r ∈ rs, r.ok S w) → r.ok S w) : St w0 m (r :: rs) w := by
  obtain ⟨h1, hb, F, h2, h3, h4⟩ := h
  refine ⟨h1, hb, F, h2, h3, fun r' hr' => ?_⟩
  rcases List.mem_cons.1 hr' with rfl | hr'
  · exact hr _ h4
  · exact h4 r' hr'

end

section
variable {P : Program} {n : Nat} {ops : Array Oper} {Q : Post} {env : Env} {w : World} {w0 : Base} {rest : List Oper} {ty : TypeId} {pos : String} {af : Array Edge} {m own : List As} {rs : List Rd}
variable {T : Type} {k : Nat} {f : T → List Ce} {L : List T}

/-- A store into an element of a row that the call owns. -/
theorem x_stE {K : World → Prop} [Inhabited T] {t : TypeId} {x y : Operand} {s : Sv} {u : Value} {size bytes : Nat} {z : Value} {i j : Nat} (a : T) (cs : List Ce) (hs : Sz P t size bytes z) (hf : ∀ x, (f x).length = k) (hx : ev env x = some (.pointer (some (eaddr s.v (i * k + j))))) (hy : ev env y = some u) (hi : i < L.length)
    (hu : u.cells.size = size) (hl : cs.length = u.cells.toList.length) (hj : Nat.ble (j + u.cells.toList.length) k = true) (hone : u.cells.toList.all (·.oneCell') = true) (ha : f a = (f (el L i)).take j ++ cs ++ (f (el L i)).drop (j + u.cells.toList.length)) (hz : ∀ w, Z w own (zipC cs u.cells.toList))
    (hM : St w0 (oC (cSl k f L) s.v :: (own ++ m)) rs w) (h : ∀ w', St w0 (oC (cSl k f (L.set i a)) s.v :: m) rs w' → K w') : ExU P n env w ⟨none, .store t x y, ty, pos, af, none⟩ K := by
  obtain ⟨w', hr, h1⟩ := St.stE (ty := ty) (pos := pos) (af := af) a cs hs hf hx hy hi hu hl hj hone ha hz hM
  exact ⟨w', hr, h w' h1⟩

/-- A store into a box. -/
theorem x_stB {K : World → Prop} {t : TypeId} {x y : Operand} {b j : Nat} {cs : Array Value} {e : TypeId} {u : Value} {size bytes : Nat} {z : Value} (cs' : Array Value) (hs : Sz P t size bytes z) (hx : ev env x = some (.pointer (some ⟨b, j, none⟩))) (hy : ev env y = some u) (hu : u.cells.size = size) (hone : u.cells.toList.all (·.oneCell') = true)
    (hj : Nat.ble (j + u.cells.toList.length) cs.size = true) (hc : cs'.toList = cs.toList.take j ++ u.cells.toList ++ cs.toList.drop (j + u.cells.toList.length)) (hM : St w0 (oBox b cs e :: m) rs w)
    (h : ∀ w', St w0 (oBox b cs' e :: m) rs w' → K w') : ExU P n env w ⟨none, .store t x y, ty, pos, af, none⟩ K := by
  obtain ⟨w', hr, h1⟩ := St.stB (ty := ty) (pos := pos) (af := af) (cs' := cs') hs hx hy hu hone hj hc hM
  exact ⟨w', hr, h w' h1⟩

end
end Go.Proofs.YtlgmikaemfbmaaaGreat
