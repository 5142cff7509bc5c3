/- Part 7 of the proof: lemmas. No condition. -/
import Derived.ChangeArms
import Derived.ProofKit
import Derived.Test.YtipinmfmejccdaaGreatProg
import Derived.Test.YtipinmfmejccdaaGreatZ6
namespace Go.Proofs.YtipinmfmejccdaaGreat
theorem Bel {c : DL04Cur} (h : CI c) (hs : skp (Bl c) = Bl c) : Ea c = some ((Dr (Bl c)).kind, c) := by
 obtain ⟨r, h1, h2⟩ := Ki (f := Vj) (fun s => s = (c.o, c.at_, c.done)) (fun _ => 0) (fun r => r = (c.o, c.at_, c.done)) (fun s hP => by
  subst hP
  refine .inr ⟨_, ?_, rfl⟩
  have a0 := h.a0; have a1 := h.a1; have d0 := h.d0
  unfold Vj Ah5
  dsimp only
  by_cases hk : c.at_ < c.o.length
  ·have ok := h.el hk
   have d2 := h.d2 hk
   have sz := (Cx ok d0 d2).2.2.2.2.2
   have e : Bl c = A9 (el c.o c.at_.toNat) c.done :: c.o.drop (c.at_.toNat + 1) := by unfold Bl; rw [if_pos hk]
   rw [e] at hs
   have := Mo hs
   rw [Ak hk, Ae ⟨a0, hk⟩, Ae1 ok, Option.bind_some, Option.bind_some, Ag (by omega)]
  ·rw [Ag hk]; rfl) (c.o, c.at_, c.done) rfl
 subst h2
 have a0 := h.a0; have a1 := h.a1
 unfold Ea
 rw [h1, Option.bind_some]
 unfold Bl
 by_cases hk : c.at_ = c.o.length
 ·rw [Ak hk, if_neg (by omega)]; rfl
 ·have hlt : c.at_ < c.o.length := by omega
  rw [Ag hk, Ae ⟨a0, hlt⟩, if_pos hlt]
  simp only [Dr, (Cx (h.el hlt) h.d0 (h.d2 hlt)).2.2.2.2.1]
def Fe (b d : DL02B) : List DPart × List Int × Int × List DPart × List Int × Int := (b.list, b.put, b.drop, d.list, d.put, d.drop)
theorem Mj {o : List DPart} {k e : Int} (h : CI ⟨o, k, e⟩) {A : List DPart} (hA : skp (Bl ⟨o, k, e⟩) = A) : ∃ o' k' e', CI ⟨o', k', e'⟩ /\ Bl ⟨o', k', e'⟩ = A /\ Ea ⟨o, k, e⟩ = some ((Dr A).kind, ⟨o', k', e'⟩) /\ Ea ⟨o', k', e'⟩ = some ((Dr A).kind, ⟨o', k', e'⟩) := by
 subst hA
 obtain ⟨⟨o', k', e'⟩, q1, q2, q3, q4⟩ := Bek h
 exact ⟨o', k', e', q2, q4, q1, by rw [<- q4]; exact Bel q2 (by rw [q4]; exact K1 _)⟩
theorem Ajj {o : List DPart} {k e n : Int} (h : CI (Eg ⟨o, k, e⟩ n)) : 0 <= e + n /\ e + n <= 200 := ⟨h.d0, h.d1⟩
theorem Akd {p : DPart} {n : Int} (ok : Au p = true) (h0 : 0 <= n) (h1 : n <= Al p) : (A4 p n).signs.length <= 1000000 := by have := Je (Cx ok h0 h1).1; omega
theorem nbd {p : DPart} {n : Int} (ok : Au p = true) (h1 : n <= Al p) : n <= 1000000 := by have := C0 ok; omega
theorem X7 {l : List DPart} (h : ∀ p ∈ l, Au p = true) : ∀ p ∈ l, Nn p := fun p hp => Ko (h p hp)
section
section
variable {o1 o2 r t L L' : List DPart} {k1 e1 k2 e2 D D' n : Int} {P P' : List Int} {p q : DPart} {m m' : Nat}
theorem Bfd (h1 : CI ⟨o1, k1, e1⟩) (h2 : CI ⟨o2, k2, e2⟩) (hA : skp (Bl ⟨o1, k1, e1⟩) = []) (hB : skp (Bl ⟨o2, k2, e2⟩) = []) : Jw o1 k1 e1 o2 k2 e2 L P D L' P' D' = some (.out (L, P, D, L', P', D')) := by
 obtain ⟨o', k', e', q1, q2, q3, q4⟩ := Mj h1 hA
 obtain ⟨u', j', i', y1, y2, y3, y4⟩ := Mj h2 hB
 unfold Jw
 simp (disch := first | assumption | omega | rfl) only [q3, y3, Option.bind_some, Dr, A7, Bh, An, decide_true, Bool.not_true]
theorem Bfe (h1 : CI ⟨o1, k1, e1⟩) (hb : Binv ⟨L, P, D⟩ m) (hm : m < 1000000) (hb' : Binv ⟨L', P', D'⟩ m') (hm' : m' < 1000000) (hA : skp (Bl ⟨o1, k1, e1⟩) = p :: r) (hk : p.kind = 2) (ok : Au p = true) :
  ∃ c : DL04Cur, Jw o1 k1 e1 o2 k2 e2 L P D L' P' D' = some (.go (c.o, c.at_, c.done, o2, k2, e2, Fe (Az ⟨L, P, D⟩ (A4 p (Al p))) (Az ⟨L', P', D'⟩ ⟨1, ((A4 p (Al p)).signs.length : Int), []⟩))) /\ CI c /\ Bl c = A9 p (Al p) :: r := by
 obtain ⟨o', k', e', q1, q2, q3, q4⟩ := Mj h1 hA
 have q5 := Yv q1 q2
 have bp := C0 ok
 have g := Vp q1 q2 bp.1 (Int.le_refl _)
 have q6 := Aum q1 q2 bp.1 (Int.le_refl _) hk
 refine ⟨Eg ⟨o', k', e'⟩ (Al p), ?_, g.1, g.2⟩
 have w := Ae0 hb hm (Akd ok bp.1 (Int.le_refl _))
 have w' := Tq (n := Al p) hb' hm' bp.1 (by omega)
 have k0 := Qa ok
 rw [Ajt (by rw [(Cx ok bp.1 (Int.le_refl _)).2.1]; exact hk), Vq rfl, Vx ok hk bp.1 (Int.le_refl _)]
 clear hA h1 q2 ok
 unfold Jw
 simp (disch := first | assumption | omega | rfl) only [q3, q4, q5, q6, w, w', hk, Eg, Fe, Option.bind_some, Dr, A7, Ag, Bh, An, decide_true]
theorem Bff (h1 : CI ⟨o1, k1, e1⟩) (h2 : CI ⟨o2, k2, e2⟩) (hb : Binv ⟨L, P, D⟩ m) (hm : m < 1000000) (hb' : Binv ⟨L', P', D'⟩ m') (hm' : m' < 1000000) (hB : skp (Bl ⟨o2, k2, e2⟩) = q :: t) (hk : q.kind = 2) (ok : Au q = true)
  (hA : skp (Bl ⟨o1, k1, e1⟩) = [] \/ ∃ p r, skp (Bl ⟨o1, k1, e1⟩) = p :: r /\ p.kind ≠ 2 /\ p.kind ≠ 0) :
  ∃ c d : DL04Cur, Jw o1 k1 e1 o2 k2 e2 L P D L' P' D' = some (.go (c.o, c.at_, c.done, d.o, d.at_, d.done, Fe (Az ⟨L, P, D⟩ ⟨1, ((A4 q (Al q)).signs.length : Int), []⟩) (Az ⟨L', P', D'⟩ (A4 q (Al q))))) /\ CI c /\ CI d /\ Bl c = skp (Bl ⟨o1, k1, e1⟩) /\ Bl d = A9 q (Al q) :: t := by
 obtain ⟨u', j', i', y1, y2, y3, y4⟩ := Mj h2 hB
 have y5 := Yv y1 y2
 have bq := C0 ok
 have g := Vp y1 y2 bq.1 (Int.le_refl _)
 have y6 := Aum y1 y2 bq.1 (Int.le_refl _) hk
 have w := Ae0 hb' hm' (Akd ok bq.1 (Int.le_refl _))
 have w' := Tq (n := Al q) hb hm bq.1 (by omega)
 have k0 := Qa ok
 rw [Ajt (p := A4 q (Al q)) (by rw [(Cx ok bq.1 (Int.le_refl _)).2.1]; exact hk), Vq rfl, Vx ok hk bq.1 (Int.le_refl _)]
 clear hB h2 y2 ok
 unfold Jw
 rcases hA with hA | ⟨p, r, hA, g1, g2⟩
 ·obtain ⟨o', k', e', q1, q2, q3, q4⟩ := Mj h1 hA
  refine ⟨⟨o', k', e'⟩, Eg ⟨u', j', i'⟩ (Al q), ?_, q1, g.1, by rw [hA]; exact q2, g.2⟩
  clear hA h1 q2
  simp (disch := first | assumption | omega | rfl) only [q3, q4, y3, y4, y5, y6, w, w', hk, Eg, Fe, Option.bind_some, Dr, A7, Ag, Bh, decide_true]
 ·obtain ⟨o', k', e', q1, q2, q3, q4⟩ := Mj h1 hA
  refine ⟨⟨o', k', e'⟩, Eg ⟨u', j', i'⟩ (Al q), ?_, q1, g.1, by rw [hA]; exact q2, g.2⟩
  clear hA h1 q2
  simp (disch := first | assumption | omega | rfl) only [q3, q4, y3, y4, y5, y6, w, w', hk, g1, g2, Eg, Fe, Option.bind_some, Dr, A7, Ag, Bh, An, decide_true, decide_false]
theorem Bfc (h1 : CI ⟨o1, k1, e1⟩) (h2 : CI ⟨o2, k2, e2⟩) (hb : Binv ⟨L, P, D⟩ m) (hm : m < 1000000) (hb' : Binv ⟨L', P', D'⟩ m') (hm' : m' < 1000000) (hA : skp (Bl ⟨o1, k1, e1⟩) = p :: r) (hB : skp (Bl ⟨o2, k2, e2⟩) = q :: t) (hk : p.kind ≠ 2) (hk2 : q.kind ≠ 2) (okp : Au p = true) (okq : Au q = true)
  (hn : min (Al p) (Al q) = n) (h0 : 0 <= n) (n1 : n <= Al p) (n2 : n <= Al q) :
  ∃ c d : DL04Cur, Jw o1 k1 e1 o2 k2 e2 L P D L' P' D' = some (.go (c.o, c.at_, c.done, d.o, d.at_, d.done, Fe ((Dx (some (A4 p n), some (A4 q n))).foldl Az ⟨L, P, D⟩) ((Dy (some (A4 p n), some (A4 q n))).foldl Az ⟨L', P', D'⟩))) /\ CI c /\ CI d /\ Bl c = A9 p n :: r /\ Bl d = A9 q n :: t := by
 obtain ⟨o', k', e', q1, q2, q3, q4⟩ := Mj h1 hA
 obtain ⟨u', j', i', y1, y2, y3, y4⟩ := Mj h2 hB
 have q5 := Yv q1 q2
 have y5 := Yv y1 y2
 have g := Vp q1 q2 h0 n1
 have g' := Vp y1 y2 h0 n2
 have g1 := Ajj g.1
 have g2 := Ajj g'.1
 have kp := Qa okp
 have kc := (Cx okp h0 n1).2.1
 have kd := (Cx okq h0 n2).2.1
 refine ⟨Eg ⟨o', k', e'⟩ n, Eg ⟨u', j', i'⟩ n, ?_, g.1, g'.1, g.2, g'.2⟩
 have nb := nbd okp n1
 have wk := Tq (n := n) hb hm h0 nb
 have wd := Aev (n := n) hb hm h0 nb
 have wk' := Tq (n := n) hb' hm' h0 nb
 have wd' := Aev (n := n) hb' hm' h0 nb
 have sm := Beo (Al p) (Al q)
 rw [hn] at sm
 have pk := Dd okp
 have qk := Dd okq
 have cn := Akf (n := n) hk
 have cm := Akf (n := n) hk2
 have P3 : p.kind ≠ 1 -> p.kind = 3 := fun h => by rcases pk with ⟨g1, _⟩ | ⟨g1, _⟩ | ⟨g1, _⟩ <;> omega
 have Q3 : q.kind ≠ 1 -> q.kind = 3 := fun h => by rcases qk with ⟨g1, _⟩ | ⟨g1, _⟩ | ⟨g1, _⟩ <;> omega
 clear pk qk okp okq hA hB h1 h2 q2 y2 hb hb'
 unfold Jw Dx Dy
 by_cases c2 : p.kind = 1
 ·by_cases c1 : q.kind = 1
  ·have ep := Vq (b := ⟨L, P, D⟩) (p := A4 p n) (by omega)
   have eq := Vq (b := ⟨L', P', D'⟩) (p := A4 q n) (by omega)
   rw [cn] at ep; rw [cm] at eq
   simp (disch := first | assumption | omega | rfl) only [q3, q4, y3, y4, q5, y5, sm, wk, wk', kc, kd, c1, c2, List.foldl_cons, List.foldl_nil, ep, eq, Eg, Fe, Option.bind_some, Dr, A7, Ag, Bh, Av, decide_true, if_true]
  ·have q3' := Q3 c1
   have eq := Ajs (b := ⟨L', P', D'⟩) (p := A4 q n) (by omega)
   rw [cm] at eq
   simp (disch := first | assumption | omega | rfl) only [q3, q4, y3, y4, q5, y5, sm, wd', hk2, kc, kd, c1, c2, List.foldl_cons, List.foldl_nil, eq, Eg, Fe, Option.bind_some, Dr, A7, Ag, Bh, An, Av, decide_true, decide_false, if_false, if_true]
 ·have p3' := P3 c2
  by_cases c1 : q.kind = 1
  ·have ep := Ajs (b := ⟨L, P, D⟩) (p := A4 p n) (by omega)
   rw [cn] at ep
   simp (disch := first | assumption | omega | rfl) only [q3, q4, y3, y4, q5, y5, sm, wd, hk, kp, kc, kd, c1, c2, List.foldl_cons, List.foldl_nil, ep, Eg, Fe, Option.bind_some, Dr, A7, Ag, Bh, An, Av, decide_true, decide_false, if_false, if_true]
  ·simp (disch := first | assumption | omega | rfl) only [q3, q4, y3, y4, q5, y5, sm, hk, hk2, kp, kc, kd, c1, c2, List.foldl_nil, Eg, Fe, Option.bind_some, Dr, A7, Bh, An, Av, decide_false, if_false]
end
theorem A01 {p q : DPart} (hp : Au p = true) : ∀ x ∈ Dx (some p, some q), Au x = true := fun x hx => by
 simp only [Dx] at hx
 split at hx
 ·simp only [List.mem_singleton] at hx; subst hx; exact hp
 ·cases hx
theorem A02 {p q : DPart} (hq : Au q = true) : ∀ x ∈ Dy (some p, some q), Au x = true := fun x hx => by
 simp only [Dy] at hx
 split at hx
 ·simp only [List.mem_singleton] at hx; subst hx; exact hq
 ·cases hx
theorem Bfg {a b : List DPart} (h : J 2 a b) (hl : A3 a + A3 b <= 100000) : Bj Vb (a, 0, 0, b, 0, 0, [], [], 0, [], [], 0) = some (Fe ((Gb a b).foldl Az bNil) ((Gc a b).foldl Az bNil)) := by
 have ca : CI ⟨a, 0, 0⟩ := ⟨h.oa, h.la, by simp, by simp, by simp, by simp, fun hk => (C0 (h.oa _ (Cl (l := a) (by simpa using hk)))).1⟩
 have cb : CI ⟨b, 0, 0⟩ := ⟨h.ob, h.lb, by simp, by simp, by simp, by simp, fun hk => (C0 (h.ob _ (Cl (l := b) (by simpa using hk)))).1⟩
 have ea : Bl ⟨a, 0, 0⟩ = a := by rw [Aen _ _ (by omega)]; rfl
 have eb : Bl ⟨b, 0, 0⟩ = b := by rw [Aen _ _ (by omega)]; rfl
 have key := Asa (f := 2) (F := Vb) (fun s => Bl ⟨s.1, s.2.1, s.2.2.1⟩) (fun s => Bl ⟨s.2.2.2.1, s.2.2.2.2.1, s.2.2.2.2.2.1⟩)
  (fun s => CI ⟨s.1, s.2.1, s.2.2.1⟩ /\ CI ⟨s.2.2.2.1, s.2.2.2.2.1, s.2.2.2.2.2.1⟩ /\ (∃ m : Nat, Binv ⟨s.2.2.2.2.2.2.1, s.2.2.2.2.2.2.2.1, s.2.2.2.2.2.2.2.2.1⟩ m /\ (m : Int) + (A3 (Bl ⟨s.1, s.2.1, s.2.2.1⟩) + A3 (Bl ⟨s.2.2.2.1, s.2.2.2.2.1, s.2.2.2.2.2.1⟩)) <= 100000) /\
   ∃ m : Nat, Binv ⟨s.2.2.2.2.2.2.2.2.2.1, s.2.2.2.2.2.2.2.2.2.2.1, s.2.2.2.2.2.2.2.2.2.2.2⟩ m /\ (m : Int) + (A3 (Bl ⟨s.1, s.2.1, s.2.2.1⟩) + A3 (Bl ⟨s.2.2.2.1, s.2.2.2.2.1, s.2.2.2.2.2.1⟩)) <= 100000)
  (fun s l => Fe ((l.flatMap Dx).foldl Az ⟨s.2.2.2.2.2.2.1, s.2.2.2.2.2.2.2.1, s.2.2.2.2.2.2.2.2.1⟩) ((l.flatMap Dy).foldl Az ⟨s.2.2.2.2.2.2.2.2.2.1, s.2.2.2.2.2.2.2.2.2.2.1, s.2.2.2.2.2.2.2.2.2.2.2⟩)) (fun s hP h => by
  obtain ⟨o1, k1, e1, o2, k2, e2, L, P, D, L', P', D'⟩ := s
  dsimp only at hP h ⊢
  obtain ⟨h1, h2, ⟨m, hb, hm⟩, m', hb', hm'⟩ := hP
  have n1 := Fn h.oa
  have n2 := Fn h.ob
  have hz : m < 1000000 := by omega
  have hz' : m' < 1000000 := by omega
  rcases Zi h with ⟨hA, hB, ht⟩ | ⟨p, r, hA, hk, ok, hl, g1, g2, ht⟩ | ⟨q, t, hB, hk, ok, hl, hA, g1, g2, ht⟩ | ⟨p, r, q, t, n, hA, hB, hk, hk2, okp, okq, hl, hl2, hn, h0, h1', h2', g1, g2, ht⟩
  ·exact .inr ⟨by unfold Vb; rw [Bfd h1 h2 hA hB]; rfl, ht⟩
  ·obtain ⟨⟨co, ck, ce⟩, w1, w2, w3⟩ := Bfe (o2 := o2) (k2 := k2) (e2 := e2) h1 hb hz hb' hz' hA hk ok
   have okc := (Cx ok (C0 ok).1 (Int.le_refl _)).1
   have w4 := Nc hb (Ko okc)
   have w5 := Nc hb' (Ko (X8 okc))
   rw [<- w3] at g1 g2 ht
   exact .inl ⟨_, (co, ck, ce, o2, k2, e2, Fe (Az ⟨L, P, D⟩ (A4 p (Al p))) (Az ⟨L', P', D'⟩ ⟨1, ((A4 p (Al p)).signs.length : Int), []⟩)), w1, ⟨w2, h2, ⟨m + 1, w4, by dsimp only; omega⟩, m' + 1, w5, by dsimp only; omega⟩, g1, g2, ht, fun l => by simp [Dx, Dy, Fe]⟩
  ·obtain ⟨⟨co, ck, ce⟩, ⟨do', dk, de⟩, w1, w2, w3, w4, w5⟩ := Bff h1 h2 hb hz hb' hz' hB hk ok hA
   have okc := (Cx ok (C0 ok).1 (Int.le_refl _)).1
   have w6 := Nc hb (Ko (X8 okc))
   have w7 := Nc hb' (Ko okc)
   rw [<- w4, <- w5] at g1 g2 ht
   exact .inl ⟨_, (co, ck, ce, do', dk, de, Fe (Az ⟨L, P, D⟩ ⟨1, ((A4 q (Al q)).signs.length : Int), []⟩) (Az ⟨L', P', D'⟩ (A4 q (Al q)))), w1, ⟨w2, w3, ⟨m + 1, w6, by dsimp only; omega⟩, m' + 1, w7, by dsimp only; omega⟩, g1, g2, ht, fun l => by simp [Dx, Dy, Fe]⟩
  ·obtain ⟨⟨co, ck, ce⟩, ⟨do', dk, de⟩, w1, w2, w3, w4, w5⟩ := Bfc h1 h2 hb hz hb' hz' hA hB hk hk2 okp okq hn h0 h1' h2'
   have w6 := Pn (X7 (A01 (q := A4 q n) (Cx okp h0 h1').1)) hb
   have w7 := Abo (some (A4 p n), some (A4 q n))
   have w8 := Pn (X7 (A02 (p := A4 p n) (Cx okq h0 h2').1)) hb'
   have w9 := Abp (some (A4 p n), some (A4 q n))
   rw [<- w4, <- w5] at g1 g2 ht
   exact .inl ⟨_, (co, ck, ce, do', dk, de, Fe ((Dx (some (A4 p n), some (A4 q n))).foldl Az ⟨L, P, D⟩) ((Dy (some (A4 p n), some (A4 q n))).foldl Az ⟨L', P', D'⟩)), w1, ⟨w2, w3, ⟨_, w6, by dsimp only; omega⟩, _, w8, by dsimp only; omega⟩, g1, g2, ht, fun l => by rw [List.flatMap_cons, List.foldl_append, List.flatMap_cons, List.foldl_append]; rfl⟩)
  (a, 0, 0, b, 0, 0, [], [], 0, [], [], 0) ⟨ca, cb, ⟨0, Lk, by dsimp only; rw [ea, eb]; omega⟩, 0, Lk, by dsimp only; rw [ea, eb]; omega⟩ (by dsimp only; rw [ea, eb]; exact h)
 dsimp only at key
 rw [ea, eb] at key
 exact key
theorem Be5 (a b : List DPart) : Pf a b = some (Hy a b) := by
 unfold Pf Hy
 simp only [Ky, Tr, Option.bind_some]
 cases ha : A5 a with
 | false => simp
 | true =>
  cases hb : A5 b with
  | false => simp
  | true =>
   simp only [D7 ha, D7 hb, if_true, Bool.not_true, An, Option.bind_some]
   by_cases hf : Be a = Be b
   ·obtain ⟨j, hl⟩ := J2 ha hb hf
    have g := Ael j hl
    have g' := Yl j hl
    have w := Pn (X7 g.1) Lk
    have w' := Pn (X7 g'.1) Lk
    rw [decide_eq_true hf, Bool.not_true, An, Bfg j hl, Option.bind_some]
    have e := Aeu w (by omega)
    have e' := Aeu w' (by omega)
    show (Option.bind (Jx ((Gb a b).foldl Az bNil)) fun r885 => Option.bind (Jx ((Gc a b).foldl Az bNil)) fun r894 => _) = _
    rw [e, Option.bind_some, e', Option.bind_some]
    try simp only
    show (Option.bind (bif !A5 (Ia a b) then _ else some (!A5 (F5 a b))) fun c680 => _) = _
    cases hc : A5 (Ia a b) with
    | false => simp
    | true =>
     cases hd : A5 (F5 a b) with
     | false => simp
     | true => simp [hf]; exact ⟨rfl, rfl⟩
   ·rw [decide_eq_false hf]; simp [hf]
end
theorem Adf (f : Int) (a b : List DPart) : Ek f (a ++ b) = Ek f a + Ek f b := Mq _ a b
theorem L2 (f : Int) (p : DPart) : Ek f [p] = E7 f p := by rw [Fi]; show E7 f p + 0 = _; omega
theorem L9 {f : Int} {p : DPart} {n : Int} (h : Au p = true) (h0 : 0 <= n) (h1 : n <= Al p) : E7 f (A4 p n) = if p.kind = f then 0 else n := by
 have g := Cx h h0 h1
 unfold E7
 rw [g.2.1, g.2.2.1]
theorem Yc (f : Int) (hf : f ≠ 1) (n : Int) : E7 f ⟨1, n, []⟩ = n := by
 unfold E7 Al
 rw [if_neg (fun h => hf h.symm)]; simp
theorem Bdv : ∀ (n : Nat) {a b : List DPart}, J 2 a b -> A3 a + A3 b <= n -> Ek 2 (Gb a b) = Ek 3 b /\ Ek 2 (Gc a b) = Ek 3 a /\ Ek 3 (Gb a b) = Ek 3 (Gc a b) := by
 intro n
 induction n with
 | zero =>
  intro a b h hz
  have n1 := Fn h.oa
  have n2 := Fn h.ob
  have z1 := Lh h.oa (by omega)
  have z2 := Lh h.ob (by omega)
  unfold Gb Gc
  rw [Afs z1 z2, <- L3 3 a, <- L3 3 b, z1, z2]
  exact ⟨rfl, rfl, rfl⟩
 | succ n ih =>
  intro a b h hz
  have ma := L3 3 a
  have mb := L3 3 b
  unfold Gb Gc
  rcases Zi h with ⟨hA, hB, ht⟩ | ⟨p, r, hA, hk, ok, hl, g1, g2, ht⟩ | ⟨q, t, hB, hk, ok, hl, hA, g1, g2, ht⟩ | ⟨p, r, q, t, m, hA, hB, hk, hk2, okp, okq, hl, hl2, hn, h0, h1, h2, g1, g2, ht⟩ <;> rw [ht]
  ·rw [<- ma, <- mb, hA, hB]
   exact ⟨rfl, rfl, rfl⟩
  ·have g := ih g1 (by omega)
   unfold Gb Gc at g
   have b1 := C0 ok
   have c2 := L9 (f := 2) ok b1.1 (Int.le_refl _)
   have c3 := L9 (f := 3) ok b1.1 (Int.le_refl _)
   rw [if_pos hk] at c2
   rw [if_neg (by omega)] at c3
   rw [hA, Fi, Ma (by omega)] at ma
   have e := g.2.1
   rw [Fi, N7 ok b1.1 (Int.le_refl _) (by omega), Ma (by omega)] at e
   simp only [List.flatMap_cons, Dx, Dy, Adf, L2, c2, c3, Vx ok hk b1.1 (Int.le_refl _), Yc 2 (by omega), Yc 3 (by omega)]
   omega
  ·have g := ih g1 (by omega)
   unfold Gb Gc at g
   have b1 := C0 ok
   have c2 := L9 (f := 2) ok b1.1 (Int.le_refl _)
   have c3 := L9 (f := 3) ok b1.1 (Int.le_refl _)
   rw [if_pos hk] at c2
   rw [if_neg (by omega)] at c3
   rw [hB, Fi, Ma (by omega)] at mb
   have e := g.1
   rw [Fi, N7 ok b1.1 (Int.le_refl _) (by omega), Ma (by omega)] at e
   simp only [List.flatMap_cons, Dx, Dy, Adf, L2, c2, c3, Vx ok hk b1.1 (Int.le_refl _), Yc 2 (by omega), Yc 3 (by omega)]
   omega
  ·have g := ih g1 (by omega)
   unfold Gb Gc at g
   have P3 : p.kind ≠ 1 -> p.kind = 3 := fun h => by rcases Dd okp with ⟨g1, _⟩ | ⟨g1, _⟩ | ⟨g1, _⟩ <;> omega
   have Q3 : q.kind ≠ 1 -> q.kind = 3 := fun h => by rcases Dd okq with ⟨g1, _⟩ | ⟨g1, _⟩ | ⟨g1, _⟩ <;> omega
   have c2 := L9 (f := 2) okp h0 h1
   have c3 := L9 (f := 3) okp h0 h1
   have d2 := L9 (f := 2) okq h0 h2
   have d3 := L9 (f := 3) okq h0 h2
   have kc := (Cx okp h0 h1).2.1
   have kd := (Cx okq h0 h2).2.1
   rw [hA, Fi] at ma
   rw [hB, Fi] at mb
   have e1 := g.1
   have e2 := g.2.1
   rw [Fi] at e1 e2
   rw [if_neg hk] at c2
   rw [if_neg hk2] at d2
   simp only [List.flatMap_cons, Dx, Dy, Adf, kc, kd]
   by_cases k1 : p.kind = 1
   ·rw [if_neg (by omega)] at c3
    rw [N7 okp h0 h1 (by omega)] at e2
    rw [if_pos k1, L2, L2]
    by_cases k2 : q.kind = 1
    ·rw [if_neg (by omega)] at d3
     rw [N7 okq h0 h2 (by omega)] at e1
     rw [if_pos k2, L2, L2]
     omega
    ·have := Q3 k2
     rw [if_pos this] at d3
     rw [Ta okq h0 h2 this] at e1
     rw [if_neg k2]
     show 0 + _ = _ /\ _ /\ 0 + _ = _
     omega
   ·have k3 := P3 k1
    rw [if_pos k3] at c3
    rw [Ta okp h0 h1 k3] at e2
    rw [if_neg k1]
    by_cases k2 : q.kind = 1
    ·rw [N7 okq h0 h2 (by omega)] at e1
     rw [if_pos k2, L2, L2]
     show _ /\ 0 + _ = _ /\ _ = 0 + _
     omega
    ·have := Q3 k2
     rw [Ta okq h0 h2 this] at e1
     rw [if_neg k2]
     show 0 + _ = _ /\ 0 + _ = _ /\ 0 + _ = 0 + _
     omega
theorem Ac9 {a b : List DPart} (h : (Hy a b).2.2 = true) : A5 a = true /\ A5 b = true /\ Be a = Be b /\ A5 (Ia a b) = true /\ A5 (F5 a b) = true /\ Hy a b = (Ia a b, F5 a b, true) := by
 unfold Hy at h ⊢
 split at h
 ·rename_i g; exact ⟨g.1, g.2.1, g.2.2.1, g.2.2.2.1, g.2.2.2.2, if_pos g⟩
 ·cases h
theorem S6 {l : List DPart} (h : ∀ p ∈ l, Au p = true) : Fp l := fun q hq => by
 rcases Dd (h q hq) with ⟨g1, g2, g3, g4⟩ | ⟨g1, g2, g3, g4⟩ | ⟨g1, g2, g3, g4⟩
 ·exact ⟨.inl g1, g2, fun h => by omega⟩
 ·exact ⟨.inr (.inl g1), by omega, fun _ => g2⟩
 ·exact ⟨.inr (.inr g1), g2, fun h => by omega⟩
theorem Bad {a b : List DPart} (ha : A5 a = true) (hb : A5 b = true) (hf : Be a = Be b) : Be (Ia a b) = Ez b /\ Be (F5 a b) = Ez a /\ Ez (Ia a b) = Ez (F5 a b) := by
 obtain ⟨j, hl⟩ := J2 ha hb hf
 have g := Bdv 100000 j (by omega)
 have x := (Ael j hl).1
 have y := (Yl j hl).1
 unfold Ia F5
 rw [Ab1 (S6 x), Ab1 (S6 y), Avv (S6 x), Avv (S6 y), <- X0 x, <- X0 y, <- X1 x, <- X1 y, <- X1 j.oa, <- X1 j.ob]
 exact g
theorem Bbj {t : List Int} (h : Bo t = true) : t.all Cg = true := by
 unfold Bo at h
 simp only [Bool.and_eq_true] at h
 exact h.2
theorem Vv {T : Type} [Inhabited T] {f : Nat -> List T -> Option (Lr (List T) (List T))} (l : List T) (_hl : l.length <= 1099511627776) (hf : ∀ k s, k < l.length -> s.length <= k -> f k s = some (.go (s ++ [el l k]))) : Aq f (fun (s : List T) => (s : List T)) l.length 0 [] = some l := by
 have h := Ff (F := f) (e := fun (s : List T) => s) l (fun r k s => s.length <= k) (fun r _ s => s ++ r) (fun s _ => by simp) (fun x r k s hk hx hP => .inl ⟨_, hf k s hk hP, by simp; omega, by simp [hx]⟩) [] (by simp)
 simpa using h
theorem Ara {o : List DPart} (h : Ef Tw o) : Uq o = some o := by
 unfold Uq
 rw [Vv o h.1 (fun k s hk hs => by
  have hm := h.2 _ (Cl hk)
  have h1 := h.1
  unfold Awn Awm
  rw [W9 hm.2.2.1, Option.bind_some, Ae (by omega)])]
 rfl
theorem Aun {o : List DPart} (h : Ef Tw o) : Ve o = some o := by
 unfold Ve
 rw [Vv o h.1 (fun k s hk hs => by
  have hm := h.2 _ (Cl hk)
  have h1 := h.1
  have h2 := hm.2.2.1
  unfold Aw1 Aw0
  rw [Ae (by omega), Ae (by simp; omega)]; rfl)]
 rfl
def H9 (o : List DPart) : Bool := A5 o && decide (o = Bw o)
theorem A94 {o : List DPart} (h : H9 o = true) : A5 o = true /\ Bw o = o := by
 unfold H9 at h
 simp only [Bool.and_eq_true, decide_eq_true_eq] at h
 exact ⟨h.1, h.2.symm⟩
def Bz (e : DEntry) : Bool := (decide (1 <= e.client /\ e.client <= 8) && decide (1 <= e.seq /\ e.seq <= 1000000000)) && H9 e.o
theorem W5 (e : DEntry) : Jo e = some (Bz e) := by
 unfold Jo Bz
 simp only [Eu, A84, Option.bind_some, Ci, Eh]; rfl
theorem Aew (e : DEntry) : M2 e = some (Bz e) := by
 unfold M2 Bz
 simp only [E9, Bej, Option.bind_some, Ci, Eh]; rfl
theorem W8 {l : List DEntry} (h : Ef Gz l) : O9 l = some l := by
 unfold O9
 rw [Vv l h.1 (fun k s hk hs => by
  have h1 := h.1
  unfold Awl Awk
  rw [Ara (h.2 _ (Cl hk)).2.2, Option.bind_some, Ae (by omega)])]
 rfl
theorem At7 {e : DEntry} (h : Gz e) : Vm e = some e := by
 unfold Vm
 rw [Aun h.2.2]; rfl
def Li : List (List DPart) -> List Int -> Option (List Int)
 | [], t => some t
 | o :: r, t => if C4 o t then Li r (Cu o t) else none
def Afr : Option (List Int) -> List Int × Bool
 | some u => (u, true)
 | none => ([], false)
theorem Acn (l : List (List DPart)) (t : List Int) : Jn l t = some (if Bo t then Afr (Li l t) else ([], false)) := by
 unfold Jn
 rw [Sn, Option.bind_some]
 cases h : Bo t with
 | false => rfl
 | true =>
  have := Gv h
  rw [Bool.not_true, An, W9 (by omega), Option.bind_some, Ff (F := Zo l) (e := fun (s : List Int) => (Sum.inl s : Sum (List Int) Unit)) l (fun _ _ _ => True) (fun r _ s => match Li r s with | some u => Sum.inl u | none => Sum.inr ()) (fun s _ => rfl) (fun x r k s hk hx _ => by
   unfold Zo Agb
   rw [hx, Aq3, Option.bind_some, Li]
   cases hf : C4 x s with
   | false => exact .inr rfl
   | true => exact .inl ⟨_, rfl, trivial, rfl⟩) t trivial, Option.bind_some]
  cases Li l t <;> rfl
def Cq : List DEntry -> List Int -> Option (List Int)
 | [], t => some t
 | e :: r, t => if C4 e.o t && Bz e then Cq r (Cu e.o t) else none
def Wl (t : List Int) (l : List DEntry) : List Int × Bool := if Bo t then Afr (Cq l t) else ([], false)
theorem Wm : ∀ (l : List DEntry) (t : List Int), l.all Bz = true -> Cq l t = Li (l.map fun e => e.o) t
 | [], t, _ => rfl
 | e :: l, t, h => by
  simp only [List.all_cons, Bool.and_eq_true] at h
  rw [Cq, List.map_cons, Li, h.1, Bool.and_true]
  split
  ·exact Wm l _ h.2
  ·rfl
theorem Wn : ∀ (l : List DEntry) (t : List Int), l.all Bz = false -> Cq l t = none
 | [], t, h => by cases h
 | e :: l, t, h => by
  rw [Cq]
  cases he : Bz e with
  | false => simp
  | true =>
   simp only [List.all_cons, he, Bool.true_and] at h
   split
   ·exact Wn l _ h
   ·rfl
theorem Xa {l : List DEntry} (h : Ef Gz l) : K8 l = some (l.map fun e => e.o) := by
 unfold K8
 have hl := h.1
 rw [Ff (F := Agx l) (e := fun (s : List (List DPart)) => s) l (fun r k s => s.length <= k) (fun r _ s => s ++ r.map fun e => e.o) (fun s _ => by simp) (fun x r k s hk hx hP => by
  unfold Agx Awo
  rw [hx, Ara (h.2 _ (hx ▸ Cl hk)).2.2, Option.bind_some, Ae (by omega)]
  exact .inl ⟨_, rfl, by simp; omega, by simp⟩) [] (by simp)]
 simp
theorem A8w (t : List Int) {l : List DEntry} (h : Ef Gz l) : O4 t l = some (Wl t l) := by
 unfold O4 Wl
 rw [Ln (b := .inr ()) l Bz (fun x k hk hx => by
  unfold Agi Agh; rw [hx, W5]; cases Bz x <;> rfl), Option.bind_some]
 cases ha : l.all Bz with
 | false => rw [Wn l t ha]; cases Bo t <;> rfl
 | true =>
  rw [Wm l t ha]
  simp only [cond_true, Sum.elim_inl]
  rw [Xa h, Option.bind_some, Acn]; rfl
noncomputable def C5 (s : ByteArray) : Bool := (Gj s).getD false
theorem Acr (s : ByteArray) (hs : s.size <= 9223372036854775807) : Gj s = some (C5 s) := by
 have key : ∃ b, Gj s = some b := by
  unfold Gj
  obtain ⟨y, h1, _⟩ := Ki (f := Mx s) (fun i => 0 <= i /\ i <= s.size) (fun i => ((s.size : Int) - i).toNat) (fun _ => True) (fun i hP => by
   unfold Mx Zy
   by_cases hi : i < (s.size : Int)
   ·rw [Ak hi, Ae ⟨hP.1, hi⟩, Ae ⟨hP.1, hi⟩, Ci, Option.bind_some]
    cases (bif decide (((Fs s i.toNat).toNat : Int) < 97) then true else decide ((122 : Int) < ((Fs s i.toNat).toNat : Int))) with
    | true => exact .inr ⟨_, rfl, trivial⟩
    | false => rw [An, Av (by omega) (by omega)]; exact .inl ⟨_, rfl, ⟨by omega, by omega⟩, by omega⟩
   ·rw [Ag hi]; exact .inr ⟨_, rfl, trivial⟩) 0 ⟨by omega, by omega⟩
  rw [h1, Option.bind_some]
  cases y with
  | inl u => simp only [Sum.elim_inl]; rw [Eu]; exact ⟨_, rfl⟩
  | inr u => exact ⟨_, rfl⟩
 obtain ⟨b, hb⟩ := key
 unfold C5
 rw [hb]; rfl
theorem Beq (s : ByteArray) (hs : s.size <= 9223372036854775807) : Pc s = some (C5 s) := by
 have h := Acr s hs
 have hf : Ahn = Mx := rfl
 unfold Gj at h
 unfold Pc
 rw [hf]
 simp only [E9]
 simp only [Eu] at h
 exact h
theorem Ajm : ∀ {o : List DPart}, (∀ p ∈ o, p.kind = 2 -> p.signs.all Cg = true) -> ∀ {t : List Int}, t.all Cg = true -> (Cu o t).all Cg = true
 | [], _, t, _ => rfl
 | q :: o, h, t, ht => by
  have hd : ∀ k, (t.drop k).all Cg = true := fun k => List.all_eq_true.2 fun x hx => List.all_eq_true.1 ht x (List.mem_of_mem_drop hx)
  have htk : ∀ k, (t.take k).all Cg = true := fun k => List.all_eq_true.2 fun x hx => List.all_eq_true.1 ht x (List.mem_of_mem_take hx)
  have ih : ∀ {t : List Int}, t.all Cg = true -> (Cu o t).all Cg = true := fun ht => Ajm (fun p hp => h p (by simp [hp])) ht
  unfold Cu
  split
  ·rw [List.all_append, htk, ih (hd _)]; rfl
  ·split
   ·rename_i hk; rw [List.all_append, h q (by simp) hk, ih ht]; rfl
   ·exact ih (hd _)
theorem X6 {o : List DPart} {t : List Int} (h : C4 o t = true) : Bo (Cu o t) = true := by
 obtain ⟨h1, h2, h3⟩ := Wf h
 have h4 := Rt (S3 h1) h3
 have h5 := Asy h1
 have h6 := Ajm (As0 (D7 h1)) (Bbj h2)
 unfold Bo
 rw [h6]; simp; omega
def Oa : Option Int -> Int -> Bool
 | none, _ => true
 | some p, i => decide (p < i)
def Dl (h : Int) : List DSeen -> Option Int -> Bool
 | [], _ => true
 | s :: r, p => (((decide (1 <= s.client /\ s.client <= 8) && Oa p s.client) && decide (1 <= s.seq /\ s.seq <= 1000000000)) && decide (1 <= s.rev /\ s.rev <= h)) && Dl h r (some s.client)
noncomputable def A8 (d : DDoc) : Bool := (((C5 d.name && decide (0 <= d.from_ /\ d.from_ <= 999999000)) && Bo d.text) && decide (d.list.length <= 8)) && ((Cq d.list d.text).isSome && Dl (d.from_ + d.list.length) d.seen none)
theorem Aus (l : List DSeen) {k : Nat} {x : DSeen} (hl : l.length <= 1099511627776) (hk : k < l.length) :
  (bif decide ((0 : Int) < (k : Int)) then (xg (Ac ((k : Int) - 1)) <| xg (0 <= ((k : Int) - 1) /\ ((k : Int) - 1) < (l.length : Int)) <| some (decide ((x.client) <= ((el l (((k : Int) - 1).toNat)).client)))) else (some false)) = some (!Oa (if k = 0 then none else some (el l (k - 1)).client) x.client) := by
 cases k with
 | zero => rfl
 | succ k =>
  rw [Ak (by omega), Av (by omega) (by omega), Ae ⟨by omega, by omega⟩, if_neg (by omega), show (((k + 1 : Nat) : Int) - 1).toNat = k + 1 - 1 by omega, Oa]
  congr 1
  rw [<- decide_not]
  exact decide_eq_decide.2 (by omega)
theorem A9m (d : DDoc) (hl : d.seen.length <= 1099511627776) (hf : 0 <= d.from_ /\ d.from_ <= 999999000) (hn : d.list.length <= 8) : Aq (Ue d) (fun (_ : Unit) => (Sum.inl () : Sum Unit Bool)) d.seen.length 0 () = some (bif Dl (d.from_ + d.list.length) d.seen none then Sum.inl () else Sum.inr false) := by
 have h := Ff (F := Ue d) (e := fun _ => (Sum.inl () : Sum Unit Bool)) d.seen (fun _ _ _ => True) (fun r k _ => bif Dl (d.from_ + d.list.length) r (if k = 0 then none else some (el d.seen (k - 1)).client) then Sum.inl () else Sum.inr false) (fun _ _ => rfl) (fun x r k s hk hx _ => by
  have hh : Dn d = some (d.from_ + d.list.length) := by unfold Dn; rw [Av (by omega) (by omega)]
  unfold Ue Agf
  rw [hx]
  simp only [Eu, Option.bind_some, Aus d.seen (x := x) hl hk, hh, Ci, D2]
  simp only [Dl]
  have e1 : (if k + 1 = 0 then none else some (el d.seen (k + 1 - 1)).client) = some x.client := by rw [if_neg (by omega), Nat.add_sub_cancel, hx]
  rw [e1]
  generalize Oa (if k = 0 then none else some (el d.seen (k - 1)).client) x.client = q
  generalize Dl (d.from_ + d.list.length) r (some x.client) = z
  generalize decide (1 <= x.client /\ x.client <= 8) = b1
  generalize decide (1 <= x.seq /\ x.seq <= 1000000000) = b2
  generalize decide (1 <= x.rev /\ x.rev <= d.from_ + d.list.length) = b3
  cases b1 <;> cases q <;> cases b2 <;> cases b3 <;> first | exact .inr rfl | exact .inl ⟨(), rfl, trivial, rfl⟩) () trivial
 simpa using h
theorem Bfa (d : DDoc) (hl : d.seen.length <= 1099511627776) (hf : 0 <= d.from_ /\ d.from_ <= 999999000) (hn : d.list.length <= 8) : Aq (U2 d) (fun (_ : Unit) => (Sum.inl () : Sum Unit Bool)) d.seen.length 0 () = some (bif Dl (d.from_ + d.list.length) d.seen none then Sum.inl () else Sum.inr false) := by
 have h := Ff (F := U2 d) (e := fun _ => (Sum.inl () : Sum Unit Bool)) d.seen (fun _ _ _ => True) (fun r k _ => bif Dl (d.from_ + d.list.length) r (if k = 0 then none else some (el d.seen (k - 1)).client) then Sum.inl () else Sum.inr false) (fun _ _ => rfl) (fun x r k s hk hx _ => by
  have hh : C9 d = some (d.from_ + d.list.length) := by unfold C9; rw [Av (by omega) (by omega)]
  unfold U2 Ahc
  rw [hx]
  simp only [E9, Option.bind_some, Aus d.seen (x := x) hl hk, hh, Ci, D2]
  simp only [Dl]
  have e1 : (if k + 1 = 0 then none else some (el d.seen (k + 1 - 1)).client) = some x.client := by rw [if_neg (by omega), Nat.add_sub_cancel, hx]
  rw [e1]
  generalize Oa (if k = 0 then none else some (el d.seen (k - 1)).client) x.client = q
  generalize Dl (d.from_ + d.list.length) r (some x.client) = z
  generalize decide (1 <= x.client /\ x.client <= 8) = b1
  generalize decide (1 <= x.seq /\ x.seq <= 1000000000) = b2
  generalize decide (1 <= x.rev /\ x.rev <= d.from_ + d.list.length) = b3
  cases b1 <;> cases q <;> cases b2 <;> cases b3 <;> first | exact .inr rfl | exact .inl ⟨(), rfl, trivial, rfl⟩) () trivial
 simpa using h
theorem Ao5 {d : DDoc} {X Y : Option Bool} (hY : ((C5 d.name = true /\ 0 <= d.from_ /\ d.from_ <= 999999000) /\ Bo d.text = true) /\ d.list.length <= 8 -> X = Y) (hN : ¬ (((C5 d.name = true /\ 0 <= d.from_ /\ d.from_ <= 999999000) /\ Bo d.text = true) /\ d.list.length <= 8) -> Y = some false) :
  (bif (((!C5 d.name || !decide (0 <= d.from_ /\ d.from_ <= 999999000)) || !Bo d.text) || decide ((8 : Int) < (d.list.length : Int))) then some false else X) = Y := by
 by_cases h : ((C5 d.name = true /\ 0 <= d.from_ /\ d.from_ <= 999999000) /\ Bo d.text = true) /\ d.list.length <= 8
 ·rw [h.1.1.1, decide_eq_true h.1.1.2, h.1.2, decide_eq_false (p := (8 : Int) < (d.list.length : Int)) (by omega)]
  exact hY h
 ·rw [hN h]
  have : (((!C5 d.name || !decide (0 <= d.from_ /\ d.from_ <= 999999000)) || !Bo d.text) || decide ((8 : Int) < (d.list.length : Int))) = true := by
   cases h1 : C5 d.name
   ·rfl
   ·by_cases h2 : 0 <= d.from_ /\ d.from_ <= 999999000
    ·cases h3 : Bo d.text
     ·simp
     ·have : ¬ d.list.length <= 8 := fun h4 => h ⟨⟨⟨h1, h2⟩, h3⟩, h4⟩
      rw [decide_eq_true (p := (8 : Int) < (d.list.length : Int)) (by omega)]; simp
    ·rw [decide_eq_false h2]; simp
  rw [this]; rfl
theorem Asq {d : DDoc} (h : ¬ (((C5 d.name = true /\ 0 <= d.from_ /\ d.from_ <= 999999000) /\ Bo d.text = true) /\ d.list.length <= 8)) : A8 d = false := by
 cases hk : A8 d with
 | false => rfl
 | true =>
  unfold A8 at hk
  simp only [Bool.and_eq_true, decide_eq_true_eq] at hk
  exact absurd ⟨⟨⟨hk.1.1.1.1, hk.1.1.1.2⟩, hk.1.1.2⟩, hk.1.2⟩ h
theorem Asr {d : DDoc} (h : ((C5 d.name = true /\ 0 <= d.from_ /\ d.from_ <= 999999000) /\ Bo d.text = true) /\ d.list.length <= 8) : A8 d = ((Cq d.list d.text).isSome && Dl (d.from_ + d.list.length) d.seen none) := by
 unfold A8
 rw [h.1.1.1, decide_eq_true h.1.1.2, h.1.2, decide_eq_true h.2]; rfl
theorem Ny (d : DDoc) (h : D0 d) : Hk d = some (A8 d) := by
 have hl := h.2.2.2.1; have hs := h.2.2.2.2; have hnm := h.1
 unfold Qv at hnm
 unfold Hk
 simp only [Acr d.name (by omega), Eu, Sn, Option.bind_some, Ci, D2]
 refine Ao5 (fun hc => ?_) (fun hc => by rw [Asq hc])
 rw [Asr hc, Ln (b := .inr ()) d.list Bz (fun x k hk hx => by
  unfold Agg Age; rw [hx, W5]; cases Bz x <;> rfl), Option.bind_some]
 cases ha : d.list.all Bz with
 | false => rw [Wn _ _ ha]; rfl
 | true =>
  rw [Wm _ _ ha]
  simp only [cond_true, Sum.elim_inl]
  rw [Xa hl, Option.bind_some, Acn, hc.1.2, Option.bind_some, if_pos rfl]
  cases hm : Li (d.list.map fun e => e.o) d.text with
  | none => rfl
  | some u =>
   simp only [Afr, Bool.not_true, cond_false, Option.isSome_some, Bool.true_and]
   rw [A9m d hs.1 hc.1.1.2 hc.2]
   cases Dl (d.from_ + d.list.length) d.seen none <;> rfl
theorem Ih (d : DDoc) (h : D0 d) : Hn d = some (A8 d) := by
 have hs := h.2.2.2.2; have hnm := h.1
 unfold Qv at hnm
 unfold Hn
 simp only [Beq d.name (by omega), E9, Yx, Option.bind_some, Ci, D2]
 refine Ao5 (fun hc => ?_) (fun hc => by rw [Asq hc])
 rw [Asr hc, Ff (F := Aaf d) (e := fun (_ : List Int) => (Sum.inl () : Sum Unit Unit)) d.list (fun _ _ s => Bo s = true) (fun r _ s => bif (Cq r s).isSome then Sum.inl () else Sum.inr ()) (fun s _ => rfl) (fun x r k s hk hx hP => by
  unfold Aaf Ahb
  rw [hx, Qq, Option.bind_some, Aew, Yx, Cq]
  cases hf : C4 x.o s with
  | false => exact .inr rfl
  | true =>
   have ht := X6 hf
   cases he : Bz x with
   | false => exact .inr rfl
   | true =>
    simp only [if_true, Bool.not_true, cond_false, Option.bind_some, ht, Bool.and_self]
    exact .inl ⟨_, rfl, ht, rfl⟩) d.text hc.1.2, Option.bind_some]
 cases (Cq d.list d.text).isSome with
 | false => rfl
 | true =>
  simp only [cond_true, Sum.elim_inl, Bool.true_and]
  rw [Bfa d hs.1 hc.1.1.2 hc.2]
  cases Dl (d.from_ + d.list.length) d.seen none <;> rfl
theorem D6 {d : DDoc} (h : A8 d = true) : (0 <= d.from_ /\ d.from_ <= 999999000) /\ d.list.length <= 8 := by
 unfold A8 at h
 simp only [Bool.and_eq_true, decide_eq_true_eq] at h
 exact ⟨h.1.1.1.2, h.1.2⟩
theorem Tx {l : List DEntry} (h : Ef Gz l) (k : Nat) : Ef Gz (l.drop k) := ⟨by have := h.1; rw [List.length_drop]; omega, fun x hx => h.2 x (List.mem_of_mem_drop hx)⟩
theorem Oh {l : List DEntry} (h : Ef Gz l) : J1 l = some l := by
 unfold J1
 rw [Vv l h.1 (fun k s hk hs => by
  have h1 := h.1
  unfold Aw4 Aw3
  rw [At7 (h.2 _ (Cl hk)), Option.bind_some, Ae (by omega)])]
 rfl
noncomputable def Px (d : DDoc) (rev : Int) : List DEntry × Int := if A8 d then (if d.from_ + d.list.length < rev then ([], 2) else if rev < d.from_ then ([], 3) else (d.list.drop (rev - d.from_).toNat, 0)) else ([], 1)
theorem A8v (d : DDoc) (rev : Int) (h : D0 d) : Zs d rev = some (Px d rev) := by
 unfold Zs Up Dn Px
 rw [Ny d h, Option.bind_some]
 cases hd : A8 d with
 | false => rfl
 | true =>
  obtain ⟨h1, h2⟩ := D6 hd
  rw [Bool.not_true, An, Av (by omega) (by omega), Option.bind_some, if_pos rfl]
  by_cases g1 : d.from_ + d.list.length < rev
  ·rw [Ak g1, if_pos g1]; rfl
  ·rw [Ag g1, if_neg g1]
   by_cases g2 : rev < d.from_
   ·rw [Ak g2, if_pos g2]; rfl
   ·rw [Ag g2, if_neg g2, Option.bind_some, decide_eq_true rfl, Bool.not_true, An, Av (by omega) (by omega), Ae ⟨by omega, by omega⟩, List.take_length, W8 (Tx h.2.2.2.1 _)]; rfl
theorem Bef (d : DDoc) (rev : Int) (h : D0 d) : Aag d rev = some (Px d rev) := by
 unfold Aag C9 Px
 rw [Ih d h, Option.bind_some]
 cases hd : A8 d with
 | false => rfl
 | true =>
  obtain ⟨h1, h2⟩ := D6 hd
  rw [Bool.not_true, An, Av (by omega) (by omega), Option.bind_some, if_pos rfl]
  by_cases g1 : d.from_ + d.list.length < rev
  ·rw [Ak g1, if_pos g1]
  ·rw [Ag g1, if_neg g1]
   by_cases g2 : rev < d.from_
   ·rw [Ak g2, if_pos g2]
   ·rw [Ag g2, if_neg g2, Av (by omega) (by omega), Ae ⟨by omega, by omega⟩, List.take_length, Oh (Tx h.2.2.2.1 _)]; rfl
theorem F8 {d : DDoc} (h : A8 d = true) : (0 <= d.from_ /\ d.from_ <= 999999000) /\ Bo d.text = true /\ d.list.length <= 8 /\ d.list.all Bz = true /\ Dl (d.from_ + d.list.length) d.seen none = true := by
 unfold A8 at h
 simp only [Bool.and_eq_true, decide_eq_true_eq] at h
 refine ⟨h.1.1.1.2, h.1.1.2, h.1.2, ?_, h.2.2⟩
 cases ha : d.list.all Bz with
 | true => rfl
 | false => have := h.2.1; rw [Wn _ _ ha] at this; cases this
theorem Aut : ∀ (l : List DSeen) (q : Option Int) (H : Int), Dl H l q = true -> (0 <= q.getD 0 /\ q.getD 0 <= 8) -> (l.length : Int) + q.getD 0 <= 8
 | [], q, H, _, hq => by simp; omega
 | x :: l, q, H, h, hq => by
  unfold Dl at h
  simp only [Bool.and_eq_true, decide_eq_true_eq] at h
  have ih := Aut l (some x.client) H h.2 ⟨by simp only [Option.getD_some]; omega, by simp only [Option.getD_some]; omega⟩
  simp only [Option.getD_some] at ih
  have hlt : q.getD 0 < x.client := by
   cases q with
   | none => simp only [Option.getD_none]; omega
   | some c =>
    have := h.1.1.1.2
    unfold Oa at this
    simpa using this
  simp only [List.length_cons]; omega
theorem Qj {d : DDoc} (h : A8 d = true) : d.seen.length <= 8 := by
 have := Aut _ _ _ (F8 h).2.2.2.2 ⟨by simp, by simp⟩
 simp only [Option.getD_none] at this
 omega
theorem A0x {l : List Int} (h : (l.length : Int) <= 200) (h2 : l.all Cg = true) : Bo l = true := by
 unfold Bo
 rw [h2]; simp; omega
theorem Sp {n : Int} (h : -9223372036854775808 <= n) (k : n <= 9223372036854775807) : iw n = n := by
 unfold iw IntKind.wrap
 simp only [IntKind.signed, IntKind.bits]
 have h1 : (BitVec.ofInt 64 n).toInt = n := by
  rw [BitVec.toInt_ofInt, Int.bmod_def]; omega
 first | exact h1 | (simp; omega) | skip
theorem Ba6 (code : List UInt8) (h : Int) (h0 : 0 <= h) (h1 : h <= 1073741823) : ∃ y, Bj (Vc code) (h, 0) = some y /\ 0 <= y /\ y <= 1073741823 := by
 refine Ki (f := Vc code) (fun s => (0 <= s.1 /\ s.1 <= 1073741823) /\ 0 <= s.2 /\ s.2 <= 4000) (fun s => (4000 - s.2).toNat) (fun y => 0 <= y /\ y <= 1073741823) (fun s hP => ?_) (h, 0) ⟨⟨h0, h1⟩, by simp, by simp⟩
 obtain ⟨a, i⟩ := s
 obtain ⟨⟨g0, g1⟩, g2, g3⟩ := hP
 simp only at g0 g1 g2 g3 ⊢
 unfold Vc Ahz
 simp only
 by_cases hc : i < (code.length : Int) /\ i < 4000
 ·rw [Ak hc.1, Option.bind_some, decide_eq_true hc.2, Bh, Ae ⟨by omega, by omega⟩]
  have hb := Abc (iw (iw (iw (a * 43) + ((el code i.toNat).toNat : Int)) + 7)) 1073741823 (by decide)
  exact .inl ⟨_, rfl, ⟨hb, by simp only; rw [Sp (by omega) (by omega)]; omega, by simp only; rw [Sp (by omega) (by omega)]; omega⟩, by simp only; rw [Sp (by omega) (by omega)]; omega⟩
 ·have : (bif decide (i < (code.length : Int)) then some (decide (i < 4000)) else some false) = some false := by
   by_cases h1 : i < (code.length : Int)
   ·rw [Ak h1, decide_eq_false (fun h2 => hc ⟨h1, h2⟩)]
   ·rw [Ag h1]
  rw [this]
  exact .inr ⟨_, rfl, g0, g1⟩
def cur (c : DL01Cur) : Prop := 0 <= c.i /\ c.i <= c.b.length /\ c.b.length <= 1048580
theorem Aud (code : List UInt8) (hl : code.length <= 1048580) : ∃ c, Pg code = some c /\ cur c /\ 0 <= c.h /\ c.h <= 1073741823 := by
 unfold Pg
 rw [Sp (by omega) (by omega)]
 obtain ⟨y, h1, h2⟩ := Ba6 code (1621 + (code.length : Int)) (by omega) (by omega)
 rw [h1]
 exact ⟨_, rfl, ⟨by simp, by simp, hl⟩, h2⟩
theorem A0q {c : DL01Cur} (h : cur c) (n : Int) : cur ⟨c.b, c.i, n⟩ := h
theorem To (c : DL01Cur) (h : cur c) : ∃ n d, M4 c = some (n, d) /\ (0 <= n /\ n <= 255) /\ cur d := by
 unfold M4
 rw [Ae (by decide), Ae (by decide)]
 obtain ⟨h1, h2, h3⟩ := h
 by_cases hc : c.i < (c.b.length : Int)
 ·rw [Ak hc, Ae ⟨h1, hc⟩, Sp (n := c.i + 1) (by omega) (by omega)]
  exact ⟨_, _, rfl, Abc _ 255 (by decide), by simp only; omega, by simp only; omega, h3⟩
 ·rw [Ag hc]
  exact ⟨_, _, rfl, Abc _ 255 (by decide), h1, h2, h3⟩
theorem Kw (c : DL01Cur) (n : Int) (h : cur c) : ∃ m d, Bc c n = some (m, d) /\ (0 <= m /\ (m = 0 \/ m < n)) /\ cur d := by
 unfold Bc
 by_cases h0 : n <= 0
 ·rw [Ak h0]; exact ⟨_, _, rfl, by omega, h⟩
 rw [Ag h0]
 by_cases h1 : n <= 256
 ·obtain ⟨m, d, h2, h3, h4⟩ := To c h
  rw [Ak h1, h2, Option.bind_some, Ae ⟨h3.1, by omega⟩]
  have h5 := Int.emod_nonneg m (show n ≠ 0 by omega)
  have h6 := Int.emod_lt_of_pos m (show 0 < n by omega)
  exact ⟨_, _, rfl, ⟨h5, .inr h6⟩, h4⟩
 ·obtain ⟨m1, d1, a1, b1, c1⟩ := To c h
  obtain ⟨m2, d2, a2, b2, c2⟩ := To d1 c1
  obtain ⟨m3, d3, a3, b3, c3⟩ := To d2 c2
  obtain ⟨m4, d4, a4, b4, c4⟩ := To d3 c3
  rw [Ag h1, a1, Option.bind_some, a2, Option.bind_some, a3, Option.bind_some, a4, Option.bind_some, Av (by omega) (by omega), Av (by omega) (by omega), Av (by omega) (by omega), Av (by omega) (by omega), Av (by omega) (by omega), Av (by omega) (by omega), Ae ⟨by omega, by omega⟩]
  have h5 := Int.emod_nonneg (m1 * 16777216 + m2 * 65536 + m3 * 256 + m4) (show n ≠ 0 by omega)
  have h6 := Int.emod_lt_of_pos (m1 * 16777216 + m2 * 65536 + m3 * 256 + m4) (show 0 < n by omega)
  exact ⟨_, _, rfl, ⟨h5, .inr h6⟩, c4⟩
theorem Aey (c : DL01Cur) (n : Int) (h : cur c) : ∃ m d, Fc c n = some (m, d) /\ cur d := by
 unfold Fc
 obtain ⟨m, d, h1, _, h3⟩ := Kw c n h
 rw [h1]
 exact ⟨_, _, rfl, h3⟩
theorem Auh (c : DL01Cur) (l : List Int) (h : cur c) (hl : 0 < l.length) : ∃ m d, Rh c l = some (m, d) /\ m ∈ l /\ cur d := by
 unfold Rh
 obtain ⟨m, d, h1, h2, h3⟩ := Kw c l.length h
 rw [h1, Option.bind_some, Ae ⟨h2.1, by omega⟩]
 exact ⟨_, _, rfl, Cl (by omega), h3⟩
theorem Be0 (c : DL01Cur) (h : cur c) : ∃ m d, Vd c = some (m, d) /\ Cg m = true /\ cur d := by
 unfold Vd
 obtain ⟨b, d, h1, h2⟩ := Aey c 8 h
 rw [h1, Option.bind_some]
 simp only
 cases b with
 | true =>
  obtain ⟨m, e, h3, h4, h5⟩ := Auh d [0, 127, 128, 2047, 2048, 55295, 57344, 65535, 65536, 1114111, 10, 32] h2 (by decide)
  rw [Bh, h3, Option.bind_some]
  refine ⟨_, _, rfl, ?_, h5⟩
  have : ∀ x ∈ [0, 127, 128, 2047, 2048, 55295, 57344, 65535, 65536, 1114111, 10, 32], Cg x = true := by decide
  exact this m h4
 | false =>
  obtain ⟨m, e, h3, h4, h5⟩ := Kw d 6 h2
  rw [An, h3, Option.bind_some, Av (by omega) (by omega)]
  refine ⟨_, _, rfl, ?_, h5⟩
  unfold Cg
  simp only [decide_eq_true_eq]; omega
theorem Auj (c : DL01Cur) (most : Int) (h : cur c) (h0 : 0 <= most) (h1 : most <= 100000) : ∃ l d, Fv c most = some (l, d) /\ (l.length : Int) <= most /\ l.all Cg = true /\ cur d := by
 unfold Fv
 obtain ⟨m, e, h2, h3, h4⟩ := Kw c (most + 1) h
 rw [Av (by omega) (by omega), h2, Option.bind_some]
 obtain ⟨y, h5, h6, h7, h8⟩ := Ki (f := Aar) (fun s => 0 <= s.2.1 /\ (s.1.length : Int) + s.2.1 <= most /\ s.1.all Cg = true /\ cur ⟨s.2.2.1, s.2.2.2.1, s.2.2.2.2⟩) (fun s => s.2.1.toNat) (fun y => (y.1.length : Int) <= most /\ y.1.all Cg = true /\ cur ⟨y.2.1, y.2.2.1, y.2.2.2⟩) (fun s hP => by
  obtain ⟨l, n, b, i, k⟩ := s
  obtain ⟨g1, g2, g3, g4⟩ := hP
  simp only at g1 g2 g3 g4 ⊢
  unfold Aar Ah0
  simp only
  by_cases hn : 0 < n
  ·obtain ⟨x, d, k1, k2, k3⟩ := Be0 _ g4
   rw [Ak hn, k1, Option.bind_some, Ae (by omega), Av (by omega) (by omega)]
   refine .inl ⟨_, rfl, ⟨by simp only; omega, by simp; omega, ?_, k3⟩, by simp only; omega⟩
   simp only [List.all_append, g3, List.all_cons, k2, List.all_nil]; rfl
  ·rw [Ag hn]
   exact .inr ⟨_, rfl, by simp only; omega, g3, g4⟩) ([], m, e.b, e.i, e.h) ⟨h3.1, by simp only [List.length_nil]; omega, rfl, h4⟩
 rw [h5]
 exact ⟨_, _, rfl, h6, h7, h8⟩
def DrI (N : Int) (s : List DPart × Int × Int × List UInt8 × Int × Int) : Prop := cur ⟨s.2.2.2.1, s.2.2.2.2.1, s.2.2.2.2.2⟩ /\ (0 <= s.2.1 /\ s.2.1 <= 200) /\ 0 <= s.2.2.1 /\ (∀ p ∈ s.1, Au p = true) /\ s.1.length <= 40 /\ Be s.1 + s.2.1 = N /\ Bn s.1 + s.2.2.1 = 12
def DrO (N : Int) (y : List DPart × List UInt8 × Int × Int) : Prop := cur ⟨y.2.1, y.2.2.1, y.2.2.2⟩ /\ (∀ p ∈ y.1, Au p = true) /\ y.1.length <= 42 /\ Be y.1 = N /\ Bn y.1 <= 12
theorem Aa8 (o : List DPart) (p : DPart) : Be (o ++ [p]) = Be o + Du p := by
 have : Be (o ++ [p]) = Be o + Be [p] := Mq _ _ _
 rw [this]; show _ + (Du p + 0) = _; omega
theorem Aba (o : List DPart) (p : DPart) : Bn (o ++ [p]) = Bn o + Cc p := by
 have : Bn (o ++ [p]) = Bn o + Bn [p] := Mq _ _ _
 rw [this]; show _ + (Cc p + 0) = _; omega
theorem Aa9 {o : List DPart} {p : DPart} (h : ∀ q ∈ o, Au q = true) (hp : Au p = true) : ∀ q ∈ o ++ [p], Au q = true := fun q hq => by
 rcases List.mem_append.1 hq with hq | hq
 ·exact h q hq
 ·rw [List.mem_singleton.1 hq]; exact hp
theorem R9 {N : Int} {o : List DPart} {p : DPart} {left room : Int} {b : List UInt8} {i h : Int} (ho : ∀ q ∈ o, Au q = true) (hl : o.length <= 40) (hp : Au p = true) (h0 : 0 <= left) (h1 : left <= 200) (h2 : 0 <= room) (e1 : Be o + Du p + left = N) (e2 : Bn o + Cc p + room = 12) (hc : cur ⟨b, i, h⟩) :
  (∃ s', (xg (o.length < 1099511627776) <| bif decide ((40 : Int) < ((o ++ [p]).length : Int)) then (xg ((o ++ [p]).length < 1099511627776) <| some (Lr.out ((o ++ [p]) ++ [(⟨1, left, []⟩ : DPart)], b, i, h))) else (some (Lr.go (o ++ [p], left, room, b, i, h))) : Option (Lr (List DPart × Int × Int × List UInt8 × Int × Int) (List DPart × List UInt8 × Int × Int))) = some (.go s') /\ DrI N s' /\ 41 - s'.1.length < 41 - o.length) \/
  ∃ y, (xg (o.length < 1099511627776) <| bif decide ((40 : Int) < ((o ++ [p]).length : Int)) then (xg ((o ++ [p]).length < 1099511627776) <| some (Lr.out ((o ++ [p]) ++ [(⟨1, left, []⟩ : DPart)], b, i, h))) else (some (Lr.go (o ++ [p], left, room, b, i, h))) : Option (Lr (List DPart × Int × Int × List UInt8 × Int × Int) (List DPart × List UInt8 × Int × Int))) = some (.out y) /\ DrO N y := by
 have hk : Au ⟨1, left, []⟩ = true := by unfold Au; simp [h0, h1]
 have kf : Du ⟨1, left, []⟩ = left := by simp [Du, Ch, Co]
 have kp : Cc ⟨1, left, []⟩ = 0 := by simp [Cc]
 have e : (o ++ [p]).length = o.length + 1 := by simp
 rw [Ae (by omega)]
 by_cases hc2 : (40 : Int) < ((o ++ [p]).length : Int)
 ·rw [Ak hc2, Ae (by omega)]
  refine .inr ⟨_, rfl, hc, Aa9 (Aa9 ho hp) hk, ?_, ?_, ?_⟩
  ·simp only [List.length_append, List.length_singleton]; omega
  ·simp only; rw [Aa8, Aa8, kf]; omega
  ·simp only; rw [Aba, Aba, kp]; omega
 ·rw [Ag hc2]
  refine .inl ⟨_, rfl, ⟨hc, ⟨h0, h1⟩, h2, Aa9 ho hp, ?_, ?_, ?_⟩, ?_⟩
  ·simp only; omega
  ·simp only; rw [Aa8]; omega
  ·simp only; rw [Aba]; omega
  ·simp only; omega
theorem Bee (c : DL01Cur) (N : Int) (h : cur c) (h0 : 0 <= N) (h1 : N <= 200) : ∃ o d, Jy c N = some (o, d) /\ (∀ p ∈ o, Au p = true) /\ o.length <= 42 /\ Be o = N /\ Bn o <= 12 /\ cur d := by
 unfold Jy
 obtain ⟨y, g1, g2⟩ := Ki (f := Aat) (DrI N) (fun s => 41 - s.1.length) (DrO N) (fun s hP => by
  obtain ⟨o, left, room, b, i, k⟩ := s
  obtain ⟨p1, p2, p3, p4, p5, p6, p7⟩ := hP
  simp only at p1 p2 p3 p4 p5 p6 p7 ⊢
  unfold Aat Ah1
  simp only
  obtain ⟨t, d, q1, q2⟩ : ∃ (t : Bool) (d : DL01Cur), (bif decide ((0 : Int) < left) then (some (true, b, i, k)) else (Option.bind (Fc (⟨b, i, k⟩ : DL01Cur) 3) fun r411 => some (r411.1, r411.2.b, r411.2.i, r411.2.h))) = some (t, d.b, d.i, d.h) /\ cur d /\ (t = false -> left = 0) := by
   by_cases hl : 0 < left
   ·rw [Ak hl]; exact ⟨true, ⟨b, i, k⟩, rfl, p1, fun h => by cases h⟩
   ·obtain ⟨t, d, r1, r2⟩ := Aey ⟨b, i, k⟩ 3 p1
    rw [Ag hl, r1]; exact ⟨t, d, rfl, r2, fun _ => by omega⟩
  rw [q1, Option.bind_some]
  simp only
  cases t with
  | false =>
   rw [An]
   have := q2.2 rfl
   exact .inr ⟨_, rfl, q2.1, p4, by simp only; omega, by simp only; omega, by simp only; omega⟩
  | true =>
   rw [Bh]
   obtain ⟨m, e, r1, r2, r3⟩ := Kw d 4 q2.1
   rw [show Bc (⟨d.b, d.i, d.h⟩ : DL01Cur) 4 = some (m, e) from r1, Option.bind_some]
   simp only
   by_cases m0 : m = 0
   ·obtain ⟨l, f, u1, u2, u3, u4⟩ := Auj e 3 r3 (by omega) (by omega)
    have pn : 0 <= Bn o := Ot fun x hx => (Rv (p4 x hx)).2.1.1
    rw [Ak m0, u1, Option.bind_some]
    simp only
    by_cases hr : room < (l.length : Int)
    ·rw [Ak hr, Av (by omega) (by omega)]
     exact R9 p4 p5 (by unfold Au; simp) p2.1 p2.2 (by omega) (by simp [Du, Ch, Co]; omega) (by simp [Cc]; omega) u4
    ·rw [Ag hr, Av (by omega) (by omega)]
     exact R9 p4 p5 (by unfold Au; simp [u3]; omega) p2.1 p2.2 (by omega) (by simp [Du, Ch, Co]; omega) (by simp [Cc]; omega) u4
   ·rw [Ag m0]
    by_cases m1 : m = 1
    ·obtain ⟨n, f, u1, u2, u3⟩ := Kw e (left + 1) r3
     rw [Ak m1, Av (by omega) (by omega), u1, Option.bind_some]
     simp only
     by_cases hn : (4 : Int) < n
     ·rw [Ak hn, Av (by omega) (by omega)]
      exact R9 p4 p5 (by unfold Au; simp) (by omega) (by omega) (by omega) (by simp [Du, Ch, Co]; omega) (by simp [Cc]; omega) u3
     ·rw [Ag hn, Av (by omega) (by omega)]
      exact R9 p4 p5 (by unfold Au; simp; omega) (by omega) (by omega) (by omega) (by simp [Du, Ch, Co]; omega) (by simp [Cc]; omega) u3
    ·obtain ⟨n, f, u1, u2, u3⟩ := Kw e (left + 1) r3
     rw [Ag m1, Av (by omega) (by omega), u1, Option.bind_some]
     simp only
     rw [Av (by omega) (by omega)]
     exact R9 p4 p5 (by unfold Au; simp; omega) (by omega) (by omega) (by omega) (by simp [Du, Ch, Co]; omega) (by simp [Cc]; omega) u3) ([], N, 12, c.b, c.i, c.h) ⟨h, ⟨h0, by simp only; omega⟩, by simp, fun _ hq => (by cases hq), by simp, by show Be [] + N = N; show 0 + N = N; omega, by show Bn [] + 12 = 12; rfl⟩
 obtain ⟨z1, z2, z3, z4, z5⟩ := g2
 rw [g1]
 exact ⟨_, _, rfl, z2, z3, z4, z5, z1⟩
def Dk (l : List DEntry) (t : List Int) : List Int := l.foldl (fun t e => Cu e.o t) t
theorem Ab0 : ∀ (a b : List DEntry) (t : List Int), Cq (a ++ b) t = (Cq a t).bind (Cq b)
 | [], b, t => rfl
 | e :: a, b, t => by
  rw [List.cons_append, Cq, Cq]
  split
  ·exact Ab0 a b _
  ·rfl
theorem Wo : ∀ {l : List DEntry} {t u : List Int}, Cq l t = some u -> u = Dk l t
 | [], t, u, h => by cases h; rfl
 | e :: l, t, u, h => by
  rw [Cq] at h
  split at h
  ·exact Wo (l := l) (t := Cu e.o t) h
  ·cases h
theorem Apo {l : List DEntry} {t : List Int} (h : (Cq l t).isSome = true) : Cq l t = some (Dk l t) := by
 obtain ⟨u, hu⟩ := Option.isSome_iff_exists.1 h
 rw [hu, <- Wo hu]
theorem Sh {l : List DEntry} {t : List Int} (h : (Cq l t).isSome = true) (k : Nat) : Cq (l.take k) t = some (Dk (l.take k) t) /\ Cq (l.drop k) (Dk (l.take k) t) = some (Dk l t) := by
 have h1 : Cq (l.take k ++ l.drop k) t = some (Dk l t) := by rw [List.take_append_drop]; exact Apo h
 rw [Ab0] at h1
 cases hc : Cq (l.take k) t with
 | none => rw [hc] at h1; cases h1
 | some u => rw [hc] at h1; obtain rfl := Wo hc; exact ⟨rfl, h1⟩
theorem App : ∀ {l : List DEntry} {t u : List Int}, Cq l t = some u -> Bo t = true -> Bo u = true
 | [], t, u, h, ht => by cases h; exact ht
 | e :: l, t, u, h, ht => by
  rw [Cq] at h
  split at h
  ·rename_i hc
   simp only [Bool.and_eq_true] at hc
   exact App (l := l) (t := Cu e.o t) h (X6 hc.1)
  ·cases h
theorem Qk {d : DDoc} (h : A8 d = true) : (Cq d.list d.text).isSome = true := by
 unfold A8 at h
 simp only [Bool.and_eq_true] at h
 exact h.2.1
theorem S1 {d : DDoc} (h : A8 d = true) : C5 d.name = true := by
 unfold A8 at h
 simp only [Bool.and_eq_true] at h
 exact h.1.1.1.1
theorem Adk {d : DDoc} (h0 : C5 d.name = true) (h1 : 0 <= d.from_ /\ d.from_ <= 999999000) (h2 : Bo d.text = true) (h3 : d.list.length <= 8) (h4 : (Cq d.list d.text).isSome = true) (h5 : Dl (d.from_ + d.list.length) d.seen none = true) : A8 d = true := by
 unfold A8
 rw [h0, decide_eq_true h1, h2, decide_eq_true h3, h4, h5]; rfl
theorem Acl {d : DDoc} (h : A8 d = true) (k : Nat) : Bo (Dk (d.list.take k) d.text) = true := App (Sh (Qk h) k).1 (F8 h).2.1
theorem Kx {d : DDoc} (h : 0 <= d.from_ /\ d.from_ <= 999999000) (h2 : d.list.length <= 9) : C9 d = some (d.from_ + d.list.length) := by unfold C9; rw [Av (by omega) (by omega)]
theorem P7 {d : DDoc} (h : 0 <= d.from_ /\ d.from_ <= 999999000) (h2 : d.list.length <= 9) : Dn d = some (d.from_ + d.list.length) := by unfold Dn; rw [Av (by omega) (by omega)]
theorem Yw {d : DDoc} (h : D0 d) (hk : A8 d = true) (rev : Int) : Lb d rev = some (if d.from_ <= rev /\ rev <= d.from_ + d.list.length then (Dk (d.list.take (rev - d.from_).toNat) d.text, true) else ([], false)) := by
 obtain ⟨h1, h2⟩ := D6 hk
 have htx := Gv (F8 hk).2.1
 have hf := (Sh (Qk hk) (rev - d.from_).toNat).1
 unfold Lb
 rw [Ih d h, Option.bind_some, hk, Bool.not_true, An, Kx h1 (by omega), Option.bind_some, E9, Option.bind_some, Option.bind_some]
 by_cases hc : d.from_ <= rev /\ rev <= d.from_ + d.list.length
 ·rw [decide_eq_true hc, Bool.not_true, An, Ae (by omega), Av (by omega) (by omega), Ae ⟨by omega, by omega⟩, if_pos hc, List.drop_zero, List.nil_append]
  rw [Kc (F := Ahy d rev) (e := fun (s : List Int) => s) (d.list.take (rev - d.from_).toNat) (fun r _ s => (Cq r s).isSome = true) (fun s e => Cu e.o s) (fun x r k s hk' hx hP => by
   rw [Cq] at hP
   unfold Ahy Awz
   rw [List.drop_zero, hx, Qq]
   cases hq : C4 x.o s && Bz x with
   | false => rw [hq] at hP; cases hP
   | true =>
    rw [hq, if_pos rfl] at hP
    simp only [Bool.and_eq_true] at hq
    rw [hq.1, if_pos rfl, Option.bind_some]
    exact ⟨rfl, hP⟩) d.text (by rw [hf]; rfl)]
  rfl
 ·rw [decide_eq_false hc, Bool.not_false, Bh, if_neg hc]
theorem Yt {d : DDoc} (h : D0 d) (hk : A8 d = true) : Q8 d = some (Dk d.list d.text) := by
 obtain ⟨h1, h2⟩ := D6 hk
 unfold Q8
 rw [Kx h1 (by omega), Option.bind_some, Yw h hk, if_pos (by omega), Option.bind_some, show (d.from_ + (d.list.length : Int) - d.from_).toNat = d.list.length by omega, List.take_length]
theorem K0 (H : Int) : ∀ (l : List DSeen) (p : Option Int), Dl H l p = true ↔ (∀ s ∈ l, (1 <= s.client /\ s.client <= 8) /\ (1 <= s.seq /\ s.seq <= 1000000000) /\ 1 <= s.rev /\ s.rev <= H) /\ List.Pairwise (fun a b => a.client < b.client) l /\ ∀ q, p = some q -> ∀ s ∈ l, q < s.client
 | [], p => by simp [Dl]
 | x :: l, p => by
  unfold Dl
  simp only [Bool.and_eq_true, decide_eq_true_eq, K0 H l (some x.client), List.forall_mem_cons, List.pairwise_cons, Option.some.injEq, forall_eq']
  constructor
  ·rintro ⟨⟨⟨⟨a1, a2⟩, a3⟩, a4⟩, b1, b2, b3⟩
   refine ⟨⟨⟨a1, a3, a4⟩, b1⟩, ⟨b3, b2⟩, fun q hq => ?_⟩
   subst hq
   have a2' : q < x.client := by simpa [Oa] using a2
   exact ⟨a2', fun s hs => by have := b3 s hs; omega⟩
  ·rintro ⟨⟨⟨a1, a3, a4⟩, b1⟩, ⟨b3, b2⟩, h⟩
   refine ⟨⟨⟨⟨a1, ?_⟩, a3⟩, a4⟩, b1, b2, b3⟩
   cases p with
   | none => rfl
   | some q => exact decide_eq_true (h q rfl).1
theorem Bez (d : DDoc) (c : Int) : ∃ s b, Jv d c = some (s, b) /\ (s ∈ d.seen \/ s = ⟨0, 0, 0⟩) := by
 unfold Jv
 obtain ⟨y, h1, h2⟩ := Ni (F := U9 c d) (e := fun _ => (Sum.inl () : Sum Unit (Bool × Int × Int × Int))) d.seen (fun _ _ _ => True) (fun _ _ _ y => ∀ z, y = Sum.inr z -> (⟨z.2.1, z.2.2.1, z.2.2.2⟩ : DSeen) ∈ d.seen) (fun s _ z hz => by cases hz) (fun x r k s hk hx _ => by
  unfold U9 Aaq
  rw [hx]
  by_cases hc : x.client = c
  ·rw [Ak hc]
   exact .inr ⟨_, rfl, fun z hz => by cases hz; rw [<- hx]; exact Cl hk⟩
  ·rw [Ag hc]
   exact .inl ⟨(), rfl, trivial, fun y hy => hy⟩) () trivial
 rw [h1, Option.bind_some]
 cases y with
 | inl u => exact ⟨_, _, rfl, .inr rfl⟩
 | inr z => exact ⟨_, _, rfl, .inl (h2 z rfl)⟩
structure InvS (H c : Int) (r acc : List DSeen) (done : Bool) : Prop where
 ra : ∀ s ∈ acc, (1 <= s.client /\ s.client <= 8) /\ (1 <= s.seq /\ s.seq <= 1000000000) /\ 1 <= s.rev /\ s.rev <= H
 rr : ∀ s ∈ r, (1 <= s.client /\ s.client <= 8) /\ (1 <= s.seq /\ s.seq <= 1000000000) /\ 1 <= s.rev /\ s.rev <= H
 pa : List.Pairwise (fun a b => a.client < b.client) acc
 pr : List.Pairwise (fun a b => a.client < b.client) r
 ar : ∀ a ∈ acc, ∀ b ∈ r, a.client < b.client
 nd : done = false -> ∀ a ∈ acc, a.client < c
 dn : done = true -> ∀ b ∈ r, c < b.client
 ln : acc.length + r.length <= 8 + (if done then 1 else 0)
theorem Td {l : List DSeen} {x : DSeen} (h : List.Pairwise (fun a b => a.client < b.client) l) (k : ∀ a ∈ l, a.client < x.client) : List.Pairwise (fun a b : DSeen => a.client < b.client) (l ++ [x]) := by
 rw [List.pairwise_append]
 exact ⟨h, List.pairwise_singleton _ _, fun a ha b hb => by rw [List.mem_singleton.1 hb]; exact k a ha⟩
theorem Jc {l : List DSeen} {x : DSeen} {p : DSeen -> Prop} (h : ∀ a ∈ l, p a) (k : p x) : ∀ a ∈ l ++ [x], p a := fun a ha => by
 rcases List.mem_append.1 ha with ha | ha
 ·exact h a ha
 ·rw [List.mem_singleton.1 ha]; exact k
theorem Bfb {c seq rv H : Int} (d : DDoc) (hc : 1 <= c /\ c <= 8) (hq : 1 <= seq /\ seq <= 1000000000) (hr : 1 <= rv /\ rv <= H) (hs : Dl H d.seen none = true) (hl : d.seen.length <= 8) :
  ∃ y, Aq (Pe c seq rv d) (fun (s : List DSeen × Bool) => ((s.1, s.2) : List DSeen × Bool)) d.seen.length 0 ([], false) = some y /\ InvS H c [] y.1 y.2 := by
 obtain ⟨h1, h2, _⟩ := (K0 H d.seen none).1 hs
 refine Ni (F := Pe c seq rv d) (e := fun (s : List DSeen × Bool) => ((s.1, s.2) : List DSeen × Bool)) d.seen (fun r _ s => InvS H c r s.1 s.2) (fun _ _ _ y => InvS H c [] y.1 y.2) (fun s hs => hs) (fun x r k s hk hx hP => ?_) ([], false) ⟨by simp, h1, by simp, h2, by simp, by simp, by simp, by simpa using hl⟩
 obtain ⟨acc, done⟩ := s
 obtain ⟨ra, rr, pa, pr, ar, nd, dn, ln⟩ := hP
 simp only at ra pa ar nd dn ln
 have rx := rr x (by simp)
 have rr' := fun s hs => rr s (List.mem_cons_of_mem _ hs)
 obtain ⟨px, pr'⟩ := List.pairwise_cons.1 pr
 have ax := fun a ha => ar a ha x (by simp)
 have ar' := fun a ha b hb => ar a ha b (List.mem_cons_of_mem x hb)
 simp only [List.length_cons] at ln
 unfold Pe Ahx
 rw [hx]
 simp only
 by_cases e : x.client = c
 ·rw [Ak e]
  refine .inl ⟨_, rfl, ⟨ra, rr', pa, pr', ar', nd, fun h b hb => dn h b (List.mem_cons_of_mem _ hb), by simp only; omega⟩, fun y hy => hy⟩
 ·rw [Ag e]
  cases done with
  | true =>
   have ln' : acc.length + (r.length + 1) <= 9 := by simpa using ln
   rw [Bool.not_true, An, Option.bind_some, An, Ae (by omega)]
   refine .inl ⟨_, rfl, ⟨Jc ra rx, rr', Td pa ax, pr', fun a ha b hb => ?_, fun h => (by cases h), fun h b hb => dn h b (List.mem_cons_of_mem _ hb), ?_⟩, fun y hy => hy⟩
   ·exact Jc (p := fun a => a.client < b.client) (fun a ha => ar' a ha b hb) (px b hb) a ha
   ·simp; omega
  | false =>
   have ln' : acc.length + (r.length + 1) <= 8 := by simpa using ln
   rw [Bool.not_false, Bh, Option.bind_some]
   by_cases g : c < x.client
   ·rw [Ak g, Ae (by omega), Ae (by simp; omega)]
    have nd' := nd rfl
    have m1 := Jc (x := ⟨c, seq, rv⟩) (p := fun s => (1 <= s.client /\ s.client <= 8) /\ (1 <= s.seq /\ s.seq <= 1000000000) /\ 1 <= s.rev /\ s.rev <= H) ra ⟨hc, hq, hr⟩
    have m2 := Jc (x := ⟨c, seq, rv⟩) (p := fun s => s.client < x.client) ax g
    refine .inl ⟨_, rfl, ⟨Jc m1 rx, rr', Td (Td pa nd') m2, pr', fun a ha b hb => ?_, fun h => (by cases h), fun _ b hb => ?_, ?_⟩, fun y hy => hy⟩
    ·have hb' := px b hb
     exact Jc (p := fun a => a.client < b.client) (fun a ha => by have := m2 a ha; omega) hb' a ha
    ·have := px b hb; omega
    ·simp; omega
   ·rw [Ag g, Ae (by omega)]
    refine .inl ⟨_, rfl, ⟨Jc ra rx, rr', Td pa ax, pr', fun a ha b hb => ?_, fun _ => Jc (p := fun a => a.client < c) (nd rfl) (by omega), fun h => (by cases h), ?_⟩, fun y hy => hy⟩
    ·exact Jc (p := fun a => a.client < b.client) (fun a ha => ar' a ha b hb) (px b hb) a ha
    ·simp; omega
theorem Bac {a b : List DPart} (h : (Hy a b).2.2 = true) : H9 (F5 a b) = true := by
 have g := Ac9 h
 obtain ⟨j, hl⟩ := J2 g.1 g.2.1 g.2.2.1
 have y := (Yl j hl).1
 unfold H9
 rw [g.2.2.2.2.1]
 have : F5 a b = Bw (F5 a b) := by unfold F5; exact (Asm (S6 y)).symm
 rw [decide_eq_true this]; rfl
theorem Arn {o : List DPart} (h : A5 o = true) : H9 (Bw o) = true := by unfold H9; rw [Asv h, decide_eq_true (Asm (S3 h)).symm]; rfl
def Fk : List (List DPart) -> List DPart -> Option (List DPart)
 | [], v => some v
 | o :: r, v => if (Hy o v).2.2 then Fk r (Hy o v).2.1 else none
theorem Aeb : ∀ {l : List (List DPart)} {v u : List DPart}, Fk l v = some u -> H9 v = true -> H9 u = true
 | [], v, u, h, hv => by cases h; exact hv
 | o :: r, v, u, h, hv => by
  rw [Fk] at h
  split at h
  ·rename_i hc
   refine Aeb h ?_
   rw [(Ac9 hc).2.2.2.2.2]; exact Bac hc
  ·cases h
def N8 (l : List (List DPart)) (b : List DPart) : List DPart × Bool := if A5 b then (match Fk l (Bw b) with | some v => (v, true) | none => ([], false)) else ([], false)
theorem Aug (l : List (List DPart)) (b : List DPart) (hl : l.length <= 1000) : Aam l b = some (N8 l b) := by
 unfold Aam Vl N8
 rw [Ky, Option.bind_some]
 cases ho : A5 b with
 | false => rfl
 | true =>
  rw [Bool.not_true, An, Aue, ho, if_pos rfl, Option.bind_some, if_pos rfl]
  obtain ⟨y, h1, h2⟩ := Ni (F := Aau l) (e := fun (s : List (List DPart) × List DPart) => (Sum.inl (s.1, s.2) : Sum (List (List DPart) × List DPart) Unit)) l (fun r k s => s.1.length <= k) (fun r _ s y => match Fk r s.2 with | some v => ∃ z, y = Sum.inl (z, v) | none => y = Sum.inr ()) (fun s _ => ⟨_, rfl⟩) (fun x r k s hk hx hP => by
   unfold Aau Ah6
   rw [hx, Be5, Option.bind_some]
   simp only [Fk]
   cases hc : (Hy x s.2).2.2 with
   | false => exact .inr ⟨_, rfl, rfl⟩
   | true => rw [Bool.not_true, An, Ae (by omega)]; exact .inl ⟨_, rfl, by simp; omega, fun y hy => hy⟩) ([], Bw b) (by simp)
  rw [h1, Option.bind_some]
  simp only at h2
  cases hp : Fk l (Bw b) with
  | some v => rw [hp] at h2; obtain ⟨z, rfl⟩ := h2; rfl
  | none => rw [hp] at h2; subst h2; rfl
theorem A1o (l : List DEntry) : ∀ s : List (List DPart), l.foldl (fun s e => s ++ [e.o]) s = s ++ l.map fun e => e.o := by
 induction l with
 | nil => intro s; simp
 | cons x l ih => intro s; rw [List.foldl_cons, ih]; simp
theorem Auf {d : DDoc} (h : D0 d) (hk : A8 d = true) (rev : Int) : Aal d rev = some (if d.from_ <= rev /\ rev <= d.from_ + d.list.length then ((d.list.drop (rev - d.from_).toNat).map (fun e => e.o), true) else ([], false)) := by
 obtain ⟨h1, h2⟩ := D6 hk
 have hsd := Tx h.2.2.2.1 (rev - d.from_).toNat
 have hld : (d.list.drop (rev - d.from_).toNat).length <= 8 := by rw [List.length_drop]; omega
 unfold Aal
 rw [Ih d h, Option.bind_some, hk, Bool.not_true, An, Kx h1 (by omega), Option.bind_some, E9, Option.bind_some, Option.bind_some]
 by_cases hc : d.from_ <= rev /\ rev <= d.from_ + d.list.length
 ·rw [decide_eq_true hc, Bool.not_true, An, Av (by omega) (by omega), Ae ⟨by omega, by omega⟩, if_pos hc, List.take_length]
  rw [Kc (F := Ahq d rev) (e := fun (s : List (List DPart)) => s) (d.list.drop (rev - d.from_).toNat) (fun r k s => s.length <= k) (fun s e => s ++ [e.o]) (fun x r k s hk' hx hP => by
   unfold Ahq Awy
   rw [List.take_length, Aun (hsd.2 _ (Cl hk')).2.2, Option.bind_some, Ae (by omega), hx]
   exact ⟨rfl, by simp; omega⟩) [] (by simp), A1o]
  rfl
 ·rw [decide_eq_false hc, Bool.not_false, Bh, if_neg hc]
theorem Bev {d : DDoc} (h : D0 d) (hk : A8 d = true) (base : Int) (o : List DPart) : ∃ x c, Rf d base o = some (x, c) /\ (c = 0 -> H9 x = true /\ C4 x (Dk d.list d.text) = true) := by
 obtain ⟨h1, h2⟩ := D6 hk
 unfold Rf
 rw [Ih d h, Option.bind_some, hk, Bool.not_true, An, Ky, Option.bind_some, Option.bind_some]
 cases ho : A5 o with
 | false => exact ⟨_, _, rfl, fun h => absurd h (by decide)⟩
 | true =>
  rw [Bool.not_true, An, Kx h1 (by omega), Option.bind_some]
  by_cases g1 : d.from_ + (d.list.length : Int) < base
  ·rw [Ak g1]; exact ⟨_, _, rfl, fun h => absurd h (by decide)⟩
  ·rw [Ag g1]
   by_cases g2 : base < d.from_
   ·rw [Ak g2]; exact ⟨_, _, rfl, fun h => absurd h (by decide)⟩
   ·rw [Ag g2, Yw h hk, if_pos ⟨by omega, by omega⟩, Option.bind_some, Tr, Option.bind_some, A7]
    generalize decide ((if Cz o = true then Be o else 0) = (((Dk (d.list.take (base - d.from_).toNat) d.text, true).1.length : Nat) : Int)) = b
    cases b with
    | false => exact ⟨_, _, rfl, fun h => absurd h (by decide)⟩
    | true =>
     rw [Bh, Auf h hk, if_pos ⟨by omega, by omega⟩, Option.bind_some, Aug _ _ (by simp; omega), Option.bind_some]
     unfold N8
     rw [ho, if_pos rfl]
     cases hp : Fk ((d.list.drop (base - d.from_).toNat).map fun e => e.o) (Bw o) with
     | none => exact ⟨_, _, rfl, fun h => absurd h (by decide)⟩
     | some v =>
      simp only
      rw [Bool.not_true, An, Yt h hk, Option.bind_some, Qq, Option.bind_some]
      cases hf : C4 v (Dk d.list d.text) with
      | false => exact ⟨_, _, rfl, fun h => absurd h (by decide)⟩
      | true => exact ⟨_, _, rfl, fun _ => ⟨Aeb hp (Arn ho), hf⟩⟩
theorem Bbe {o : List DPart} (h : A5 o = true) : Ef Tw o := Au0 Bfv o (by have := Bbf h; omega)
theorem V9 {e : DEntry} (h : Bz e = true) : Gz e := by
 unfold Bz at h
 simp only [Bool.and_eq_true] at h
 exact ⟨trivial, trivial, Bbe (A94 h.2).1⟩
theorem Afc {d : DDoc} (h1 : d.name.size <= 1099511627776) (hk : A8 d = true) : D0 d := by
 have ha := F8 hk
 have ht := Gv ha.2.1
 have hs := Qj hk
 exact ⟨h1, trivial, ⟨by omega, fun _ _ => trivial⟩, ⟨by omega, fun e he => V9 (List.all_eq_true.1 ha.2.2.2.1 e he)⟩, ⟨by omega, fun _ _ => ⟨trivial, trivial, trivial⟩⟩⟩
theorem Tp {d : DDoc} (h : D0 d) (hk : A8 d = true) : Ph d = some d := by
 have ht := Gv (F8 hk).2.1
 have hs := Qj hk
 unfold Ph
 rw [Ae (by omega), Oh h.2.2.2.1, Option.bind_some, Ae (by omega)]
 rfl
theorem Au7 {d : DDoc} {e : DEntry} {S' : List DSeen} {rv : Int} (hk : A8 d = true) (he : Bz e = true) (hf : C4 e.o (Dk d.list d.text) = true) (hh : d.from_ + d.list.length < 999999000) (hS : Dl (d.from_ + d.list.length + 1) S' none = true) :
  ∃ d', (bif decide ((8 : Int) < ((d.list ++ [e]).length : Int)) then (xg (0 <= (0 : Int) /\ (0 : Int) < ((d.list ++ [e]).length : Int)) <| Option.bind (Hm ((el (d.list ++ [e]) 0).o) d.text) fun r420 => xg (0 <= (1 : Int) /\ (1 : Int) <= ((d.list ++ [e]).length : Int)) <| xg (Ac (d.from_ + 1)) <| some ((⟨d.name, d.from_ + 1, r420.1, ((d.list ++ [e]).take ((d.list ++ [e]).length)).drop 1, S'⟩ : DDoc), rv, (0 : Int))) else (some ((⟨d.name, d.from_, d.text, d.list ++ [e], S'⟩ : DDoc), rv, 0))) = some (d', rv, 0) /\ A8 d' = true /\ d'.name = d.name /\ d'.from_ + d'.list.length = d.from_ + d.list.length + 1 := by
 have ha := F8 hk
 have hn := S1 hk
 have hfold : (Cq (d.list ++ [e]) d.text).isSome = true := by
  rw [Ab0, Apo (Qk hk), Option.bind_some, Cq, hf, he]; rfl
 have hlen : ((d.list ++ [e]).length : Int) = d.list.length + 1 := by simp
 by_cases g : (8 : Int) < ((d.list ++ [e]).length : Int)
 ·rw [Ak g, Ae ⟨by omega, by omega⟩]
  cases hL : d.list ++ [e] with
  | nil => rw [hL] at hlen; simp at hlen; omega
  | cons e0 l =>
   rw [hL] at hfold hlen
   rw [Cq] at hfold
   cases hc : C4 e0.o d.text && Bz e0 with
   | false => rw [hc] at hfold; cases hfold
   | true =>
    rw [hc, if_pos rfl] at hfold
    simp only [Bool.and_eq_true] at hc
    simp only [List.length_cons] at hlen
    rw [show el (e0 :: l) 0 = e0 from rfl, Qq, if_pos hc.1, Option.bind_some, Ae ⟨by omega, by simp only [List.length_cons]; omega⟩, Av (by omega) (by omega), List.take_length]
    refine ⟨_, rfl, Adk hn ⟨by simp only; omega, by simp only; omega⟩ (X6 hc.1) (by simp only [List.drop_succ_cons, List.drop_zero]; omega) hfold ?_, rfl, by simp only [List.drop_succ_cons, List.drop_zero]; omega⟩
    simp only [List.drop_succ_cons, List.drop_zero]
    rw [show d.from_ + 1 + (l.length : Int) = d.from_ + d.list.length + 1 by omega]
    exact hS
 ·rw [Ag g]
  refine ⟨_, rfl, Adk hn ha.1 ha.2.1 (by simp only; omega) hfold ?_, rfl, by simp only; omega⟩
  simp only
  rw [hlen, show d.from_ + ((d.list.length : Int) + 1) = d.from_ + d.list.length + 1 by omega]
  exact hS
theorem A9z {H c : Int} {acc : List DSeen} (h : InvS H c [] acc true) : Dl H acc none = true := (K0 H acc none).2 ⟨h.ra, h.pa, fun q hq => by cases hq⟩
theorem A90 {H c seq rv : Int} {acc : List DSeen} (h : InvS H c [] acc false) (hc : 1 <= c /\ c <= 8) (hq : 1 <= seq /\ seq <= 1000000000) (hr : 1 <= rv /\ rv <= H) : Dl H (acc ++ [⟨c, seq, rv⟩]) none = true :=
 (K0 H _ none).2 ⟨Jc h.ra ⟨hc, hq, hr⟩, Td h.pa (h.nd rfl), fun q hq => by cases hq⟩
theorem Bfk {H H' : Int} (hH : H <= H') {l : List DSeen} (h : Dl H l none = true) : Dl H' l none = true := by
 obtain ⟨h1, h2, _⟩ := (K0 H l none).1 h
 exact (K0 H' l none).2 ⟨fun s hs => by have := h1 s hs; exact ⟨this.1, this.2.1, this.2.2.1, by omega⟩, h2, fun q hq => by cases hq⟩
theorem Be4 {d : DDoc} (h : D0 d) (hk : A8 d = true) (client seq base : Int) (o : List DPart) : ∃ d' r c, Rg d client seq base o = some (d', r, c) /\ (c = 0 -> A8 d' = true /\ d'.name = d.name /\ d'.from_ + d'.list.length <= d.from_ + d.list.length + 1) := by
 obtain ⟨h1, h2⟩ := D6 hk
 have ha := F8 hk
 unfold Rg
 rw [Ih d h, Option.bind_some, hk, Bool.not_true, An, E9, Option.bind_some, Option.bind_some]
 have bad : ∀ {X : Option (DDoc × Int × Int)} {c : Int}, c ≠ 0 -> X = some (⟨ByteArray.empty, 0, [], [], []⟩, 0, c) -> ∃ d' r c, X = some (d', r, c) /\ (c = 0 -> A8 d' = true /\ d'.name = d.name /\ d'.from_ + d'.list.length <= d.from_ + d.list.length + 1) := fun hc hX => ⟨_, _, _, hX, fun h => absurd h hc⟩
 by_cases c1 : 1 <= client /\ client <= 8
 ·rw [decide_eq_true c1, Bool.not_true, An, E9, Option.bind_some, Option.bind_some]
  by_cases c2 : 1 <= seq /\ seq <= 1000000000
  ·rw [decide_eq_true c2, Bool.not_true, An, Ky, Option.bind_some, Option.bind_some]
   cases ho : A5 o with
   | false => exact bad (by decide) rfl
   | true =>
    rw [Bool.not_true, An]
    obtain ⟨s, b, s1, s2⟩ := Bez d client
    rw [s1, Option.bind_some]
    have hsq : 0 <= s.seq /\ s.seq <= 1000000000 := by
     rcases s2 with s2 | rfl
     ·have := ((K0 _ _ _).1 ha.2.2.2.2).1 s s2; omega
     ·simp
    simp only
    have cc : (bif b then some (decide (s.seq = seq)) else some false) = some (b && decide (s.seq = seq)) := by cases b <;> rfl
    rw [cc, Option.bind_some]
    cases hb : (b && decide (s.seq = seq)) with
    | true => rw [Bh, Tp h hk, Option.bind_some]; exact ⟨_, _, _, rfl, fun _ => ⟨hk, rfl, by omega⟩⟩
    | false =>
     rw [An, Av (by omega) (by omega), A7]
     by_cases c3 : seq = s.seq + 1
     ·rw [Ak c3]
      obtain ⟨x, c, r1, r2⟩ := Bev h hk base o
      rw [r1, Option.bind_some]
      simp only
      rw [A7]
      by_cases c4 : c = 0
      ·rw [Ak c4, Kx h1 (by omega), Option.bind_some]
       obtain ⟨n1, n2⟩ := r2 c4
       by_cases c5 : (999999000 : Int) <= d.from_ + d.list.length
       ·rw [Ak c5]; exact bad (by decide) rfl
       ·rw [Ag c5, Tp h hk, Option.bind_some, Ae (by omega), Kx (d := ⟨d.name, d.from_, d.text, d.list ++ [(⟨client, seq, x⟩ : DEntry)], d.seen⟩) h1 (by simp; omega), Option.bind_some]
        have he : Bz ⟨client, seq, x⟩ = true := by unfold Bz; simp only; rw [decide_eq_true c1, decide_eq_true c2, n1]; rfl
        have hrv : d.from_ + (((d.list ++ [(⟨client, seq, x⟩ : DEntry)]).length : Nat) : Int) = d.from_ + d.list.length + 1 := by simp; omega
        simp only [hrv]
        obtain ⟨y, y1, y2⟩ := Bfb (c := client) (seq := seq) (rv := d.from_ + d.list.length + 1) (H := d.from_ + d.list.length + 1) d c1 c2 ⟨by omega, by omega⟩ (Bfk (by omega) ha.2.2.2.2) (Qj hk)
        rw [y1, Option.bind_some]
        obtain ⟨acc, done⟩ := y
        cases done with
        | true =>
         obtain ⟨d', t1, t2, t3, t4⟩ := Au7 (rv := d.from_ + d.list.length + 1) hk he n2 (by omega) (A9z y2)
         simp only [Bool.not_true, An]
         rw [t1]
         exact ⟨_, _, _, rfl, fun _ => ⟨t2, t3, by omega⟩⟩
        | false =>
         have hl := y2.ln
         simp only [List.length_nil, Bool.false_eq_true, if_false] at hl
         obtain ⟨d', t1, t2, t3, t4⟩ := Au7 (rv := d.from_ + d.list.length + 1) hk he n2 (by omega) (A90 (seq := seq) (rv := d.from_ + d.list.length + 1) y2 c1 c2 ⟨by omega, by omega⟩)
         simp only [Bool.not_false, Bh]
         rw [Ae (by omega), t1]
         exact ⟨_, _, _, rfl, fun _ => ⟨t2, t3, by omega⟩⟩
      ·rw [Ag c4]; exact bad c4 rfl
     ·rw [Ag c3]; exact bad (by decide) rfl
  ·rw [decide_eq_false c2, Bool.not_false, Bh, Option.bind_some, Bh]; exact bad (by decide) rfl
 ·rw [decide_eq_false c1, Bool.not_false, Bh, Option.bind_some, Bh, Option.bind_some, Bh]; exact bad (by decide) rfl
theorem Adi {s : ByteArray} (h0 : 1 <= s.size) (h1 : s.size <= 8) (hb : ∀ i, i < s.size -> 97 <= (Fs s i).toNat /\ (Fs s i).toNat <= 122) : C5 s = true := by
 have key : Gj s = some true := by
  unfold Gj
  obtain ⟨y, h2, h3⟩ := Ki (f := Mx s) (fun i => 0 <= i /\ i <= s.size) (fun i => ((s.size : Int) - i).toNat) (fun y => y = Sum.inl ()) (fun i hP => by
   unfold Mx Zy
   by_cases hi : i < (s.size : Int)
   ·obtain ⟨b1, b2⟩ := hb i.toNat (by omega)
    rw [Ak hi, Ae ⟨hP.1, hi⟩, Ae ⟨hP.1, hi⟩, Ag (by omega), Option.bind_some, Ag (by omega), Av (by omega) (by omega)]
    exact .inl ⟨_, rfl, ⟨by omega, by omega⟩, by omega⟩
   ·rw [Ag hi]; exact .inr ⟨_, rfl, rfl⟩) 0 ⟨by omega, by omega⟩
  rw [h2, Option.bind_some, h3, Sum.elim_inl, Eu, Option.bind_some, decide_eq_true (by omega)]
 unfold C5
 rw [key]; rfl
theorem Be3 (c : DL01Cur) (l : List ByteArray) (h : cur c) (hl : 0 < l.length) : ∃ m d, Aas c l = some (m, d) /\ m ∈ l /\ cur d := by
 unfold Aas
 obtain ⟨m, d, h1, h2, h3⟩ := Kw c (l.length : Int) h
 rw [h1, Option.bind_some, Ae ⟨h2.1, by simp only; omega⟩]
 exact ⟨_, _, rfl, Cl (by simp only; omega), h3⟩
theorem Bep (c : DL01Cur) (h : cur c) : ∃ s d, M7 c = some (s, d) /\ C5 s = true /\ s.size <= 8 /\ cur d := by
 unfold M7
 obtain ⟨m, d, h1, h2, h3⟩ := Be3 c [(⟨#[97]⟩ : ByteArray), (⟨#[98]⟩ : ByteArray), (⟨#[110, 111, 116, 101, 115]⟩ : ByteArray), (⟨#[116, 111, 100, 111]⟩ : ByteArray)] h (by simp)
 rw [h1, Option.bind_some]
 refine ⟨m, d, rfl, ?_, ?_, h3⟩
 ·simp only [List.mem_cons, List.not_mem_nil, or_false] at h2
  rcases h2 with rfl | rfl | rfl | rfl <;> exact Adi (by decide) (by decide) (by decide)
 ·simp only [List.mem_cons, List.not_mem_nil, or_false] at h2
  rcases h2 with rfl | rfl | rfl | rfl <;> decide
theorem At6 {name : ByteArray} (hn : C5 name = true) (hz : name.size <= 8) {t : List Int} (ht : Bo t = true) : Q7 name t = some (⟨name, 0, t, [], []⟩, true) /\ A8 ⟨name, 0, t, [], []⟩ = true := by
 have hl := Gv ht
 have hk : A8 ⟨name, 0, t, [], []⟩ = true := Adk hn ⟨by simp, by simp⟩ ht (by simp) rfl rfl
 refine ⟨?_, hk⟩
 unfold Q7
 rw [Ae (by omega), List.nil_append, Ih _ (Afc (by simp only; omega) hk), hk]
 rfl
section
section
variable {T σ ρ : Type} [Inhabited T]
def Cp (q : Option T -> T -> Bool) : Option T -> List T -> Bool
 | _, [] => true
 | p, x :: r => q p x && Cp q (some x) r
theorem V5 {F : Nat -> Unit -> Option (Lr Unit ρ)} {a b : ρ} (l : List T) (q : Option T -> T -> Bool) (hs : ∀ k x, k < l.length -> el l k = x -> F k () = some (bif q (if k = 0 then none else some (el l (k - 1))) x then .go () else .out b)) :
  Aq F (fun _ => a) l.length 0 () = some (bif Cp q none l then a else b) := by
 have h := Ff (F := F) (e := fun _ => a) l (fun _ _ _ => True) (fun r k _ => bif Cp q (if k = 0 then none else some (el l (k - 1))) r then a else b) (fun _ _ => rfl) (fun x r k s hk hx _ => by
  have h1 := hs k x hk hx
  have e1 : (if k + 1 = 0 then none else some (el l (k + 1 - 1))) = some x := by rw [if_neg (by omega), Nat.add_sub_cancel, hx]
  simp only [e1, Cp]
  cases hq : q (if k = 0 then none else some (el l (k - 1))) x with
  | true => exact .inl ⟨(), by rw [h1, hq]; rfl, trivial, by simp⟩
  | false => exact .inr (by rw [h1, hq]; simp)) () trivial
 simpa using h
omit [Inhabited T] in
theorem Aj6 {q : Option T -> T -> Bool} : ∀ {l : List T} {p : Option T}, Cp q p l = true -> ∀ x ∈ l, ∃ p, q p x = true
 | [], _, _, _, h => by cases h
 | y :: r, p, h, x, hx => by
  simp only [Cp, Bool.and_eq_true] at h
  rcases List.mem_cons.1 hx with rfl | hx
  ·exact ⟨p, h.1⟩
  ·exact Aj6 h.2 x hx
def Hg (g : T -> Bool) : Option T -> Bool
 | none => false
 | some p => g p
theorem Ye (l : List T) (g : T -> Bool) {k : Nat} (hl : l.length <= 1099511627776) (hk : k < l.length) :
  (bif decide ((0 : Int) < (k : Int)) then (xg (Ac ((k : Int) - 1)) <| xg (0 <= ((k : Int) - 1) /\ ((k : Int) - 1) < (l.length : Int)) <| some (g (el l (((k : Int) - 1).toNat)))) else (some false)) = some (Hg g (if k = 0 then none else some (el l (k - 1)))) := by
 cases k with
 | zero => rfl
 | succ k => rw [Ak (by omega), Av (by omega) (by omega), Ae ⟨by omega, by omega⟩, if_neg (by omega), show (((k + 1 : Nat) : Int) - 1).toNat = k + 1 - 1 by omega, Hg]
def Cf (p : T -> Bool) (l : List T) : Int := if l.any p then (l.findIdx p : Int) else -1
theorem V7 {F : Nat -> σ -> Option (Lr σ ρ)} {e : σ -> ρ} (l : List T) (p : T -> Bool) (s : σ) (g : Int -> ρ) (hs : ∀ x k, k < l.length -> el l k = x -> F k s = some (bif p x then .out (g k) else .go s)) :
  Aq F e l.length 0 s = some (if 0 <= Cf p l then g (Cf p l) else e s) := by
 have h := Ff (F := F) (e := e) l (fun _ _ s' => s' = s) (fun r k _ => if r.any p then g ((k + r.findIdx p : Nat) : Int) else e s) (fun s' hs' => by rw [hs']; rfl) (fun x r k s' hk hx hs' => by
  subst hs'
  have h1 := hs x k hk hx
  rw [List.any_cons, List.findIdx_cons]
  cases hp : p x with
  | true => exact .inr (by rw [h1, hp]; simp)
  | false =>
   refine .inl ⟨s', by rw [h1, hp]; rfl, rfl, ?_⟩
   simp only [Bool.false_or, cond_false]
   rw [show k + (List.findIdx p r + 1) = k + 1 + List.findIdx p r by omega]) s rfl
 rw [h]
 unfold Cf
 by_cases ha : l.any p = true
 ·rw [if_pos ha, if_pos ha, if_pos (by omega), Nat.zero_add]
 ·rw [if_neg ha, if_neg ha, if_neg (by omega)]
omit [Inhabited T] in
theorem Xg (p : T -> Bool) (l : List T) : -1 <= Cf p l := by unfold Cf; split <;> omega
omit [Inhabited T] in
theorem P9 (p : T -> Bool) (l : List T) : Cf p l < l.length := by
 unfold Cf
 split
 ·rename_i h
  obtain ⟨x, hx, hp⟩ := List.any_eq_true.1 h
  have := List.findIdx_lt_length_of_exists ⟨x, hx, hp⟩
  omega
 ·omega
theorem Ac6 {p : T -> Bool} {l : List T} (h : 0 <= Cf p l) : (Cf p l).toNat < l.length /\ p (el l (Cf p l).toNat) = true := by
 have hlt := P9 p l
 refine ⟨by omega, ?_⟩
 unfold Cf at h ⊢
 by_cases ha : l.any p = true
 ·rw [if_pos ha] at h ⊢
  obtain ⟨x, hx, hp⟩ := List.any_eq_true.1 ha
  have hl := List.findIdx_lt_length_of_exists ⟨x, hx, hp⟩
  rw [Int.toNat_natCast, G9 hl]
  exact List.findIdx_getElem
 ·rw [if_neg ha] at h; omega
omit [Inhabited T] in
theorem Aru {p : T -> Bool} {l : List T} : Cf p l < 0 ↔ ∀ x ∈ l, p x = false := by
 unfold Cf
 by_cases ha : l.any p = true
 ·rw [if_pos ha]
  obtain ⟨x, hx, hp⟩ := List.any_eq_true.1 ha
  constructor
  ·intro h; omega
  ·intro h; rw [h x hx] at hp; cases hp
 ·rw [if_neg ha]
  constructor
  ·intro _ x hx
   cases hp : p x with
   | false => rfl
   | true => exact absurd (List.any_eq_true.2 ⟨x, hx, hp⟩) ha
  ·intro _; omega
end
end
noncomputable def Db (r : DRing) : Bool := (((decide (1 <= r.cap /\ r.cap <= 6) && decide (1 <= r.next /\ r.next <= 1000000000)) && decide ((r.list.length : Int) <= r.cap)) && (!r.out || decide (r.list.length = 0))) && r.list.all Bz
theorem Sm (r : DRing) : Ir r = some (Db r) := by
 unfold Ir Db
 rw [Ln (b := .inr ()) r.list Bz (fun x k hk hx => by
  unfold Agp Ago; rw [hx, W5]; cases Bz x <;> rfl)]
 simp only [Eu, Option.bind_some, Ci, Eh, D2, H5, A7]
 cases r.list.all Bz <;> cases r.out <;> simp only [cond_true, cond_false, Sum.elim_inl, Sum.elim_inr, Ci, G6, Bool.not_true, Bool.not_false, Bool.false_and, Bool.true_and, Bool.and_true, Bool.and_false, Bool.or_false, Bool.false_or, Bool.true_or] <;> refine G5 ?_ <;> simp <;> omega
theorem Ts (r : DRing) : Iu r = some (Db r) := by
 unfold Iu Db
 rw [Ln (b := .inr ()) r.list Bz (fun x k hk hx => by
  unfold Ahs Ahr; rw [hx, Aew]; cases Bz x <;> rfl)]
 simp only [E9, Option.bind_some, Ci, Eh, H5, A7]
 cases r.list.all Bz <;> cases r.out <;> simp only [cond_true, cond_false, Sum.elim_inl, Sum.elim_inr, Bool.not_true, Bool.not_false, Bool.and_true, Bool.and_false, Bool.false_or, Bool.true_or] <;> refine G5 ?_ <;> simp <;> omega
noncomputable def A0 (l : List DDoc) (n : ByteArray) : Int := Cf (fun d => decide (d.name = n)) l
theorem P8 (h : DHub) (n : ByteArray) : Jp h n = some (A0 h.docs n) := by
 unfold Jp Ux
 rw [V7 h.docs (fun d => decide (d.name = n)) n (fun k => .inr (k, n)) (fun x k hk hx => by
  unfold Ag7 Ag6 Zt
  rw [hx]; cases decide (x.name = n) <;> rfl)]
 unfold A0
 simp only [Option.bind_some]
 split
 ·rfl
 ·have := Xg (fun d : DDoc => decide (d.name = n)) h.docs
  show some (-1) = _
  congr 1; omega
theorem Mi (h : DHub) (n : ByteArray) : Gk h n = some (A0 h.docs n) := by
 unfold Gk
 rw [V7 h.docs (fun d => decide (d.name = n)) () (fun k => .inr k) (fun x k hk hx => by
  unfold Ahe Ahd
  rw [hx]; cases decide (x.name = n) <;> rfl)]
 unfold A0
 simp only [Option.bind_some]
 split
 ·rfl
 ·have := Xg (fun d : DDoc => decide (d.name = n)) h.docs
  show some (-1) = _
  congr 1; omega
def Bi (d : DDoc) : Int := d.from_ + d.list.length
theorem Nz {d : DDoc} (h : A8 d = true) : Dn d = some (Bi d) := by
 have := D6 h
 unfold Dn Bi
 rw [Av (by omega) (by omega)]
theorem Oi {d : DDoc} (h : A8 d = true) : C9 d = some (Bi d) := by
 have := D6 h
 unfold C9 Bi
 rw [Av (by omega) (by omega)]
noncomputable def Ei (p : Option DDoc) (d : DDoc) : Bool := A8 d && !Hg (fun p => !De p.name d.name) p
noncomputable def Ik (h : DHub) (p : Option DSub) (s : DSub) : Bool :=
 (((decide (1 <= s.id /\ s.id <= h.last) && !Hg (fun p => decide (s.id <= p.id)) p) && Db s.r) && decide (0 <= A0 h.docs s.doc)) && (s.r.out || decide (s.r.next + (s.r.list.length : Int) = Bi (el h.docs (A0 h.docs s.doc).toNat) + 1))
noncomputable def L6 (h : DHub) : Bool := ((decide (h.docs.length <= 5) && decide (h.subs.length <= 6)) && decide (0 <= h.last /\ h.last <= 1000000000)) && (Cp Ei none h.docs && Cp (Ik h) none h.subs)
theorem Gu {r : DRing} (h : Db r = true) : (1 <= r.cap /\ r.cap <= 6) /\ (1 <= r.next /\ r.next <= 1000000000) /\ (r.list.length : Int) <= r.cap /\ (r.out = true -> r.list = []) /\ r.list.all Bz = true := by
 unfold Db at h
 simp only [Bool.and_eq_true, decide_eq_true_eq, Bool.or_eq_true, Bool.not_eq_true'] at h
 refine ⟨h.1.1.1.1, h.1.1.1.2, h.1.1.2, fun ho => ?_, h.2⟩
 rcases h.1.2 with h2 | h2
 ·rw [ho] at h2; cases h2
 ·exact List.eq_nil_of_length_eq_zero h2
theorem Aq2 {h : DHub} {X Y : Option Bool} (hY : (h.docs.length <= 5 /\ h.subs.length <= 6) /\ 0 <= h.last /\ h.last <= 1000000000 -> X = Y) (hN : ¬ ((h.docs.length <= 5 /\ h.subs.length <= 6) /\ 0 <= h.last /\ h.last <= 1000000000) -> Y = some false) :
  (bif ((decide ((5 : Int) < (h.docs.length : Int)) || decide ((6 : Int) < (h.subs.length : Int))) || !decide (0 <= h.last /\ h.last <= 1000000000)) then some false else X) = Y := by
 by_cases hc : (h.docs.length <= 5 /\ h.subs.length <= 6) /\ 0 <= h.last /\ h.last <= 1000000000
 ·rw [decide_eq_true hc.2, decide_eq_false (p := (5 : Int) < (h.docs.length : Int)) (by omega), decide_eq_false (p := (6 : Int) < (h.subs.length : Int)) (by omega)]
  exact hY hc
 ·rw [hN hc]
  have : ((decide ((5 : Int) < (h.docs.length : Int)) || decide ((6 : Int) < (h.subs.length : Int))) || !decide (0 <= h.last /\ h.last <= 1000000000)) = true := by
   simp only [Bool.or_eq_true, decide_eq_true_eq, Bool.not_eq_true', decide_eq_false_iff_not]
   omega
  rw [this]; rfl
theorem Ass {h : DHub} (hc : ¬ ((h.docs.length <= 5 /\ h.subs.length <= 6) /\ 0 <= h.last /\ h.last <= 1000000000)) : L6 h = false := by
 cases hk : L6 h with
 | false => rfl
 | true =>
  unfold L6 at hk
  simp only [Bool.and_eq_true, decide_eq_true_eq] at hk
  exact absurd hk.1 hc
theorem Adl {h : DHub} (hc : (h.docs.length <= 5 /\ h.subs.length <= 6) /\ 0 <= h.last /\ h.last <= 1000000000) : L6 h = (Cp Ei none h.docs && Cp (Ik h) none h.subs) := by
 unfold L6
 rw [decide_eq_true hc.1.1, decide_eq_true hc.1.2, decide_eq_true hc.2]; rfl
theorem Abi {l : List DDoc} {p : Option DDoc} (h : Cp Ei p l = true) : ∀ d ∈ l, A8 d = true := fun d hd => by
 obtain ⟨q, hq⟩ := Aj6 h d hd
 unfold Ei at hq
 simp only [Bool.and_eq_true] at hq
 exact hq.1
theorem A8x (h : DHub) (hm : Afb h) : Gi h = some (L6 h) := by
 obtain ⟨_, hd, hs, _⟩ := hm
 unfold Gi
 simp only [Eu, Option.bind_some, Ci, D2]
 refine Aq2 (fun hc => ?_) (fun hc => by rw [Ass hc])
 rw [Adl hc, V5 (b := .inr ()) h.docs Ei (fun k x hk hx => by
  unfold Agl Agj
  have e := Ye h.docs (fun p => !De p.name x.name) hd.1 hk
  rw [hx, Ny x (hx ▸ hd.2 _ (Cl hk)), Option.bind_some, e]
  simp only [Option.bind_some, Ci, D2, Ei]
  cases A8 x <;> cases Hg (fun p => !De p.name x.name) (if k = 0 then none else some (el h.docs (k - 1))) <;> rfl), Option.bind_some]
 cases hdoc : Cp Ei none h.docs with
 | false => rfl
 | true =>
  have hda := Abi hdoc
  simp only [cond_true, Sum.elim_inl, Bool.true_and]
  rw [V5 (b := .inr false) h.subs (Ik h) (fun k x hk hx => by
   unfold Agm Agk
   have e := Ye h.subs (fun p => decide (x.id <= p.id)) hs.1 hk
   rw [hx, P8, Option.bind_some, e, Eu]
   rw [Sm]
   simp only [Option.bind_some, Ci, D2, Ik]
   generalize Hg (fun p : DSub => decide (x.id <= p.id)) (if k = 0 then none else some (el h.subs (k - 1))) = q
   generalize hw : decide (1 <= x.id /\ x.id <= h.last) = w
   cases hr : Db x.r with
   | false => cases w <;> cases q <;> rfl
   | true =>
    have hg := Gu hr
    have hlt := P9 (fun d : DDoc => decide (d.name = x.doc)) h.docs
    by_cases hi : 0 <= A0 h.docs x.doc
    ·have hlt2 : A0 h.docs x.doc < h.docs.length := hlt
     have hok := hda _ (Cl (l := h.docs) (i := (A0 h.docs x.doc).toNat) (by omega))
     have hh := D6 hok
     rw [decide_eq_false (p := A0 h.docs x.doc < 0) (by omega), decide_eq_true hi, Av (by omega) (by omega), Ae ⟨hi, hlt2⟩, Nz hok, Option.bind_some, Av (by unfold Bi; omega) (by unfold Bi; omega)]
     cases w <;> cases q <;> cases x.r.out <;> simp only [cond_true, cond_false, Bool.not_true, Bool.not_false, Bool.or_false, Bool.or_true, Bool.true_or, Bool.false_or, Bool.and_true, Bool.and_false, Bool.true_and, Bool.false_and, Option.bind_some] <;>
      cases decide (x.r.next + (x.r.list.length : Int) = Bi (el h.docs (A0 h.docs x.doc).toNat) + 1) <;> rfl
    ·rw [decide_eq_true (p := A0 h.docs x.doc < 0) (by omega), decide_eq_false hi]
     cases w <;> cases q <;> rfl), Option.bind_some]
  cases Cp (Ik h) none h.subs <;> rfl
theorem Beh (h : DHub) (hm : Afb h) : Ho h = some (L6 h) := by
 obtain ⟨_, hd, hs, _⟩ := hm
 unfold Ho
 simp only [E9, Option.bind_some, Ci, D2]
 refine Aq2 (fun hc => ?_) (fun hc => by rw [Ass hc])
 rw [Adl hc, V5 (b := .inr ()) h.docs Ei (fun k x hk hx => by
  unfold Ahh Ahf
  have e := Ye h.docs (fun p => !De p.name x.name) hd.1 hk
  rw [hx, Ih x (hx ▸ hd.2 _ (Cl hk)), Option.bind_some, e]
  simp only [Option.bind_some, Ci, D2, Ei]
  cases A8 x <;> cases Hg (fun p => !De p.name x.name) (if k = 0 then none else some (el h.docs (k - 1))) <;> rfl), Option.bind_some]
 cases hdoc : Cp Ei none h.docs with
 | false => rfl
 | true =>
  have hda := Abi hdoc
  simp only [cond_true, Sum.elim_inl, Bool.true_and]
  rw [V5 (b := .inr false) h.subs (Ik h) (fun k x hk hx => by
   unfold Ahi Ahg
   have e := Ye h.subs (fun p => decide (x.id <= p.id)) hs.1 hk
   rw [hx, Mi, Option.bind_some, e, E9]
   rw [Ts]
   simp only [Option.bind_some, Ci, D2, Ik]
   generalize Hg (fun p : DSub => decide (x.id <= p.id)) (if k = 0 then none else some (el h.subs (k - 1))) = q
   generalize hw : decide (1 <= x.id /\ x.id <= h.last) = w
   cases hr : Db x.r with
   | false => cases w <;> cases q <;> rfl
   | true =>
    have hg := Gu hr
    have hlt := P9 (fun d : DDoc => decide (d.name = x.doc)) h.docs
    by_cases hi : 0 <= A0 h.docs x.doc
    ·have hlt2 : A0 h.docs x.doc < h.docs.length := hlt
     have hok := hda _ (Cl (l := h.docs) (i := (A0 h.docs x.doc).toNat) (by omega))
     have hh := D6 hok
     rw [decide_eq_false (p := A0 h.docs x.doc < 0) (by omega), decide_eq_true hi, Av (by omega) (by omega), Ae ⟨hi, hlt2⟩, Oi hok, Option.bind_some, Av (by unfold Bi; omega) (by unfold Bi; omega)]
     cases w <;> cases q <;> cases x.r.out <;> simp only [cond_true, cond_false, Bool.not_true, Bool.not_false, Bool.or_false, Bool.or_true, Bool.true_or, Bool.false_or, Bool.and_true, Bool.and_false, Bool.true_and, Bool.false_and, Option.bind_some] <;>
      cases decide (x.r.next + (x.r.list.length : Int) = Bi (el h.docs (A0 h.docs x.doc).toNat) + 1) <;> rfl
    ·rw [decide_eq_true (p := A0 h.docs x.doc < 0) (by omega), decide_eq_false hi]
     cases w <;> cases q <;> rfl), Option.bind_some]
  cases Cp (Ik h) none h.subs <;> rfl
def D3 : DDoc := ⟨ByteArray.empty, 0, [], [], []⟩
def D9 (l : List DSeen) (c : Int) : DSeen × Bool := match l.find? (fun s => decide (s.client = c)) with
 | some s => (s, true)
 | none => (⟨0, 0, 0⟩, false)
def Qt (l : List DSeen) (c : Int) : Sum Unit (Bool × Int × Int × Int) := match l.find? (fun s => decide (s.client = c)) with
 | some s => Sum.inr (true, s.client, s.seq, s.rev)
 | none => Sum.inl ()
theorem Auv (l : List DSeen) (c : Int) : Sum.elim (fun _y58 => some ((⟨0, 0, 0⟩ : DSeen), false)) (fun y59 => some ((⟨y59.2.1, y59.2.2.1, y59.2.2.2⟩ : DSeen), y59.1)) (Qt l c) = some (D9 l c) := by
 unfold Qt D9
 cases l.find? (fun s => decide (s.client = c)) <;> rfl
theorem Auu {F : Nat -> Unit -> Option (Lr Unit (Sum Unit (Bool × Int × Int × Int)))} (l : List DSeen) (c : Int) (hs : ∀ k x, k < l.length -> el l k = x -> F k () = bif decide (x.client = c) then some (Lr.out (Sum.inr (true, x.client, x.seq, x.rev))) else some (Lr.go ())) :
  Aq F (fun _ => (Sum.inl () : Sum Unit (Bool × Int × Int × Int))) l.length 0 () = some (Qt l c) :=
 Ff (F := F) l (fun _ _ _ => True) (fun r _ _ => Qt r c) (fun _ _ => rfl) (fun x r k s hk hx _ => by
  rw [hs k x hk hx]
  by_cases h : x.client = c
  ·rw [Ak h]; exact .inr (by unfold Qt; rw [List.find?_cons_of_pos (by simpa using h)])
  ·rw [Ag h]; exact .inl ⟨(), rfl, trivial, by unfold Qt; rw [List.find?_cons_of_neg (by simpa using h)]⟩) () trivial
theorem A9k (d : DDoc) (c : Int) : Q5 d c = some (D9 d.seen c) := by
 unfold Q5
 rw [Auu d.seen c (fun k x hk hx => by unfold Agr Agq; rw [hx]), Option.bind_some, Auv]
theorem Ae3 (d : DDoc) (c : Int) : Jv d c = some (D9 d.seen c) := by
 unfold Jv
 rw [Auu d.seen c (fun k x hk hx => by unfold U9 Aaq; rw [hx]), Option.bind_some, Auv]
theorem Ae5 {d : DDoc} (hk : A8 d = true) (c : Int) : 0 <= (D9 d.seen c).1.seq /\ (D9 d.seen c).1.seq <= 1000000000 /\ ((D9 d.seen c).2 = false -> (D9 d.seen c).1.seq = 0) := by
 unfold D9
 cases h : d.seen.find? (fun s => decide (s.client = c)) with
 | none => exact ⟨by simp, by simp, fun _ => rfl⟩
 | some s =>
  have := ((K0 _ _ _).1 (F8 hk).2.2.2.2).1 s (List.mem_of_find?_eq_some h)
  exact ⟨by simp only; omega, by simp only; omega, fun h => by cases h⟩
theorem Acs {d : DDoc} (h : D0 d) (hk : A8 d = true) (rev : Int) : O6 d rev = some (if d.from_ <= rev /\ rev <= d.from_ + d.list.length then (Dk (d.list.take (rev - d.from_).toNat) d.text, true) else ([], false)) := by
 obtain ⟨h1, h2⟩ := D6 hk
 have hf := (Sh (Qk hk) (rev - d.from_).toNat).1
 have ha : (d.list.take (rev - d.from_).toNat).all Bz = true := List.all_eq_true.2 fun x hx => List.all_eq_true.1 (F8 hk).2.2.2.1 x (List.mem_of_mem_take hx)
 have hs : Ef Gz (d.list.take (rev - d.from_).toNat) := ⟨by rw [List.length_take]; have := h.2.2.2.1.1; omega, fun x hx => h.2.2.2.1.2 x (List.mem_of_mem_take hx)⟩
 unfold O6
 rw [Ny d h, Option.bind_some, hk, Bool.not_true, An, P7 h1 (by omega), Option.bind_some, Eu, Option.bind_some, Option.bind_some]
 by_cases hc : d.from_ <= rev /\ rev <= d.from_ + d.list.length
 ·rw [decide_eq_true hc, Bool.not_true, An, Av (by omega) (by omega), Ae ⟨by omega, by omega⟩, if_pos hc, List.drop_zero, Xa hs, Option.bind_some, Acn, (F8 hk).2.1, if_pos rfl, <- Wm _ _ ha, hf]
  rfl
 ·rw [decide_eq_false hc, Bool.not_false, Bh, if_neg hc]
theorem W6 {d : DDoc} (h : D0 d) (hk : A8 d = true) : K7 d = some (Dk d.list d.text) := by
 obtain ⟨h1, h2⟩ := D6 hk
 unfold K7
 rw [P7 h1 (by omega), Option.bind_some, Acs h hk, if_pos (by omega), Option.bind_some, show (d.from_ + (d.list.length : Int) - d.from_).toNat = d.list.length by omega, List.take_length]
theorem A87 {d : DDoc} (h : D0 d) (hk : A8 d = true) (rev : Int) : Z1 d rev = some (if d.from_ <= rev /\ rev <= d.from_ + d.list.length then ((d.list.drop (rev - d.from_).toNat).map (fun e => e.o), true) else ([], false)) := by
 obtain ⟨h1, h2⟩ := D6 hk
 unfold Z1
 rw [Ny d h, Option.bind_some, hk, Bool.not_true, An, P7 h1 (by omega), Option.bind_some, Eu, Option.bind_some, Option.bind_some]
 by_cases hc : d.from_ <= rev /\ rev <= d.from_ + d.list.length
 ·rw [decide_eq_true hc, Bool.not_true, An, Av (by omega) (by omega), Ae ⟨by omega, by omega⟩, if_pos hc, List.take_length, Xa (Tx h.2.2.2.1 _)]
  rfl
 ·rw [decide_eq_false hc, Bool.not_false, Bh, if_neg hc]
theorem A89 (l : List (List DPart)) (b : List DPart) (hl : l.length <= 1000) : Z2 l b = some (N8 l b) := by
 unfold Z2 Us N8
 rw [N0, Option.bind_some]
 cases ho : A5 b with
 | false => rfl
 | true =>
  rw [Bool.not_true, An, Aq5, ho, if_pos rfl, Option.bind_some, if_pos rfl]
  obtain ⟨y, h1, h2⟩ := Ni (F := Aac l) (e := fun (s : List (List DPart) × List DPart) => (Sum.inl (s.1, s.2) : Sum (List (List DPart) × List DPart) Unit)) l (fun r k s => s.1.length <= k) (fun r _ s y => match Fk r s.2 with | some v => ∃ z, y = Sum.inl (z, v) | none => y = Sum.inr ()) (fun s _ => ⟨_, rfl⟩) (fun x r k s hk hx hP => by
   unfold Aac Ag0
   rw [hx, A9g, Option.bind_some]
   simp only [Fk]
   cases hc : (Hy x s.2).2.2 with
   | false => exact .inr ⟨_, rfl, rfl⟩
   | true => rw [Bool.not_true, An, Ae (by omega)]; exact .inl ⟨_, rfl, by simp; omega, fun y hy => hy⟩) ([], Bw b) (by simp)
  rw [h1, Option.bind_some]
  simp only at h2
  cases hp : Fk l (Bw b) with
  | some v => rw [hp] at h2; obtain ⟨z, rfl⟩ := h2; rfl
  | none => rw [hp] at h2; subst h2; rfl
theorem Atb : ∀ {l : List DEntry} {t : List Int} {v u : List DPart}, Fk (l.map fun e => e.o) v = some u -> (Cq l t).isSome = true -> C4 v t = true -> C4 u (Dk l t) = true
 | [], t, v, u, h, _, hv => by cases h; exact hv
 | e :: l, t, v, u, h, hf, hv => by
  rw [List.map_cons, Fk] at h
  rw [Cq] at hf
  cases hc : C4 e.o t && Bz e with
  | false => rw [hc] at hf; cases hf
  | true =>
   rw [hc, if_pos rfl] at hf
   simp only [Bool.and_eq_true] at hc
   split at h
   ·rename_i hl
    have g := Ac9 hl
    have s := Bad g.1 g.2.1 g.2.2.1
    have ft := Wf hc.1
    have al := Rt (S3 g.1) ft.2.2
    rw [g.2.2.2.2.2] at h
    refine Atb (l := l) (t := Cu e.o t) h hf ?_
    unfold C4
    rw [g.2.2.2.2.1, X6 hc.1, decide_eq_true (by rw [s.2.1, al])]
    rfl
   ·cases h
theorem A1k {o : List DPart} {t : List Int} (ho : A5 o = true) (ht : Bo t = true) (hf : Be o = t.length) : C4 (Bw o) t = true := by
 unfold C4
 rw [Asv ho, ht, decide_eq_true (by rw [Ab1 (S3 ho), hf])]
 rfl
noncomputable def D8 (d : DDoc) (base : Int) (o : List DPart) : List DPart × Int :=
 if A5 o then (if Bi d < base then ([], 2) else if base < d.from_ then ([], 3) else
  if Be o = ((Dk (d.list.take (base - d.from_).toNat) d.text).length : Int) then (match Fk ((d.list.drop (base - d.from_).toNat).map fun e => e.o) (Bw o) with | some v => (v, 0) | none => ([], 5)) else ([], 1)) else ([], 1)
theorem A9a {d : DDoc} (h : D0 d) (hk : A8 d = true) (base : Int) (o : List DPart) : Z3 d base o = some (D8 d base o) := by
 obtain ⟨h1, h2⟩ := D6 hk
 unfold Z3 D8
 rw [Ny d h, Option.bind_some, hk, Bool.not_true, An, N0, Option.bind_some, Option.bind_some]
 cases ho : A5 o with
 | false => rfl
 | true =>
  unfold Up Bi
  rw [Bool.not_true, An, if_pos rfl, P7 h1 (by omega), Option.bind_some]
  by_cases g1 : d.from_ + (d.list.length : Int) < base
  ·rw [Ak g1, if_pos g1]; rfl
  ·rw [Ag g1, if_neg g1]
   by_cases g2 : base < d.from_
   ·rw [Ak g2, if_pos g2]; rfl
   ·rw [Ag g2, if_neg g2, Option.bind_some, decide_eq_true rfl, Bool.not_true, An, Acs h hk, if_pos ⟨by omega, by omega⟩, Option.bind_some, W7, Option.bind_some, A7, if_pos (D7 ho)]
    by_cases g3 : Be o = ((Dk (d.list.take (base - d.from_).toNat) d.text).length : Int)
    ·rw [Ak g3, if_pos g3, A87 h hk, if_pos ⟨by omega, by omega⟩, Option.bind_some, A89 _ _ (by simp; omega), Option.bind_some]
     unfold N8
     rw [ho, if_pos rfl]
     cases hp : Fk ((d.list.drop (base - d.from_).toNat).map fun e => e.o) (Bw o) <;> rfl
    ·rw [Ag g3, if_neg g3]
theorem Atv {d : DDoc} (hk : A8 d = true) {base : Int} {o : List DPart} (h : (D8 d base o).2 = 0) : H9 (D8 d base o).1 = true /\ C4 (D8 d base o).1 (Dk d.list d.text) = true := by
 unfold D8 Bi at h ⊢
 cases ho : A5 o with
 | false => rw [ho] at h; simp at h
 | true =>
  rw [ho, if_pos rfl] at h
  rw [if_pos rfl]
  by_cases g1 : d.from_ + (d.list.length : Int) < base
  ·rw [if_pos g1] at h; simp at h
  ·rw [if_neg g1] at h ⊢
   by_cases g2 : base < d.from_
   ·rw [if_pos g2] at h; simp at h
   ·rw [if_neg g2] at h ⊢
    by_cases g3 : Be o = ((Dk (d.list.take (base - d.from_).toNat) d.text).length : Int)
    ·rw [if_pos g3] at h ⊢
     cases hp : Fk ((d.list.drop (base - d.from_).toNat).map fun e => e.o) (Bw o) with
     | none => rw [hp] at h; simp at h
     | some v =>
      have hc := Sh (Qk hk) (base - d.from_).toNat
      have hr := Wo hc.2
      have := Atb hp (by rw [hc.2]; rfl) (A1k ho (Acl hk _) g3)
      rw [<- hr] at this
      exact ⟨Aeb hp (Arn ho), this⟩
    ·rw [if_neg g3] at h; simp at h
theorem Be8 {d : DDoc} (h : D0 d) (hk : A8 d = true) (base : Int) (o : List DPart) : Rf d base o = some (D8 d base o) := by
 obtain ⟨h1, h2⟩ := D6 hk
 unfold Rf D8
 rw [Ih d h, Option.bind_some, hk, Bool.not_true, An, Ky, Option.bind_some, Option.bind_some]
 cases ho : A5 o with
 | false => rfl
 | true =>
  unfold Bi
  rw [Bool.not_true, An, if_pos rfl, Kx h1 (by omega), Option.bind_some]
  by_cases g1 : d.from_ + (d.list.length : Int) < base
  ·rw [Ak g1, if_pos g1]
  ·rw [Ag g1, if_neg g1]
   by_cases g2 : base < d.from_
   ·rw [Ak g2, if_pos g2]
   ·rw [Ag g2, if_neg g2, Yw h hk, if_pos ⟨by omega, by omega⟩, Option.bind_some, Tr, Option.bind_some, A7, if_pos (D7 ho)]
    by_cases g3 : Be o = ((Dk (d.list.take (base - d.from_).toNat) d.text).length : Int)
    ·rw [Ak g3, if_pos g3, Auf h hk, if_pos ⟨by omega, by omega⟩, Option.bind_some, Aug _ _ (by simp; omega), Option.bind_some]
     unfold N8
     rw [ho, if_pos rfl]
     cases hp : Fk ((d.list.drop (base - d.from_).toNat).map fun e => e.o) (Bw o) with
     | none => rfl
     | some v =>
      have hq : D8 d base o = (v, 0) := by unfold D8 Bi; rw [ho, if_pos rfl, if_neg g1, if_neg g2, if_pos g3, hp]
      have := (Atv hk (base := base) (o := o) (by rw [hq])).2
      rw [hq] at this
      simp only
      rw [Bool.not_true, An, Yt h hk, Option.bind_some, Qq, Option.bind_some, this]
      rfl
    ·rw [Ag g3, if_neg g3]
def Gq (x : DSeen) : List DSeen -> List DSeen
 | [] => [x]
 | y :: r => if y.client < x.client then y :: Gq x r else if y.client = x.client then x :: r else x :: y :: r
def Dt (c : Int) (l : List DSeen) : Nat := (l.takeWhile fun s => decide (s.client < c)).length
theorem Asj (c : Int) (y : DSeen) (l : List DSeen) : Dt c (y :: l) = if y.client < c then Dt c l + 1 else 0 := by
 unfold Dt
 rw [List.takeWhile_cons]
 by_cases h : y.client < c <;> simp [h]
theorem Ba7 (c : Int) (l : List DSeen) : Dt c l <= l.length := (List.takeWhile_prefix _).length_le
theorem Ask : ∀ (x : DSeen) (l : List DSeen), (if Dt x.client l < l.length /\ (el l (Dt x.client l)).client = x.client then l.set (Dt x.client l) x else l.take (Dt x.client l) ++ [x] ++ l.drop (Dt x.client l)) = Gq x l
 | x, [] => by simp [Gq, Dt]
 | x, y :: r => by
  have ih := Ask x r
  rw [Asj, Gq]
  by_cases h : y.client < x.client
  ·rw [if_pos h, if_pos h, <- ih]
   have e : el (y :: r) (Dt x.client r + 1) = el r (Dt x.client r) := rfl
   rw [e]
   by_cases g : Dt x.client r < r.length /\ (el r (Dt x.client r)).client = x.client
   ·rw [if_pos g, if_pos ⟨by simp only [List.length_cons]; omega, g.2⟩]; rfl
   ·rw [if_neg g, if_neg (fun k => g ⟨by have := k.1; simp only [List.length_cons] at this; omega, k.2⟩)]; rfl
  ·rw [if_neg h, if_neg h]
   have e : el (y :: r) 0 = y := rfl
   rw [e]
   by_cases g : y.client = x.client
   ·rw [if_pos ⟨by simp, g⟩, if_pos g]; rfl
   ·rw [if_neg (fun k => g k.2), if_neg g]; rfl
theorem A9l (d : DDoc) (c : Int) (hl : d.seen.length <= 8) : Bj (Z8 d c) 0 = some ((Dt c d.seen : Nat) : Int) := by
 have key := Xf (f := Z8 d c) (fun s => 0 <= s /\ s <= d.seen.length) (fun s => ((d.seen.length : Int) - s).toNat) (fun s => s + (Dt c (d.seen.drop s.toNat) : Nat)) (fun s hP => by
  unfold Z8 Awj
  by_cases h : s < (d.seen.length : Int)
  ·have hd := Abj (l := d.seen) (i := s.toNat) (by omega)
   rw [Ak h, Ae ⟨hP.1, h⟩, Option.bind_some, hd, Asj]
   by_cases g : (el d.seen s.toNat).client < c
   ·rw [Ak g, if_pos g, Av (by omega) (by omega)]
    exact .inl ⟨_, rfl, by omega, by omega, by rw [show (s + 1).toNat = s.toNat + 1 by omega]; omega⟩
   ·rw [Ag g, if_neg g]; exact .inr (by simp)
  ·rw [Ag h, Option.bind_some, An, show s.toNat = d.seen.length by omega, List.drop_length]; exact .inr (by simp [Dt])) 0 (by omega)
 rw [key]; simp
theorem A9x {x : DSeen} {l : List DSeen} (h : ∀ z ∈ l, x.client < z.client) : Gq x l = x :: l := by
 cases l with
 | nil => rfl
 | cons z r => have := h z (by simp); rw [Gq, if_neg (by omega), if_neg (by omega)]
theorem Be9 {c seq rv : Int} (d : DDoc) (hs : List.Pairwise (fun a b => a.client < b.client) d.seen) (hl : d.seen.length <= 8) :
  ∃ y, Aq (Pe c seq rv d) (fun (s : List DSeen × Bool) => ((s.1, s.2) : List DSeen × Bool)) d.seen.length 0 ([], false) = some y /\ (if y.2 then y.1 else y.1 ++ [⟨c, seq, rv⟩]) = Gq ⟨c, seq, rv⟩ d.seen /\ y.1.length <= 18 := by
 obtain ⟨y, h1, h2, h3⟩ := Ni (F := Pe c seq rv d) (e := fun (s : List DSeen × Bool) => ((s.1, s.2) : List DSeen × Bool)) d.seen
  (fun r k s => List.Pairwise (fun a b => a.client < b.client) r /\ (s.2 = true -> ∀ z ∈ r, c < z.client) /\ s.1.length <= 2 * k)
  (fun r k s y => (if y.2 then y.1 else y.1 ++ [⟨c, seq, rv⟩]) = s.1 ++ (if s.2 then r else Gq ⟨c, seq, rv⟩ r) /\ y.1.length <= 18)
  (fun s hP => by
   refine ⟨?_, by simp only; omega⟩
   cases hb : s.2 <;> simp [Gq])
  (fun x r k s hk hx hP => by
   obtain ⟨p1, p2, p3⟩ := hP
   rw [List.pairwise_cons] at p1
   unfold Pe Ahx
   rw [hx]
   by_cases g : x.client = c
   ·rw [Ak g]
    have hf : s.2 = false := by
     cases hb : s.2 with
     | false => rfl
     | true => have := p2 hb x (by simp); omega
    refine .inl ⟨_, rfl, ⟨p1.2, fun h => (by rw [hf] at h; cases h), by simp only; omega⟩, fun y hy => ⟨?_, hy.2⟩⟩
    rw [hy.1]
    simp only [hf, Bool.false_eq_true, if_false]
    rw [A9x (fun z hz => by have := p1.1 z hz; simp only; omega), Gq, if_neg (by simp only; omega), if_pos g]
   ·rw [Ag g]
    cases hb : s.2 with
    | true =>
     rw [Bool.not_true, An, Option.bind_some, An, Ae (by omega)]
     refine .inl ⟨_, rfl, ⟨p1.2, fun _ z hz => p2 hb z (by simp [hz]), by simp only [List.length_append, List.length_cons, List.length_nil]; omega⟩, fun y hy => ⟨?_, hy.2⟩⟩
     rw [hy.1]
     simp
    | false =>
     rw [Bool.not_false, Bh, Option.bind_some]
     by_cases q : c < x.client
     ·rw [Ak q, Ae (by omega), Ae (by simp only [List.length_append, List.length_cons, List.length_nil]; omega)]
      refine .inl ⟨_, rfl, ⟨p1.2, fun _ z hz => by have := p1.1 z hz; omega, by simp only [List.length_append, List.length_cons, List.length_nil]; omega⟩, fun y hy => ⟨?_, hy.2⟩⟩
      rw [hy.1]
      simp only [if_true, Bool.false_eq_true, if_false]
      rw [Gq, if_neg (by simp only; omega), if_neg (by simp only; omega)]
      simp
     ·rw [Ag q, Ae (by omega)]
      refine .inl ⟨_, rfl, ⟨p1.2, fun h => (by cases h), by simp only [List.length_append, List.length_cons, List.length_nil]; omega⟩, fun y hy => ⟨?_, hy.2⟩⟩
      rw [hy.1]
      simp only [Bool.false_eq_true, if_false]
      rw [Gq, if_pos (by simp only; omega)]
      simp) ([], false) ⟨hs, fun h => (by cases h), by simp⟩
 exact ⟨y, h1, by rw [h2]; simp, h3⟩
theorem Aco {d : DDoc} (h : D0 d) (hk : A8 d = true) : O8 d = some d := by
 have ht := Gv (F8 hk).2.1
 have hs := Qj hk
 unfold O8
 rw [W9 (by omega), Option.bind_some, W8 h.2.2.2.1, Option.bind_some, Ae (by omega)]
 rfl
def addE (d : DDoc) (e : DEntry) : DDoc :=
 if 8 < (d.list ++ [e]).length then ⟨d.name, d.from_ + 1, (if C4 (el (d.list ++ [e]) 0).o d.text then (Cu (el (d.list ++ [e]) 0).o d.text, true) else ([], false)).1, (d.list ++ [e]).drop 1, Gq ⟨e.client, e.seq, Bi d + 1⟩ d.seen⟩
 else ⟨d.name, d.from_, d.text, d.list ++ [e], Gq ⟨e.client, e.seq, Bi d + 1⟩ d.seen⟩
noncomputable def Et (d : DDoc) (client seq base : Int) (o : List DPart) : DDoc × Int × Int :=
 if (1 <= client /\ client <= 8) /\ (1 <= seq /\ seq <= 1000000000) /\ A5 o = true then
  if (D9 d.seen client).1.seq = seq then (d, (D9 d.seen client).1.rev, 0)
  else if (D9 d.seen client).1.seq + 1 = seq then
   if (D8 d base o).2 = 0 then (if 999999000 <= Bi d then (D3, 0, 5) else (addE d ⟨client, seq, (D8 d base o).1⟩, Bi d + 1, 0)) else (D3, 0, (D8 d base o).2)
  else (D3, 0, 4)
 else (D3, 0, 1)
theorem A9f {d : DDoc} (h : D0 d) (hk : A8 d = true) (client seq base : Int) (o : List DPart) : Z7 d client seq base o = some (Et d client seq base o) := by
 obtain ⟨h1, h2⟩ := D6 hk
 have hs8 := Qj hk
 unfold Z7 Et
 rw [Ny d h, Option.bind_some, hk, Bool.not_true, An, Eu, Option.bind_some, Option.bind_some]
 by_cases c1 : 1 <= client /\ client <= 8
 ·rw [decide_eq_true c1, Bool.not_true, An, Eu, Option.bind_some, Option.bind_some]
  by_cases c2 : 1 <= seq /\ seq <= 1000000000
  ·rw [decide_eq_true c2, Bool.not_true, An, N0, Option.bind_some, Option.bind_some]
   cases ho : A5 o with
   | false => rw [if_neg (fun k => by cases k.2.2)]; rfl
   | true =>
    rw [Bool.not_true, An, if_pos ⟨c1, c2, rfl⟩, A9k, Option.bind_some]
    have hq := Ae5 hk client
    by_cases c3 : (D9 d.seen client).1.seq = seq
    ·rw [Ak c3, if_pos c3, Aco h hk]; rfl
    ·rw [Ag c3, if_neg c3, Av (by omega) (by omega), A7]
     by_cases c4 : (D9 d.seen client).1.seq + 1 = seq
     ·rw [Ak c4, if_pos c4, A9a h hk, Option.bind_some, A7]
      by_cases c5 : (D8 d base o).2 = 0
      ·rw [Ak c5, if_pos c5, P7 h1 (by omega), Option.bind_some]
       unfold Bi
       by_cases c6 : (999999000 : Int) <= d.from_ + d.list.length
       ·rw [Ak c6, if_pos c6]; rfl
       ·rw [Ag c6, if_neg c6, Aco h hk, Option.bind_some, Ae (by omega), P7 (d := ⟨d.name, d.from_, d.text, d.list ++ [(⟨client, seq, (D8 d base o).1⟩ : DEntry)], d.seen⟩) h1 (by simp; omega), Option.bind_some]
        have hrv : d.from_ + (((d.list ++ [(⟨client, seq, (D8 d base o).1⟩ : DEntry)]).length : Nat) : Int) = d.from_ + d.list.length + 1 := by simp; omega
        simp only [hrv]
        rw [A9l d client hs8, Option.bind_some]
        have hn := Ba7 client d.seen
        have ix := Ask ⟨client, seq, d.from_ + d.list.length + 1⟩ d.seen
        simp only at ix
        have hlen : ((d.list ++ [(⟨client, seq, (D8 d base o).1⟩ : DEntry)]).length : Int) = d.list.length + 1 := by simp
        unfold addE Bi
        simp only
        rw [<- ix]
        generalize (D8 d base o).1 = v at hlen ⊢
        have tl : ∀ S' : List DSeen, (bif decide ((8 : Int) < ((d.list ++ [(⟨client, seq, v⟩ : DEntry)]).length : Int)) then (xg (0 <= (0 : Int) /\ (0 : Int) < ((d.list ++ [(⟨client, seq, v⟩ : DEntry)]).length : Int)) <| Option.bind (Jm ((el (d.list ++ [(⟨client, seq, v⟩ : DEntry)]) 0).o) d.text) fun r309 => xg (Ac (d.from_ + 1)) <| xg (0 <= (1 : Int) /\ (1 : Int) <= ((d.list ++ [(⟨client, seq, v⟩ : DEntry)]).length : Int)) <| some ((⟨d.name, d.from_ + 1, r309.1, ((d.list ++ [(⟨client, seq, v⟩ : DEntry)]).take ((d.list ++ [(⟨client, seq, v⟩ : DEntry)]).length)).drop 1, S'⟩ : DDoc), d.from_ + (d.list.length : Int) + 1, (0 : Int))) else (some ((⟨d.name, d.from_, d.text, d.list ++ [(⟨client, seq, v⟩ : DEntry)], S'⟩ : DDoc), d.from_ + (d.list.length : Int) + 1, 0))) =
          some (if 8 < (d.list ++ [(⟨client, seq, v⟩ : DEntry)]).length then ⟨d.name, d.from_ + 1, (if C4 (el (d.list ++ [(⟨client, seq, v⟩ : DEntry)]) 0).o d.text then (Cu (el (d.list ++ [(⟨client, seq, v⟩ : DEntry)]) 0).o d.text, true) else ([], false)).1, (d.list ++ [(⟨client, seq, v⟩ : DEntry)]).drop 1, S'⟩ else ⟨d.name, d.from_, d.text, d.list ++ [(⟨client, seq, v⟩ : DEntry)], S'⟩, d.from_ + (d.list.length : Int) + 1, 0) := by
         intro S'
         by_cases g : (8 : Int) < ((d.list ++ [(⟨client, seq, v⟩ : DEntry)]).length : Int)
         ·rw [Ak g, Ae ⟨by omega, by omega⟩, Aq3, Option.bind_some, Av (by omega) (by omega), Ae ⟨by omega, by omega⟩, List.take_length, if_pos (show 8 < (d.list ++ [(⟨client, seq, v⟩ : DEntry)]).length by omega)]
         ·rw [Ag g, if_neg (show ¬ 8 < (d.list ++ [(⟨client, seq, v⟩ : DEntry)]).length by omega)]
        by_cases g1 : ((Dt client d.seen : Nat) : Int) < d.seen.length
        ·rw [Ak g1, Ae ⟨by omega, g1⟩, Option.bind_some, Int.toNat_natCast]
         by_cases g2 : (el d.seen (Dt client d.seen)).client = client
         ·rw [Ak g2, Ae ⟨by omega, g1⟩, if_pos (show (Dt client d.seen < d.seen.length /\ (el d.seen (Dt client d.seen)).client = client) from ⟨by omega, g2⟩), tl]
         ·rw [Ag g2, if_neg (show ¬ (Dt client d.seen < d.seen.length /\ (el d.seen (Dt client d.seen)).client = client) from fun k => g2 k.2)]
          unfold Ub K6
          simp only
          rw [Ae ⟨by omega, by omega⟩, Ae (by omega), Option.bind_some, Int.toNat_natCast, tl]
        ·rw [Ag g1, Option.bind_some, An, if_neg (show ¬ (Dt client d.seen < d.seen.length /\ (el d.seen (Dt client d.seen)).client = client) from fun k => by have := k.1; omega)]
         unfold Ub K6
         simp only
         rw [Ae ⟨by omega, by omega⟩, Ae (by omega), Option.bind_some, Int.toNat_natCast, tl]
      ·rw [Ag c5, if_neg c5]; rfl
     ·rw [Ag c4, if_neg c4]; rfl
  ·rw [decide_eq_false c2, Bool.not_false, Bh, Option.bind_some, Bh, if_neg (fun k => c2 k.2.1)]; rfl
 ·rw [decide_eq_false c1, Bool.not_false, Bh, Option.bind_some, Bh, Option.bind_some, Bh, if_neg (fun k => c1 k.1)]; rfl
theorem Aup {d : DDoc} (h : D0 d) (hk : A8 d = true) (client seq base : Int) (o : List DPart) : Rg d client seq base o = some (Et d client seq base o) := by
 obtain ⟨h1, h2⟩ := D6 hk
 have hs8 := Qj hk
 unfold Rg Et
 rw [Ih d h, Option.bind_some, hk, Bool.not_true, An, E9, Option.bind_some, Option.bind_some]
 by_cases c1 : 1 <= client /\ client <= 8
 ·rw [decide_eq_true c1, Bool.not_true, An, E9, Option.bind_some, Option.bind_some]
  by_cases c2 : 1 <= seq /\ seq <= 1000000000
  ·rw [decide_eq_true c2, Bool.not_true, An, Ky, Option.bind_some, Option.bind_some]
   cases ho : A5 o with
   | false => rw [if_neg (fun k => by cases k.2.2)]; rfl
   | true =>
    rw [Bool.not_true, An, if_pos ⟨c1, c2, rfl⟩, Ae3, Option.bind_some]
    have hq := Ae5 hk client
    have cc : (bif (D9 d.seen client).2 then some (decide ((D9 d.seen client).1.seq = seq)) else some false) = some (decide ((D9 d.seen client).1.seq = seq)) := by
     cases hb : (D9 d.seen client).2 with
     | true => rfl
     | false => have := hq.2.2 hb; rw [An, decide_eq_false (by omega)]
    rw [cc, Option.bind_some]
    by_cases c3 : (D9 d.seen client).1.seq = seq
    ·rw [Ak c3, if_pos c3, Tp h hk]; rfl
    ·rw [Ag c3, if_neg c3, Av (by omega) (by omega), A7]
     by_cases c4 : (D9 d.seen client).1.seq + 1 = seq
     ·rw [Ak c4.symm, if_pos c4, Be8 h hk, Option.bind_some, A7]
      by_cases c5 : (D8 d base o).2 = 0
      ·rw [Ak c5, if_pos c5, Kx h1 (by omega), Option.bind_some]
       unfold Bi
       by_cases c6 : (999999000 : Int) <= d.from_ + d.list.length
       ·rw [Ak c6, if_pos c6]; rfl
       ·rw [Ag c6, if_neg c6, Tp h hk, Option.bind_some, Ae (by omega), Kx (d := ⟨d.name, d.from_, d.text, d.list ++ [(⟨client, seq, (D8 d base o).1⟩ : DEntry)], d.seen⟩) h1 (by simp; omega), Option.bind_some]
        have hrv : d.from_ + (((d.list ++ [(⟨client, seq, (D8 d base o).1⟩ : DEntry)]).length : Nat) : Int) = d.from_ + d.list.length + 1 := by simp; omega
        simp only [hrv]
        obtain ⟨y, y1, y2, y3⟩ := Be9 (c := client) (seq := seq) (rv := d.from_ + d.list.length + 1) d ((K0 _ _ _).1 (F8 hk).2.2.2.2).2.1 hs8
        rw [y1, Option.bind_some]
        have hlen : ((d.list ++ [(⟨client, seq, (D8 d base o).1⟩ : DEntry)]).length : Int) = d.list.length + 1 := by simp
        unfold addE Bi
        simp only
        rw [<- y2]
        generalize (D8 d base o).1 = v at hlen ⊢
        have tl : ∀ S' : List DSeen, (bif decide ((8 : Int) < ((d.list ++ [(⟨client, seq, v⟩ : DEntry)]).length : Int)) then (xg (0 <= (0 : Int) /\ (0 : Int) < ((d.list ++ [(⟨client, seq, v⟩ : DEntry)]).length : Int)) <| Option.bind (Hm ((el (d.list ++ [(⟨client, seq, v⟩ : DEntry)]) 0).o) d.text) fun r309 => xg (0 <= (1 : Int) /\ (1 : Int) <= ((d.list ++ [(⟨client, seq, v⟩ : DEntry)]).length : Int)) <| xg (Ac (d.from_ + 1)) <| some ((⟨d.name, d.from_ + 1, r309.1, ((d.list ++ [(⟨client, seq, v⟩ : DEntry)]).take ((d.list ++ [(⟨client, seq, v⟩ : DEntry)]).length)).drop 1, S'⟩ : DDoc), d.from_ + (d.list.length : Int) + 1, (0 : Int))) else (some ((⟨d.name, d.from_, d.text, d.list ++ [(⟨client, seq, v⟩ : DEntry)], S'⟩ : DDoc), d.from_ + (d.list.length : Int) + 1, 0))) =
          some (if 8 < (d.list ++ [(⟨client, seq, v⟩ : DEntry)]).length then ⟨d.name, d.from_ + 1, (if C4 (el (d.list ++ [(⟨client, seq, v⟩ : DEntry)]) 0).o d.text then (Cu (el (d.list ++ [(⟨client, seq, v⟩ : DEntry)]) 0).o d.text, true) else ([], false)).1, (d.list ++ [(⟨client, seq, v⟩ : DEntry)]).drop 1, S'⟩ else ⟨d.name, d.from_, d.text, d.list ++ [(⟨client, seq, v⟩ : DEntry)], S'⟩, d.from_ + (d.list.length : Int) + 1, 0) := by
         intro S'
         by_cases g : (8 : Int) < ((d.list ++ [(⟨client, seq, v⟩ : DEntry)]).length : Int)
         ·rw [Ak g, Ae ⟨by omega, by omega⟩, Qq, Option.bind_some, Ae ⟨by omega, by omega⟩, Av (by omega) (by omega), List.take_length, if_pos (show 8 < (d.list ++ [(⟨client, seq, v⟩ : DEntry)]).length by omega)]
         ·rw [Ag g, if_neg (show ¬ 8 < (d.list ++ [(⟨client, seq, v⟩ : DEntry)]).length by omega)]
        obtain ⟨acc, done⟩ := y
        cases done with
        | true => simp only [Bool.not_true, An, if_true]; rw [tl]
        | false => simp only [Bool.not_false, Bh, Bool.false_eq_true, if_false]; rw [Ae (by simp only at y3; omega), tl]
      ·rw [Ag c5, if_neg c5]; rfl
     ·rw [Ag (fun k => c4 k.symm), if_neg c4]; rfl
  ·rw [decide_eq_false c2, Bool.not_false, Bh, Option.bind_some, Bh, if_neg (fun k => c2 k.2.1)]; rfl
 ·rw [decide_eq_false c1, Bool.not_false, Bh, Option.bind_some, Bh, Option.bind_some, Bh, if_neg (fun k => c1 k.1)]; rfl
theorem Afi {d : DDoc} (h : D0 d) (hk : A8 d = true) {client seq base : Int} {o : List DPart} (hc : (Et d client seq base o).2.2 = 0) :
  A8 (Et d client seq base o).1 = true /\ (Et d client seq base o).1.name = d.name /\ ((Et d client seq base o).1 = d \/ ∃ e, (Et d client seq base o).1 = addE d e /\ Bz e = true /\ Bi d < 999999000) := by
 obtain ⟨d', r, c, e1, e2⟩ := Be4 h hk client seq base o
 rw [Aup h hk] at e1
 have e3 := Option.some.inj e1
 have g := e2 (by rw [e3] at hc; exact hc)
 rw [e3] at hc ⊢
 refine ⟨g.1, g.2.1, ?_⟩
 unfold Et at e3
 split at e3
 ·rename_i k
  split at e3
  ·left; rw [<- congrArg Prod.fst e3]
  ·split at e3
   ·split at e3
    ·rename_i c5
     split at e3
     ·have := congrArg (fun x => x.2.2) e3; simp only at this hc; omega
     ·rename_i c6
      right
      refine ⟨_, (congrArg Prod.fst e3).symm, ?_, by omega⟩
      unfold Bz
      simp only
      rw [decide_eq_true k.1, decide_eq_true k.2.1, (Atv hk c5).1]; rfl
    ·rename_i c5
     have := congrArg (fun x => x.2.2) e3; simp only at this hc; omega
   ·have := congrArg (fun x => x.2.2) e3; simp only at this hc; omega
 ·have := congrArg (fun x => x.2.2) e3; simp only at this hc; omega
theorem Aji (d : DDoc) (e : DEntry) : Bi (addE d e) = Bi d + 1 := by
 unfold addE Bi
 split <;> simp <;> omega
theorem Aa3 (d : DDoc) (e : DEntry) : (addE d e).list <:+ d.list ++ [e] /\ 0 < (addE d e).list.length /\ (8 <= (addE d e).list.length \/ (addE d e).list = d.list ++ [e]) := by
 unfold addE
 split
 ·rename_i h
  exact ⟨List.drop_suffix _ _, by simp only [List.length_drop]; omega, .inl (by simp only [List.length_drop]; omega)⟩
 ·exact ⟨List.suffix_refl _, by simp, .inr rfl⟩
theorem A85 (k : Int) : Zz k = some (decide (1 <= k /\ k <= 5)) := by unfold Zz; rw [Eu]; rfl
theorem Ber (k : Int) : Aai k = some (decide (1 <= k /\ k <= 5)) := by unfold Aai; rw [E9]; rfl
theorem Bea (k : Int) : Aaz k = some (decide (1 <= k /\ k <= 8)) := by unfold Aaz; rw [E9]; rfl
def Mt (c : DCall) : DCall :=
 if c.kind = 1 then ⟨c.kind, c.doc, 0, 0, 0, [], c.text⟩
 else if c.kind = 2 then ⟨c.kind, c.doc, c.client, c.seq, c.n, c.o, []⟩
 else if c.kind = 3 then ⟨c.kind, c.doc, 0, 0, c.n, [], []⟩
 else if c.kind = 4 then ⟨c.kind, c.doc, 0, 0, 0, [], []⟩
 else if c.kind = 5 then ⟨c.kind, c.doc, 0, 0, c.n, [], []⟩
 else if c.kind = 6 then ⟨c.kind, ByteArray.empty, c.client, 0, c.n, [], []⟩
 else if c.kind = 7 then ⟨c.kind, ByteArray.empty, c.client, 0, 0, [], []⟩
 else ⟨c.kind, ByteArray.empty, 0, 0, 0, [], []⟩
theorem Aj1 (a b : DCall) : (a = b) ↔ ((((((a.kind = b.kind /\ a.doc = b.doc) /\ a.client = b.client) /\ a.seq = b.seq) /\ a.n = b.n) /\ a.o = b.o) /\ a.text = b.text) := by cases a; cases b; simp [and_assoc]
theorem Arz {k : Int} (h : 1 <= k /\ k <= 8) : k = 1 \/ k = 2 \/ k = 3 \/ k = 4 \/ k = 5 \/ k = 6 \/ k = 7 \/ k = 8 := by omega
theorem A9s {c : DCall} (h : 1 <= c.kind /\ c.kind <= 8) : Aae c = some (Mt c) := by
 unfold Aae Mt
 rw [A85]
 rcases Arz h with h | h | h | h | h | h | h | h <;> simp [h]
theorem A8s (a b : DCall) : Zq a b = some (decide (a = b)) := by
 unfold Zq
 simp only [Aq6, Acq, Option.bind_some, Ci, Eh]
 refine G5 ?_
 simp only [Bool.and_eq_true, decide_eq_true_eq]
 exact (Aj1 a b).symm
noncomputable def Gt (c : DCall) : Bool := (((decide (1 <= c.kind /\ c.kind <= 8) && decide (c.doc.size <= 8)) && Cz c.o) && Bo c.text) && decide (c = Mt c)
theorem A8r (c : DCall) : Zp c = some (Gt c) := by
 unfold Zp Gt
 rw [Eu, Option.bind_some]
 by_cases h : 1 <= c.kind /\ c.kind <= 8
 ·rw [A9s h]
  simp only [Acw, Sn, A8s, Option.bind_some, Ci, Eh]
  rw [decide_eq_true h, show decide ((c.doc.size : Int) <= 8) = decide (c.doc.size <= 8) from decide_eq_decide.2 (by omega)]
 ·rw [decide_eq_false h]; rfl
theorem At5 (c : DCall) : U0 c = some (Gt c) := by
 unfold U0 Gt
 rw [Bea, Option.bind_some]
 by_cases h : 1 <= c.kind /\ c.kind <= 8
 ·rw [decide_eq_true h]
  simp only [Aez, Yx, Ber, Option.bind_some, Ci, D2, Eh, G6, A7, Bool.not_true, An]
  refine G5 ?_
  have h8 : ((c.doc.size : Int) <= 8) = (c.doc.size <= 8) := propext (by omega)
  have he : (⟨#[]⟩ : ByteArray) = ByteArray.empty := rfl
  rcases Arz h with h | h | h | h | h | h | h | h <;> simp only [he, Bool.and_eq_true, decide_eq_true_eq] <;> simp [h, Mt, Aj1, and_assoc, h8] <;> (intros; constructor <;> intro h <;> simp_all)
 ·rw [decide_eq_false h]; rfl
section
theorem Ast {s : ByteArray} (h : C5 s = true) : 1 <= s.size /\ s.size <= 8 := by
 unfold C5 at h
 cases hx : Gj s with
 | none => rw [hx] at h; cases h
 | some b =>
  rw [hx] at h
  have hb : b = true := h
  subst hb
  unfold Gj at hx
  cases hi : Bj (Mx s) 0 with
  | none => rw [hi] at hx; cases hx
  | some y =>
   rw [hi, Option.bind_some] at hx
   cases y with
   | inl a =>
    simp only [Sum.elim_inl] at hx
    rw [Eu, Option.bind_some] at hx
    have := of_decide_eq_true (Option.some.inj hx)
    omega
   | inr a => simp at hx
theorem S2 {s : ByteArray} (h : C5 s = true) : s.size <= 8 := (Ast h).2
theorem Ajv : ∀ {a b : List UInt8}, Op.bytesLess a b = false -> a ≠ b -> Op.bytesLess b a = true
 | [], [], _, h => absurd rfl h
 | [], b :: y, h, _ => by simp [Op.bytesLess] at h
 | a :: x, [], _, _ => by simp [Op.bytesLess]
 | a :: x, b :: y, h, hn => by
  rw [Op.bytesLess] at h ⊢
  simp only [Bool.or_eq_false_iff, Bool.and_eq_false_imp, beq_iff_eq, decide_eq_false_iff_not] at h
  by_cases hab : a = b
  ·subst hab
   have := Ajv (h.2 rfl) (fun k => hn (by rw [k]))
   simp [this]
  ·have h1 := h.1
   have h2 : b < a := by
    rw [UInt8.lt_iff_toNat_lt] at h1 ⊢
    have : a.toNat ≠ b.toNat := fun k => hab (UInt8.toNat_inj.1 k)
    omega
   simp [h2]
theorem Bd9 {a b : ByteArray} (h : De a b = false) (hn : a ≠ b) : De b a = true := by
 unfold De at h ⊢
 exact Ajv h (fun k => hn (by rw [ByteArray.toList_eq, ByteArray.toList_eq] at k; exact ByteArray.ext (Array.ext' k)))
section
variable {T : Type}
theorem Sq (p : T -> Bool) (x : T) (l : List T) : Cf p (x :: l) = if p x = true then 0 else if 0 <= Cf p l then Cf p l + 1 else -1 := by
 unfold Cf
 rw [List.any_cons, List.findIdx_cons]
 cases p x with
 | true => simp
 | false =>
  cases hl : l.any p with
  | true => simp
  | false => simp
theorem Arv [Inhabited T] (p : T -> Bool) : ∀ (l : List T), l.find? p = if 0 <= Cf p l then some (el l (Cf p l).toNat) else none
 | [] => by simp [Cf]
 | x :: l => by
  rw [Sq, List.find?_cons]
  cases h : p x with
  | true => simp [el]
  | false =>
   simp only [Bool.false_eq_true, if_false]
   rw [Arv p l]
   by_cases g : 0 <= Cf p l
   ·rw [if_pos g, if_pos g, if_pos (by omega), show (Cf p l + 1).toNat = (Cf p l).toNat + 1 by omega]; rfl
   ·rw [if_neg g, if_neg g, if_neg (by omega)]
theorem Arw {p : T -> Bool} {y : T} (hy : p y = true) : ∀ {l : List T}, 0 <= Cf p l -> Cf p (l.set (Cf p l).toNat y) = Cf p l
 | [], h => by simp [Cf] at h
 | x :: l, h => by
  rw [Sq] at h ⊢
  cases hx : p x with
  | true => simp only [if_true]; rw [show (0 : Int).toNat = 0 from rfl, List.set_cons_zero, Sq, hy]; rfl
  | false =>
   rw [hx] at h
   simp only [Bool.false_eq_true, if_false] at h ⊢
   by_cases g : 0 <= Cf p l
   ·rw [if_pos g, show (Cf p l + 1).toNat = (Cf p l).toNat + 1 by omega, List.set_cons_succ, Sq, hx]
    simp only [Bool.false_eq_true, if_false]
    rw [Arw hy g, if_pos g]
   ·rw [if_neg g] at h; omega
end
noncomputable def G8 (l : List DDoc) (n : ByteArray) : Option DDoc := l.find? (fun d => decide (d.name = n))
theorem Abg (l : List DDoc) (n : ByteArray) : G8 l n = if 0 <= A0 l n then some (el l (A0 l n).toNat) else none := Arv _ l
theorem V3 {l : List DDoc} {n : ByteArray} {d : DDoc} (h : G8 l n = some d) : 0 <= A0 l n /\ el l (A0 l n).toNat = d := by
 rw [Abg] at h
 split at h
 ·rename_i g; exact ⟨g, Option.some.inj h⟩
 ·cases h
theorem R8 {l : List DDoc} {n : ByteArray} {d : DDoc} (h : G8 l n = some d) : d ∈ l /\ d.name = n := ⟨List.mem_of_find?_eq_some h, of_decide_eq_true (List.find?_some (p := fun d : DDoc => decide (d.name = n)) h)⟩
theorem Abh {n m : ByteArray} {d' : DDoc} (hd : d'.name = n) : ∀ {l : List DDoc}, 0 <= A0 l n -> G8 (l.set (A0 l n).toNat d') m = if m = n then some d' else G8 l m
 | [], h => by simp [A0, Cf] at h
 | x :: l, h => by
  unfold A0 at h ⊢
  rw [Sq] at h ⊢
  unfold G8
  by_cases hx : x.name = n
  ·rw [decide_eq_true hx]
   simp only [if_true]
   rw [show (0 : Int).toNat = 0 from rfl, List.set_cons_zero, List.find?_cons, List.find?_cons, hd, hx]
   by_cases g : m = n
   ·subst g; simp
   ·rw [decide_eq_false (fun k => g k.symm), if_neg g]
  ·rw [decide_eq_false hx] at h ⊢
   simp only [Bool.false_eq_true, if_false] at h ⊢
   by_cases g : 0 <= Cf (fun d : DDoc => decide (d.name = n)) l
   ·have ih := Abh hd (l := l) (m := m) g
    unfold G8 A0 at ih
    rw [if_pos g, show (Cf (fun d : DDoc => decide (d.name = n)) l + 1).toNat = (Cf (fun d : DDoc => decide (d.name = n)) l).toNat + 1 by omega, List.set_cons_succ, List.find?_cons, List.find?_cons, ih]
    by_cases q : m = n
    ·subst q; rw [decide_eq_false hx]
    ·simp only [if_neg q]
   ·rw [if_neg g] at h; omega
def Yy (docs : List DDoc) (last : Int) (s : DSub) : Prop := (1 <= s.id /\ s.id <= last) /\ Db s.r = true /\ ∃ d, G8 docs s.doc = some d /\ (s.r.out = false -> s.r.next + (s.r.list.length : Int) = Bi d + 1 /\ s.r.list <:+ d.list)
structure HInv (h : DHub) : Prop where
 nd : h.docs.length <= 5
 ns : h.subs.length <= 6
 la : 0 <= h.last /\ h.last <= 1000000000
 cd : Cp Ei none h.docs = true
 ci : List.Pairwise (fun a b => a.id < b.id) h.subs
 sg : ∀ s ∈ h.subs, Yy h.docs h.last s
theorem HInv.doc {h : DHub} (i : HInv h) {d : DDoc} (hd : d ∈ h.docs) : A8 d = true := Abi i.cd d hd
theorem HInv.sd {h : DHub} (i : HInv h) {d : DDoc} (hd : d ∈ h.docs) : D0 d := Afc (by have := S2 (S1 (i.doc hd)); omega) (i.doc hd)
theorem Bf4 {h : DHub} {s : DSub} (g : Yy h.docs h.last s) {p : Option DSub} (hp : ∀ q, p = some q -> q.id < s.id) : Ik h p s = true := by
 obtain ⟨g1, g2, d, g3, g4⟩ := g
 obtain ⟨e1, e2⟩ := V3 g3
 unfold Ik
 rw [decide_eq_true g1, g2, decide_eq_true e1, e2]
 have : Hg (fun p => decide (s.id <= p.id)) p = false := by
  cases p with
  | none => rfl
  | some q => have := hp q rfl; exact decide_eq_false (by omega)
 rw [this]
 cases ho : s.r.out with
 | true => rfl
 | false => rw [decide_eq_true (g4 ho).1]; rfl
theorem Au9 {h : DHub} : ∀ {l : List DSub} {p : Option DSub}, List.Pairwise (fun a b => a.id < b.id) l -> (∀ s ∈ l, Yy h.docs h.last s) -> (∀ q, p = some q -> ∀ s ∈ l, q.id < s.id) -> Cp (Ik h) p l = true
 | [], _, _, _, _ => rfl
 | x :: l, p, hp, hg, hq => by
  rw [List.pairwise_cons] at hp
  rw [Cp, Bf4 (hg x (by simp)) (fun q hq' => hq q hq' x (by simp)), Au9 hp.2 (fun s hs => hg s (by simp [hs])) (fun q hq' s hs => by cases hq'; exact hp.1 s hs)]
  rfl
theorem HInv.ok {h : DHub} (i : HInv h) : L6 h = true := by
 rw [Adl ⟨⟨i.nd, i.ns⟩, i.la⟩, i.cd, Au9 i.ci i.sg (fun q hq => by cases hq)]
 rfl
theorem Od {r : DRing} (h : Db r = true) : Ef Gz r.list := by
 have g := Gu h
 exact ⟨by have := g.1; have := g.2.2.1; omega, fun e he => V9 (List.all_eq_true.1 g.2.2.2.2 e he)⟩
theorem HInv.sm {h : DHub} (i : HInv h) : Afb h := by
 refine ⟨trivial, ⟨by have := i.nd; omega, fun d hd => i.sd hd⟩, ⟨by have := i.ns; omega, fun s hs => ?_⟩, trivial⟩
 obtain ⟨_, g2, d, g3, _⟩ := i.sg s hs
 have hn := R8 g3
 exact ⟨trivial, by have := S2 (S1 (i.doc hn.1)); rw [hn.2] at this; unfold Qv; omega, trivial, trivial, trivial, Od g2⟩
theorem HInv.i {h : DHub} (i : HInv h) : Gi h = some true := by rw [A8x h i.sm, i.ok]
theorem HInv.s {h : DHub} (i : HInv h) : Ho h = some true := by rw [Beh h i.sm, i.ok]
theorem Acu {r : DRing} (h : Db r = true) : Pa r = some r := by unfold Pa; rw [W8 (Od h)]; rfl
theorem Ae2 {r : DRing} (h : Db r = true) : Rk r = some r := by unfold Rk; rw [Oh (Od h)]; rfl
theorem HInv.ic {h : DHub} (i : HInv h) : Dw h = some h := by
 have h1 := Kc (F := Z9 h) (e := fun (s190 : Bool × List DDoc × Int) => ((s190.1, s190.2.1, s190.2.2) : Bool × List DDoc × Int)) h.docs (fun r k s => s.2.1.length <= k) (fun s d => (s.1, s.2.1 ++ [d], s.2.2)) (fun x r k s hk hx hP => by
  have hm : x ∈ h.docs := by rw [<- hx]; exact Cl hk
  have := i.nd
  unfold Z9 Agu
  rw [hx, Aco (i.sd hm) (i.doc hm), Option.bind_some, Ae (by simp only [List.length_cons, List.length_nil]; omega)]
  exact ⟨rfl, by simp; omega⟩) (h.shut, [], h.last) (by simp)
 have h2 := Kc (F := Aaa h) (e := fun (s312 : Bool × List DDoc × List DSub × Int) => ((s312.1, s312.2.1, s312.2.2.1, s312.2.2.2) : Bool × List DDoc × List DSub × Int)) h.subs (fun r k s => s.2.2.1.length <= k) (fun s d => (s.1, s.2.1, s.2.2.1 ++ [d], s.2.2.2)) (fun x r k s hk hx hP => by
  have hm : x ∈ h.subs := by rw [<- hx]; exact Cl hk
  have := i.ns
  unfold Aaa Agv
  rw [hx, Acu (i.sg x hm).2.1, Option.bind_some, Ae (by omega)]
  exact ⟨rfl, by simp; omega⟩) (h.shut, h.docs, [], h.last) (by simp)
 have e1 : ∀ (l : List DDoc) (s : Bool × List DDoc × Int), l.foldl (fun s d => (s.1, s.2.1 ++ [d], s.2.2)) s = (s.1, s.2.1 ++ l, s.2.2) := fun l => by
  induction l with
  | nil => intro s; simp
  | cons x l ih => intro s; rw [List.foldl_cons, ih]; simp
 have e2 : ∀ (l : List DSub) (s : Bool × List DDoc × List DSub × Int), l.foldl (fun s d => (s.1, s.2.1, s.2.2.1 ++ [d], s.2.2.2)) s = (s.1, s.2.1, s.2.2.1 ++ l, s.2.2.2) := fun l => by
  induction l with
  | nil => intro s; simp
  | cons x l ih => intro s; rw [List.foldl_cons, ih]; simp
 unfold Dw
 rw [h1, Option.bind_some, e1]
 simp only [List.nil_append]
 rw [h2, Option.bind_some, e2]
 rfl
theorem HInv.sc {h : DHub} (i : HInv h) : D1 h = some h := by
 have h1 := Kc (F := Aav h) (e := fun (s190 : Bool × List DDoc × Int) => ((s190.1, s190.2.1, s190.2.2) : Bool × List DDoc × Int)) h.docs (fun r k s => s.2.1.length <= k) (fun s d => (s.1, s.2.1 ++ [d], s.2.2)) (fun x r k s hk hx hP => by
  have hm : x ∈ h.docs := by rw [<- hx]; exact Cl hk
  have := i.nd
  unfold Aav Ah7
  rw [hx, Tp (i.sd hm) (i.doc hm), Option.bind_some, Ae (by simp only [List.length_cons, List.length_nil]; omega)]
  exact ⟨rfl, by simp; omega⟩) (h.shut, [], h.last) (by simp)
 have h2 := Kc (F := Aaw h) (e := fun (s312 : Bool × List DDoc × List DSub × Int) => ((s312.1, s312.2.1, s312.2.2.1, s312.2.2.2) : Bool × List DDoc × List DSub × Int)) h.subs (fun r k s => s.2.2.1.length <= k) (fun s d => (s.1, s.2.1, s.2.2.1 ++ [d], s.2.2.2)) (fun x r k s hk hx hP => by
  have hm : x ∈ h.subs := by rw [<- hx]; exact Cl hk
  have := i.ns
  unfold Aaw Ah8 Aax
  rw [hx, Ae2 (i.sg x hm).2.1, Option.bind_some, Option.bind_some, Ae (by simp only [List.length_cons, List.length_nil]; omega)]
  exact ⟨rfl, by simp; omega⟩) (h.shut, h.docs, [], h.last) (by simp)
 have e1 : ∀ (l : List DDoc) (s : Bool × List DDoc × Int), l.foldl (fun s d => (s.1, s.2.1 ++ [d], s.2.2)) s = (s.1, s.2.1 ++ l, s.2.2) := fun l => by
  induction l with
  | nil => intro s; simp
  | cons x l ih => intro s; rw [List.foldl_cons, ih]; simp
 have e2 : ∀ (l : List DSub) (s : Bool × List DDoc × List DSub × Int), l.foldl (fun s d => (s.1, s.2.1, s.2.2.1 ++ [d], s.2.2.2)) s = (s.1, s.2.1, s.2.2.1 ++ l, s.2.2.2) := fun l => by
  induction l with
  | nil => intro s; simp
  | cons x l ih => intro s; rw [List.foldl_cons, ih]; simp
 unfold D1
 rw [h1, Option.bind_some, e1]
 simp only [List.nil_append]
 rw [h2, Option.bind_some, e2]
 rfl
end
def Ds : DHub := ⟨false, [], [], 0⟩
def Gd (room rev : Int) : DRing := ⟨room, rev + 1, false, []⟩
theorem Yp {room rev : Int} (h1 : 1 <= room /\ room <= 6) (h2 : 0 <= rev /\ rev <= 999999999) : Db (Gd room rev) = true := by
 unfold Db Gd
 simp only
 rw [decide_eq_true h1, decide_eq_true (show 1 <= rev + 1 /\ rev + 1 <= 1000000000 by omega), decide_eq_true (show (([] : List DEntry).length : Int) <= room by simp; omega)]
 rfl
theorem Aq7 {room rev : Int} (h1 : 1 <= room /\ room <= 6) (h2 : 0 <= rev /\ rev <= 999999999) : Um room rev = some (Gd room rev, true) := by
 have := Yp h1 h2
 unfold Gd at this ⊢
 unfold Um
 rw [Av (by omega) (by omega), Sm, this]; rfl
theorem Aui {room rev : Int} (h1 : 1 <= room /\ room <= 6) (h2 : 0 <= rev /\ rev <= 999999999) : U8 room rev = some (Gd room rev, true) := by
 have := Yp h1 h2
 unfold Gd at this ⊢
 unfold U8
 rw [Ag (by omega), Av (by omega) (by omega), Ts, this]; rfl
theorem A9d {r : DRing} {rev : Int} (h : Db r = true) (h2 : 0 <= rev /\ rev <= 999999999) : Z6 r rev = some (Gd r.cap rev, true) := by
 unfold Z6
 rw [Sm, h, Option.bind_some, Bool.not_true, An, Aq7 (Gu h).1 h2]; rfl
theorem Bey {r : DRing} {rev : Int} (h : Db r = true) (h2 : 0 <= rev /\ rev <= 999999999) : Aap r rev = some (Gd r.cap rev, true) := by
 unfold Aap
 rw [Ts, h, Option.bind_some, Bool.not_true, An, Aui (Gu h).1 h2]; rfl
def Mf (r : DRing) (e : DEntry) : DRing := if r.out = true then r else if (r.list.length : Int) = r.cap then ⟨r.cap, r.next, true, []⟩ else ⟨r.cap, r.next, r.out, r.list ++ [e]⟩
theorem A9c {r : DRing} {e : DEntry} (h : Db r = true) (he : Bz e = true) : Z5 r e = some (Mf r e) := by
 have g := Gu h
 unfold Z5 Mf
 rw [Acu h, Option.bind_some, Sm, h, Option.bind_some, Bool.not_true, An, W5, he, Option.bind_some, Option.bind_some, Bool.not_true, An, Option.bind_some]
 cases ho : r.out with
 | true => rfl
 | false =>
  rw [An, if_neg (by decide)]
  by_cases c : (r.list.length : Int) = r.cap
  ·rw [Ak c, if_pos c]
  ·rw [Ag c, if_neg c, W8 ⟨by simp, fun x hx => by rw [List.mem_singleton.1 hx]; exact V9 he⟩, Option.bind_some, Ae (by simp only [List.length_cons, List.length_nil]; omega)]
theorem Bex {r : DRing} {e : DEntry} (h : Db r = true) (he : Bz e = true) : Aao r e = some (Mf r e) := by
 have g := Gu h
 unfold Aao Mf
 rw [Ae2 h, Option.bind_some, Ts, h, Option.bind_some, Bool.not_true, An, Aew, he, Option.bind_some, Option.bind_some, Bool.not_true, An, Option.bind_some]
 cases ho : r.out with
 | true => rfl
 | false =>
  rw [An, if_neg (by decide)]
  by_cases c : (r.list.length : Int) = r.cap
  ·rw [Ak c, if_pos c]
  ·rw [Ag c, if_neg c, At7 (V9 he), Option.bind_some, Ae (by simp only [List.length_cons, List.length_nil]; omega)]
def H1 (r : DRing) (n : Int) : DRing × List DEntry × Int := if r.out = true then (r, [], 9) else (⟨r.cap, r.next + min n (r.list.length : Int), r.out, r.list.drop (min n (r.list.length : Int)).toNat⟩, r.list.take (min n (r.list.length : Int)).toNat, 0)
theorem A9b {r : DRing} {n : Int} (h : Db r = true) (hn : 1 <= n) : Z4 r n = some (H1 r n) := by
 have g := Gu h
 unfold Z4 H1
 rw [Acu h, Option.bind_some, Sm, h, Option.bind_some, Bool.not_true, An, Option.bind_some, Ag (by omega)]
 cases ho : r.out with
 | true => rfl
 | false => rw [An, if_neg (by decide), Ae ⟨by omega, rfl, by omega⟩, Ae ⟨by omega, by omega⟩, Ae ⟨by omega, by omega⟩, Av (by omega) (by omega), List.take_length, List.drop_zero]
theorem Bew {r : DRing} {n : Int} (h : Db r = true) (hn : 1 <= n) : Aan r n = some (H1 r n) := by
 have g := Gu h
 have sd : ∀ k, Ef Gz (r.list.drop k) := fun k => Tx (Od h) k
 have st : ∀ k, Ef Gz (r.list.take k) := fun k => ⟨by have := (Od h).1; rw [List.length_take]; omega, fun x hx => (Od h).2 x (List.mem_of_mem_take hx)⟩
 unfold Aan H1
 rw [Ae2 h, Option.bind_some, Ts, h, Option.bind_some, Bool.not_true, An, Option.bind_some, Ag (by omega)]
 cases ho : r.out with
 | true => rfl
 | false =>
  rw [An, if_neg (by decide)]
  by_cases c : (r.list.length : Int) < n
  ·rw [Ak c, Ae ⟨by omega, by omega⟩, List.take_length, Oh (sd _), Option.bind_some, Av (by omega) (by omega), Ae ⟨by omega, by omega⟩, List.drop_zero, Oh (st _), Option.bind_some, show min n (r.list.length : Int) = r.list.length by omega]
  ·rw [Ag c, Ae ⟨by omega, by omega⟩, List.take_length, Oh (sd _), Option.bind_some, Av (by omega) (by omega), Ae ⟨by omega, by omega⟩, List.drop_zero, Oh (st _), Option.bind_some, show min n (r.list.length : Int) = n by omega]
noncomputable def Cd (l : List DSub) (n : Int) : Int := Cf (fun d => decide (d.id = n)) l
theorem Aq4 (h : DHub) (n : Int) : Ui h n = some (Cd h.subs n) := by
 unfold Ui Uy
 rw [V7 h.subs (fun d => decide (d.id = n)) n (fun k => (Sum.inr (k, n) : Sum Int (Int × Int))) (fun x k hk hx => by
  unfold Ag9 Ag8 Zv
  rw [hx, Option.bind_some]
  cases decide (x.id = n) <;> rfl), Option.bind_some]
 have hg := Xg (fun d : DSub => decide (d.id = n)) h.subs
 unfold Cd
 split
 ·rfl
 ·rw [show Cf (fun d : DSub => decide (d.id = n)) h.subs = -1 by omega]; rfl
theorem Aex (h : DHub) (n : Int) : La h n = some (Cd h.subs n) := by
 unfold La
 rw [V7 h.subs (fun d => decide (d.id = n)) () (fun k => (Sum.inr k : Sum Unit Int)) (fun x k hk hx => by
  unfold Ahk Ahj
  rw [hx]
  cases decide (x.id = n) <;> rfl), Option.bind_some]
 have hg := Xg (fun d : DSub => decide (d.id = n)) h.subs
 unfold Cd
 split
 ·rfl
 ·rw [show Cf (fun d : DSub => decide (d.id = n)) h.subs = -1 by omega]; rfl
theorem Oo {l : List DSub} {n : Int} (h : 0 <= Cd l n) : (Cd l n).toNat < l.length /\ Cd l n < l.length /\ (el l (Cd l n).toNat).id = n /\ el l (Cd l n).toNat ∈ l := by
 have g := Ac6 h
 exact ⟨g.1, P9 _ _, of_decide_eq_true g.2, Cl g.1⟩
def Hx (d : DDoc) : List DDoc -> List DDoc
 | [] => [d]
 | y :: r => if De y.name d.name = true then y :: Hx d r else d :: y :: r
def Kn (n : ByteArray) (l : List DDoc) : Nat := (l.takeWhile fun s => De s.name n).length
theorem Ash (n : ByteArray) (y : DDoc) (l : List DDoc) : Kn n (y :: l) = if De y.name n = true then Kn n l + 1 else 0 := by
 unfold Kn
 rw [List.takeWhile_cons]
 cases h : De y.name n <;> simp
theorem Asi (n : ByteArray) (l : List DDoc) : Kn n l <= l.length := (List.takeWhile_prefix _).length_le
theorem Adj (x : DDoc) : ∀ l : List DDoc, l.take (Kn x.name l) ++ [x] ++ l.drop (Kn x.name l) = Hx x l
 | [] => rfl
 | y :: r => by
  rw [Ash, Hx]
  by_cases h : De y.name x.name = true
  ·rw [if_pos h, if_pos h, <- Adj x r]; rfl
  ·rw [if_neg h, if_neg h]; rfl
theorem As7 {f : Int -> Option (Lr Int Int)} (l : List DDoc) (n : ByteArray) (hl : l.length <= 8)
  (hf : ∀ k : Int, f k = Option.bind (bif decide (k < (l.length : Int)) then (xg (0 <= k /\ k < (l.length : Int)) <| some (De ((el l k.toNat).name) n)) else (some false)) fun c148 => bif c148 then (xg (Ac (k + 1)) <| some (Lr.go (k + 1))) else (some (Lr.out k))) : Bj f 0 = some ((Kn n l : Nat) : Int) := by
 have key := Xf (f := f) (fun s => 0 <= s /\ s <= l.length) (fun s => ((l.length : Int) - s).toNat) (fun s => s + (Kn n (l.drop s.toNat) : Nat)) (fun s hP => by
  rw [hf]
  by_cases h : s < (l.length : Int)
  ·have hd := Abj (l := l) (i := s.toNat) (by omega)
   rw [Ak h, Ae ⟨hP.1, h⟩, Option.bind_some, hd, Ash]
   cases g : De (el l s.toNat).name n with
   | true =>
    rw [Bh, if_pos rfl, Av (by omega) (by omega)]
    exact .inl ⟨_, rfl, by omega, by omega, by rw [show (s + 1).toNat = s.toNat + 1 by omega]; omega⟩
   | false => rw [An, if_neg (by decide)]; exact .inr (by simp)
  ·rw [Ag h, Option.bind_some, An, show s.toNat = l.length by omega, List.drop_length]; exact .inr (by simp [Kn])) 0 (by omega)
 rw [key]; simp
noncomputable def Er (h : DHub) (name : ByteArray) (t : List Int) : DHub × Int :=
 if C5 name = true /\ Bo t = true then (if h.shut = true then (Ds, 12) else if 0 <= A0 h.docs name then (Ds, 7) else if h.docs.length = 5 then (Ds, 10) else (⟨h.shut, Hx ⟨name, 0, t, [], []⟩ h.docs, h.subs, h.last⟩, 0)) else (Ds, 1)
theorem Asg {name : ByteArray} (hn : C5 name = true) {t : List Int} (ht : Bo t = true) : A8 ⟨name, 0, t, [], []⟩ = true := (At6 hn (S2 hn) ht).2
theorem A8u {name : ByteArray} (hn : C5 name = true) {t : List Int} (ht : Bo t = true) : Zr name t = some (⟨name, 0, t, [], []⟩, true) := by
 have hl := Gv ht
 have hk := Asg hn ht
 unfold Zr
 rw [W9 (by omega), Option.bind_some, Ny _ (Afc (by have := S2 hn; simp only; omega) hk), hk]
 rfl
theorem A8y {h : DHub} (i : HInv h) (name : ByteArray) (hz : name.size <= 1099511627776) (t : List Int) : Zu h name t = some (Er h name t) := by
 have hl := i.nd
 unfold Zu Er
 rw [i.i, Option.bind_some, Bool.not_true, An, Acr _ (by omega), Option.bind_some, Option.bind_some]
 cases hn : C5 name with
 | false => rw [if_neg (fun k => by cases k.1)]; rfl
 | true =>
  rw [Bool.not_true, An, Sn, Option.bind_some, Option.bind_some]
  cases ht : Bo t with
  | false => rw [if_neg (fun k => by cases k.2)]; rfl
  | true =>
   rw [Bool.not_true, An, if_pos ⟨rfl, rfl⟩]
   cases hs : h.shut with
   | true => rfl
   | false =>
    rw [An, if_neg (by decide), P8, Option.bind_some]
    by_cases c : 0 <= A0 h.docs name
    ·rw [Ak c, if_pos c]; rfl
    ·rw [Ag c, if_neg c]
     by_cases e : h.docs.length = 5
     ·rw [Ak (by omega), if_pos e]; rfl
     ·have hle := Asi name h.docs
      have hix := Adj ⟨name, 0, t, [], []⟩ h.docs
      simp only at hix
      rw [Ag (by omega), if_neg e, A8u hn ht, Option.bind_some, i.ic, Option.bind_some, As7 h.docs name (by omega) (fun k => by unfold Awh Awg; rfl), Option.bind_some]
      unfold Ub K6
      simp only
      rw [Ae ⟨by omega, by omega⟩, Ae (by omega), Option.bind_some, Int.toNat_natCast, hix, hs]
theorem Bed {name : ByteArray} (hz : name.size <= 1099511627776) {t : List Int} (ht : t.length <= 1099511627776) : Q7 name t = some (if C5 name = true /\ Bo t = true then (⟨name, 0, t, [], []⟩, true) else (D3, false)) := by
 by_cases c : C5 name = true /\ Bo t = true
 ·rw [if_pos c]; exact (At6 c.1 (S2 c.1) c.2).1
 ·unfold Q7
  rw [if_neg c, Ae (by omega), Ih ⟨name, 0, [] ++ t, [], []⟩ ⟨hz, trivial, ⟨ht, fun _ _ => trivial⟩, ⟨by simp, fun _ h => by cases h⟩, ⟨by simp, fun _ h => by cases h⟩⟩, Option.bind_some]
  have : A8 ⟨name, 0, [] ++ t, [], []⟩ = false := by
   cases hk : A8 ⟨name, 0, [] ++ t, [], []⟩ with
   | false => rfl
   | true => exact absurd ⟨S1 hk, (F8 hk).2.1⟩ c
  rw [this]; rfl
theorem Yu {h : DHub} (i : HInv h) (name : ByteArray) (hz : name.size <= 1099511627776) (t : List Int) (ht : t.length <= 1099511627776) : Jt h name t = some (Er h name t) := by
 have hl := i.nd
 unfold Jt Er
 rw [Bed hz ht, Option.bind_some, i.s, Option.bind_some, Bool.not_true, An, Option.bind_some]
 by_cases c0 : C5 name = true /\ Bo t = true
 ·rw [if_pos c0, if_pos c0]
  simp only
  rw [Bool.not_true, An]
  cases hs : h.shut with
  | true => rfl
  | false =>
   rw [An, if_neg (by decide), Mi, Option.bind_some]
   by_cases c : 0 <= A0 h.docs name
   ·rw [Ak c, if_pos c]; rfl
   ·rw [Ag c, if_neg c]
    by_cases e : h.docs.length = 5
    ·rw [Ak (by omega), if_pos e]; rfl
    ·have hle := Asi name h.docs
     have hix := Adj ⟨name, 0, t, [], []⟩ h.docs
     simp only at hix
     rw [Ag (by omega), if_neg e, i.sc, Option.bind_some, As7 h.docs name (by omega) (fun k => by unfold Awt Aws; rfl), Option.bind_some]
     rw [Ae ⟨by omega, by omega⟩, Ae (by simp only [List.drop_zero, List.length_take]; omega), Ae (by simp only [List.drop_zero, List.length_take, List.nil_append]; omega), Ae ⟨by omega, by omega⟩, Ae (by simp only [List.drop_zero, List.length_take, List.length_drop, List.length_append, List.length_cons, List.length_nil]; omega), Int.toNat_natCast, List.take_length, List.drop_zero, List.nil_append, hix, hs]
 ·rw [if_neg c0, if_neg c0]; rfl
theorem run_map {F : Nat -> List DSub -> Option (Lr (List DSub) (List DSub))} (f : DSub -> DSub) (q : DSub -> Prop) (l : List DSub) (hq : ∀ s ∈ l, q s)
  (hf : ∀ k (m : List DSub), k < m.length -> q (el m k) -> F k m = some (Lr.go (m.set k (f (el m k))))) : Aq F (fun s => s) l.length 0 l = some (l.map f) := by
 have key := Ff (F := F) (e := fun s => s) l (fun r k m => (∃ p, p.length = k /\ m = p ++ r) /\ ∀ s ∈ r, q s) (fun r k m => m.take k ++ r.map f) (fun s hP => by
  obtain ⟨⟨p, h1, h2⟩, _⟩ := hP
  rw [List.append_nil] at h2
  subst h2
  rw [<- h1, List.take_length]; simp) (fun x r k m hk hx hP => by
  obtain ⟨⟨p, h1, h2⟩, h3⟩ := hP
  have he : el m k = x := by rw [h2, <- h1, Sa]
  have hs : m.set k (f x) = p ++ f x :: r := by rw [h2, <- h1, Bfo]
  refine .inl ⟨p ++ f x :: r, ?_, ⟨⟨p ++ [f x], by simp [h1], by simp⟩, fun s hs => h3 s (by simp [hs])⟩, ?_⟩
  ·rw [hf k m (by rw [h2, <- h1]; simp) (by rw [he]; exact h3 x (by simp)), he, hs]
  ·rw [h2, <- h1, List.take_left']
   ·rw [show p ++ f x :: r = (p ++ [f x]) ++ r by simp, List.take_left' (by simp)]; simp
   ·rfl) l ⟨⟨[], rfl, rfl⟩, hq⟩
 rw [key]; simp
def Oq (name : ByteArray) (e : DEntry) (s : DSub) : DSub := if s.doc = name then ⟨s.id, s.doc, Mf s.r e⟩ else s
noncomputable def Hv (h : DHub) (name : ByteArray) (client seq base : Int) (o : List DPart) : DHub × Int × Int :=
 if h.shut = true then (Ds, 0, 12) else if A0 h.docs name < 0 then (Ds, 0, 6)
 else if (Et (el h.docs (A0 h.docs name).toNat) client seq base o).2.2 = 0 then
  (⟨h.shut, h.docs.set (A0 h.docs name).toNat (Et (el h.docs (A0 h.docs name).toNat) client seq base o).1, if Bi (el h.docs (A0 h.docs name).toNat) < Bi (Et (el h.docs (A0 h.docs name).toNat) client seq base o).1 then h.subs.map (Oq name (el (Et (el h.docs (A0 h.docs name).toNat) client seq base o).1.list ((Et (el h.docs (A0 h.docs name).toNat) client seq base o).1.list.length - 1))) else h.subs, h.last⟩, (Et (el h.docs (A0 h.docs name).toNat) client seq base o).2.1, 0)
 else (Ds, 0, (Et (el h.docs (A0 h.docs name).toNat) client seq base o).2.2)
theorem Il {h : DHub} (i : HInv h) {name : ByteArray} (c : 0 <= A0 h.docs name) : (A0 h.docs name).toNat < h.docs.length /\ A0 h.docs name < (h.docs.length : Int) /\ A8 (el h.docs (A0 h.docs name).toNat) = true /\ D0 (el h.docs (A0 h.docs name).toNat) := by
 have g := Ac6 c
 have hm := Cl (l := h.docs) g.1
 exact ⟨g.1, P9 _ _, i.doc hm, i.sd hm⟩
theorem Qz {h : DHub} (i : HInv h) : ∀ s ∈ h.subs, Db s.r = true := fun s hs => (i.sg s hs).2.1
theorem A82 {h : DHub} (i : HInv h) (name : ByteArray) (client seq base : Int) (o : List DPart) : Zw h name client seq base o = some (Hv h name client seq base o) := by
 unfold Zw Hv
 rw [P8, Option.bind_some, i.i, Option.bind_some, Bool.not_true, An]
 cases hs : h.shut with
 | true => rfl
 | false =>
  rw [An, if_neg (by decide)]
  by_cases c : A0 h.docs name < 0
  ·rw [Ak c, if_pos c]; rfl
  ·obtain ⟨k1, k2, k3, k4⟩ := Il i (name := name) (by omega)
   rw [Ag c, if_neg c, Ae ⟨by omega, k2⟩, A9f k4 k3, Option.bind_some, A7]
   have hok := Afi k4 k3 (client := client) (seq := seq) (base := base) (o := o)
   generalize Et (el h.docs (A0 h.docs name).toNat) client seq base o = r at hok ⊢
   by_cases c1 : r.2.2 = 0
   ·obtain ⟨o1, o2, o3⟩ := hok c1
    rw [Ak c1, if_pos c1, i.ic, Option.bind_some, Ae ⟨by omega, k2⟩, Nz o1, Option.bind_some, Ae ⟨by omega, k2⟩, Nz k3, Option.bind_some]
    by_cases c2 : Bi (el h.docs (A0 h.docs name).toNat) < Bi r.1
    ·rw [Ak c2, if_pos c2]
     have hl : 0 < r.1.list.length /\ Bz (el r.1.list (r.1.list.length - 1)) = true := by
      rcases o3 with o3 | ⟨e, o3, _⟩
      ·rw [o3] at c2; omega
      ·have := (Aa3 (el h.docs (A0 h.docs name).toNat) e).2.1
       rw [<- o3] at this
       exact ⟨this, List.all_eq_true.1 (F8 o1).2.2.2.1 _ (Cl (by omega))⟩
     have l8 := (D6 o1).2
     rw [run_map (F := Agn name r client seq o) (Oq name (el r.1.list (r.1.list.length - 1))) (fun s => Db s.r = true) h.subs (Qz i) (fun k m hk hr => by
      unfold Agn Awi Oq
      by_cases c3 : (el m k).doc = name
      ·rw [Ak c3, if_pos c3, Av (by omega) (by omega), Ae ⟨by omega, by omega⟩, show ((r.1.list.length : Int) - 1).toNat = r.1.list.length - 1 by omega, A9c hr hl.2]; rfl
      ·rw [Ag c3, if_neg c3, G9 hk, List.set_getElem_self]), Option.bind_some, hs]
    ·rw [Ag c2, if_neg c2, hs]
   ·rw [Ag c1, if_neg c1]; rfl
theorem Aub {h : DHub} (i : HInv h) (name : ByteArray) (client seq base : Int) (o : List DPart) : U4 h name client seq base o = some (Hv h name client seq base o) := by
 unfold U4 Hv
 rw [Mi, Option.bind_some, i.s, Option.bind_some, Bool.not_true, An]
 cases hs : h.shut with
 | true => rfl
 | false =>
  rw [An, if_neg (by decide)]
  by_cases c : A0 h.docs name < 0
  ·rw [Ak c, if_pos c]; rfl
  ·obtain ⟨k1, k2, k3, k4⟩ := Il i (name := name) (by omega)
   rw [Ag c, if_neg c, Ae ⟨by omega, k2⟩, Aup k4 k3, Option.bind_some, A7]
   have hok := Afi k4 k3 (client := client) (seq := seq) (base := base) (o := o)
   generalize Et (el h.docs (A0 h.docs name).toNat) client seq base o = r at hok ⊢
   by_cases c1 : r.2.2 = 0
   ·obtain ⟨o1, o2, o3⟩ := hok c1
    rw [Ak c1, if_pos c1, i.sc, Option.bind_some, Ae ⟨by omega, k2⟩, Oi o1, Option.bind_some, Ae ⟨by omega, k2⟩, Oi k3, Option.bind_some]
    by_cases c2 : Bi (el h.docs (A0 h.docs name).toNat) < Bi r.1
    ·rw [Ag (by omega), if_pos c2]
     have hl : 0 < r.1.list.length /\ Bz (el r.1.list (r.1.list.length - 1)) = true := by
      rcases o3 with o3 | ⟨e, o3, _⟩
      ·rw [o3] at c2; omega
      ·have := (Aa3 (el h.docs (A0 h.docs name).toNat) e).2.1
       rw [<- o3] at this
       exact ⟨this, List.all_eq_true.1 (F8 o1).2.2.2.1 _ (Cl (by omega))⟩
     have l8 := (D6 o1).2
     rw [Av (by omega) (by omega), Ae ⟨by omega, by omega⟩, run_map (F := Ahl name r client seq o) (Oq name (el r.1.list (r.1.list.length - 1))) (fun s => Db s.r = true) h.subs (Qz i) (fun k m hk hr => by
      unfold Ahl Awu Oq
      by_cases c3 : (el m k).doc = name
      ·rw [Ak c3, if_pos c3, show ((r.1.list.length : Int) - 1).toNat = r.1.list.length - 1 by omega, Bex hr hl.2]; rfl
      ·rw [Ag c3, if_neg c3, G9 hk, List.set_getElem_self]), Option.bind_some, hs]
    ·have : Bi r.1 = Bi (el h.docs (A0 h.docs name).toNat) := by
      rcases o3 with o3 | ⟨e, o3, _⟩
      ·rw [o3]
      ·rw [o3, Aji] at c2; omega
     rw [Ak this, if_neg c2, hs]
   ·rw [Ag c1, if_neg c1]; rfl
theorem Kf {d : DDoc} (h : A8 d = true) : 0 <= Bi d /\ Bi d <= 999999008 := by
 have := D6 h
 unfold Bi
 omega
noncomputable def Hw (h : DHub) (name : ByteArray) (room : Int) : DHub × Int × Int :=
 if 1 <= room /\ room <= 6 then (if h.shut = true then (Ds, 0, 12) else if A0 h.docs name < 0 then (Ds, 0, 6) else if h.subs.length = 6 \/ h.last = 1000000000 then (Ds, 0, 10)
  else (⟨h.shut, h.docs, h.subs ++ [⟨h.last + 1, name, Gd room (Bi (el h.docs (A0 h.docs name).toNat))⟩], h.last + 1⟩, h.last + 1, 0)) else (Ds, 0, 1)
theorem A83 {h : DHub} (i : HInv h) (name : ByteArray) (room : Int) : Uj h name room = some (Hw h name room) := by
 have hl := i.ns
 have hla := i.la
 unfold Uj Hw
 rw [P8, Option.bind_some, i.i, Option.bind_some, Bool.not_true, An, Eu, Option.bind_some, Option.bind_some]
 by_cases c0 : 1 <= room /\ room <= 6
 ·rw [decide_eq_true c0, Bool.not_true, An, if_pos c0]
  cases hs : h.shut with
  | true => rfl
  | false =>
   rw [An, if_neg (by decide)]
   by_cases c : A0 h.docs name < 0
   ·rw [Ak c, if_pos c]; rfl
   ·obtain ⟨k1, k2, k3, k4⟩ := Il i (name := name) (by omega)
    have hb := Kf k3
    rw [Ag c, if_neg c]
    by_cases c1 : h.subs.length = 6
    ·rw [Ak (by omega), Option.bind_some, Bh, if_pos (.inl c1)]; rfl
    ·rw [Ag (by omega), Option.bind_some]
     by_cases c2 : h.last = 1000000000
     ·rw [Ak c2, if_pos (.inr c2)]; rfl
     ·rw [Ag c2, if_neg (by omega), i.ic, Option.bind_some, Av (by omega) (by omega), Ae ⟨by omega, k2⟩, Nz k3, Option.bind_some, Aq7 c0 ⟨by omega, by omega⟩, Option.bind_some, Ae (by omega), hs]
 ·rw [decide_eq_false c0, Bool.not_false, Bh, if_neg c0]; rfl
theorem Auc {h : DHub} (i : HInv h) (name : ByteArray) (room : Int) : Rb h name room = some (Hw h name room) := by
 have hl := i.ns
 have hla := i.la
 unfold Rb Hw
 rw [Mi, Option.bind_some, i.s, Option.bind_some, Bool.not_true, An, E9, Option.bind_some, Option.bind_some]
 by_cases c0 : 1 <= room /\ room <= 6
 ·rw [decide_eq_true c0, Bool.not_true, An, if_pos c0]
  cases hs : h.shut with
  | true => rfl
  | false =>
   rw [An, if_neg (by decide)]
   by_cases c : A0 h.docs name < 0
   ·rw [Ak c, if_pos c]; rfl
   ·obtain ⟨k1, k2, k3, k4⟩ := Il i (name := name) (by omega)
    have hb := Kf k3
    rw [Ag c, if_neg c]
    by_cases c1 : h.subs.length = 6
    ·rw [Ak (by omega), Option.bind_some, Bh, if_pos (.inl c1)]; rfl
    ·rw [Ag (by omega), Option.bind_some]
     by_cases c2 : h.last = 1000000000
     ·rw [Ak c2, if_pos (.inr c2)]; rfl
     ·rw [Ag c2, if_neg (by omega), Ae ⟨by omega, k2⟩, Oi k3, Option.bind_some, Aui c0 ⟨by omega, by omega⟩, Option.bind_some, i.sc, Option.bind_some, Av (by omega) (by omega), Ae (by omega), hs]
 ·rw [decide_eq_false c0, Bool.not_false, Bh, if_neg c0]; rfl
noncomputable def Gn (h : DHub) (n m : Int) : DHub × List DEntry × Int :=
 if m < 1 then (Ds, [], 1) else if Cd h.subs n < 0 then (Ds, [], 8)
 else if (H1 (el h.subs (Cd h.subs n).toNat).r m).2.2 = 0 then (⟨h.shut, h.docs, h.subs.set (Cd h.subs n).toNat ⟨(el h.subs (Cd h.subs n).toNat).id, (el h.subs (Cd h.subs n).toNat).doc, (H1 (el h.subs (Cd h.subs n).toNat).r m).1⟩, h.last⟩, (H1 (el h.subs (Cd h.subs n).toNat).r m).2.1, 0)
 else (Ds, [], (H1 (el h.subs (Cd h.subs n).toNat).r m).2.2)
theorem A8z {h : DHub} (i : HInv h) (n m : Int) : Uf h n m = some (Gn h n m) := by
 unfold Uf Gn
 rw [Aq4, Option.bind_some, i.i, Option.bind_some, Bool.not_true, An, Option.bind_some]
 by_cases c0 : m < 1
 ·rw [Ak c0, if_pos c0]; rfl
 ·rw [Ag c0, if_neg c0]
  by_cases c : Cd h.subs n < 0
  ·rw [Ak c, if_pos c]; rfl
  ·obtain ⟨k1, k2, k3, k4⟩ := Oo (l := h.subs) (n := n) (by omega)
   rw [Ag c, if_neg c, Ae ⟨by omega, k2⟩, A9b (Qz i _ k4) (by omega), Option.bind_some, A7]
   generalize H1 (el h.subs (Cd h.subs n).toNat).r m = r
   by_cases c1 : r.2.2 = 0
   ·rw [Ak c1, if_pos c1, i.ic, Option.bind_some, Ae ⟨by omega, k2⟩]
   ·rw [Ag c1, if_neg c1]; rfl
theorem At9 {h : DHub} (i : HInv h) (n m : Int) : Q9 h n m = some (Gn h n m) := by
 unfold Q9 Gn
 rw [Aex, Option.bind_some, i.s, Option.bind_some, Bool.not_true, An, Option.bind_some]
 by_cases c0 : m < 1
 ·rw [Ak c0, if_pos c0]; rfl
 ·rw [Ag c0, if_neg c0]
  by_cases c : Cd h.subs n < 0
  ·rw [Ak c, if_pos c]; rfl
  ·obtain ⟨k1, k2, k3, k4⟩ := Oo (l := h.subs) (n := n) (by omega)
   rw [Ag c, if_neg c, Ae ⟨by omega, k2⟩, Bew (Qz i _ k4) (by omega), Option.bind_some, A7]
   generalize H1 (el h.subs (Cd h.subs n).toNat).r m = r
   by_cases c1 : r.2.2 = 0
   ·rw [Ak c1, if_pos c1, i.sc, Option.bind_some, Ae ⟨by omega, k2⟩]
   ·rw [Ag c1, if_neg c1]; rfl
noncomputable def Gp (h : DHub) (n : Int) : DHub × List Int × Int × Int :=
 if Cd h.subs n < 0 then (Ds, [], 0, 8)
 else (⟨h.shut, h.docs, h.subs.set (Cd h.subs n).toNat ⟨(el h.subs (Cd h.subs n).toNat).id, (el h.subs (Cd h.subs n).toNat).doc, Gd (el h.subs (Cd h.subs n).toNat).r.cap (Bi (el h.docs (A0 h.docs (el h.subs (Cd h.subs n).toNat).doc).toNat))⟩, h.last⟩, Dk (el h.docs (A0 h.docs (el h.subs (Cd h.subs n).toNat).doc).toNat).list (el h.docs (A0 h.docs (el h.subs (Cd h.subs n).toNat).doc).toNat).text, Bi (el h.docs (A0 h.docs (el h.subs (Cd h.subs n).toNat).doc).toNat), 0)
theorem HInv.dix {h : DHub} (i : HInv h) {s : DSub} (hs : s ∈ h.subs) : 0 <= A0 h.docs s.doc := by
 obtain ⟨_, _, d, g, _⟩ := i.sg s hs
 exact (V3 g).1
theorem A80 {h : DHub} (i : HInv h) (n : Int) : Ug h n = some (Gp h n) := by
 unfold Ug Gp
 rw [Aq4, Option.bind_some, i.i, Option.bind_some, Bool.not_true, An]
 by_cases c : Cd h.subs n < 0
 ·rw [Ak c, if_pos c]; rfl
 ·obtain ⟨k1, k2, k3, k4⟩ := Oo (l := h.subs) (n := n) (by omega)
  obtain ⟨d1, d2, d3, d4⟩ := Il i (i.dix k4)
  have hb := Kf d3
  rw [Ag c, if_neg c, Ae ⟨by omega, k2⟩, P8, Option.bind_some, Ae ⟨i.dix k4, d2⟩, i.ic, Option.bind_some, Ae ⟨by omega, k2⟩, Nz d3, Option.bind_some, A9d (Qz i _ k4) ⟨by omega, by omega⟩, Option.bind_some, Ae ⟨by omega, k2⟩, W6 d4 d3, Option.bind_some, Option.bind_some]
theorem Aua {h : DHub} (i : HInv h) (n : Int) : Ra h n = some (Gp h n) := by
 unfold Ra Gp
 rw [Aex, Option.bind_some, i.s, Option.bind_some, Bool.not_true, An]
 by_cases c : Cd h.subs n < 0
 ·rw [Ak c, if_pos c]; rfl
 ·obtain ⟨k1, k2, k3, k4⟩ := Oo (l := h.subs) (n := n) (by omega)
  obtain ⟨d1, d2, d3, d4⟩ := Il i (i.dix k4)
  have hb := Kf d3
  rw [Ag c, if_neg c, Ae ⟨by omega, k2⟩, Mi, Option.bind_some, Ae ⟨i.dix k4, d2⟩, i.sc, Option.bind_some, Ae ⟨by omega, k2⟩, Oi d3, Option.bind_some, Bey (Qz i _ k4) ⟨by omega, by omega⟩, Option.bind_some, Ae ⟨by omega, k2⟩, Yt d4 d3, Option.bind_some, Option.bind_some]
def H8 (h : DHub) : DHub × Int := if h.shut = true then (Ds, 12) else (⟨true, h.docs, h.subs, h.last⟩, 0)
theorem A81 {h : DHub} (i : HInv h) : Uh h = some (H8 h) := by
 unfold Uh H8
 rw [i.i, Option.bind_some, Bool.not_true, An]
 cases hs : h.shut with
 | true => rfl
 | false => rw [An, if_neg (by decide), i.ic]; rfl
theorem Bei {h : DHub} (i : HInv h) : U3 h = some (H8 h) := by
 unfold U3 H8
 rw [i.s, Option.bind_some, Bool.not_true, An]
 cases hs : h.shut with
 | true => rfl
 | false => rw [An, if_neg (by decide), i.sc]; rfl
noncomputable def P6 (h : DHub) (c : DCall) : DAnswer :=
 if h.shut = true then ⟨12, 0, [], []⟩ else if A0 h.docs c.doc < 0 then ⟨6, 0, [], []⟩
 else if c.kind = 4 then ⟨0, Bi (el h.docs (A0 h.docs c.doc).toNat), Dk (el h.docs (A0 h.docs c.doc).toNat).list (el h.docs (A0 h.docs c.doc).toNat).text, []⟩
 else ⟨(Px (el h.docs (A0 h.docs c.doc).toNat) c.n).2, 0, [], (Px (el h.docs (A0 h.docs c.doc).toNat) c.n).1⟩
theorem Arc {h : DHub} (i : HInv h) (c : DCall) : Ur h c = some (P6 h c) := by
 unfold Ur P6
 rw [P8, Option.bind_some]
 cases hs : h.shut with
 | true => rfl
 | false =>
  rw [An, if_neg (by decide)]
  by_cases c0 : A0 h.docs c.doc < 0
  ·rw [Ak c0, if_pos c0]
  ·obtain ⟨d1, d2, d3, d4⟩ := Il i (name := c.doc) (by omega)
   rw [Ag c0, if_neg c0]
   by_cases c1 : c.kind = 4
   ·rw [Ak c1, if_pos c1, Ae ⟨by omega, d2⟩, Ae ⟨by omega, d2⟩, W6 d4 d3, Option.bind_some, Nz d3, Option.bind_some]
   ·rw [Ag c1, if_neg c1, Ae ⟨by omega, d2⟩, A8v _ _ d4, Option.bind_some]
theorem Auo {h : DHub} (i : HInv h) (c : DCall) : Vn h c = some (P6 h c) := by
 unfold Vn P6
 rw [Mi, Option.bind_some]
 cases hs : h.shut with
 | true => rfl
 | false =>
  rw [An, if_neg (by decide)]
  by_cases c0 : A0 h.docs c.doc < 0
  ·rw [Ak c0, if_pos c0]
  ·obtain ⟨d1, d2, d3, d4⟩ := Il i (name := c.doc) (by omega)
   rw [Ag c0, if_neg c0]
   by_cases c1 : c.kind = 4
   ·rw [Ak c1, if_pos c1, Ae ⟨by omega, d2⟩, Ae ⟨by omega, d2⟩, Yt d4 d3, Option.bind_some, Oi d3, Option.bind_some]
   ·rw [Ag c1, if_neg c1, Ae ⟨by omega, d2⟩, Bef _ _ d4, Option.bind_some]
noncomputable def H7 (h : DHub) (r : DHub) (code rev : Int) (text : List Int) (list : List DEntry) : DHub × DAnswer := if code = 0 then (r, ⟨0, rev, text, list⟩) else (h, ⟨code, 0, [], []⟩)
noncomputable def I2 (h : DHub) (c : DCall) : DHub × DAnswer :=
 if Gt c = true then
  (if c.kind = 1 then H7 h (Er h c.doc c.text).1 (Er h c.doc c.text).2 0 [] []
  else if c.kind = 2 then H7 h (Hv h c.doc c.client c.seq c.n c.o).1 (Hv h c.doc c.client c.seq c.n c.o).2.2 (Hv h c.doc c.client c.seq c.n c.o).2.1 [] []
  else if c.kind = 3 then (h, P6 h c) else if c.kind = 4 then (h, P6 h c)
  else if c.kind = 5 then H7 h (Hw h c.doc c.n).1 (Hw h c.doc c.n).2.2 (Hw h c.doc c.n).2.1 [] []
  else if c.kind = 6 then H7 h (Gn h c.client c.n).1 (Gn h c.client c.n).2.2 0 [] (Gn h c.client c.n).2.1
  else if c.kind = 7 then H7 h (Gp h c.client).1 (Gp h c.client).2.2.2 (Gp h c.client).2.2.1 (Gp h c.client).2.1 []
  else H7 h (H8 h).1 (H8 h).2 0 [] [])
 else (h, ⟨1, 0, [], []⟩)
theorem Asp {c : DCall} (h : Gt c = true) : c.doc.size <= 8 /\ c.text.length <= 200 := by
 unfold Gt at h
 simp only [Bool.and_eq_true, decide_eq_true_eq] at h
 exact ⟨h.1.1.1.2, Gv h.1.2⟩
theorem Acp {h : DHub} (i : HInv h) (c : DCall) : Mw h c = some (I2 h c) := by
 unfold Mw I2
 rw [i.i, Option.bind_some, Bool.not_true, An, A8r, Option.bind_some, Option.bind_some]
 cases hc : Gt c with
 | false => rw [Bool.not_false, Bh, i.ic]; rfl
 | true =>
  have hz := Asp hc
  rw [Bool.not_true, An, if_pos rfl]
  unfold H7
  by_cases c1 : c.kind = 1
  ·rw [Ak c1, if_pos c1, A8y i _ (by omega), Option.bind_some, A7]
   by_cases k : (Er h c.doc c.text).2 = 0
   ·rw [Ak k, if_pos k, k]
   ·rw [Ag k, if_neg k, i.ic]; rfl
  rw [Ag c1, if_neg c1]
  by_cases c2 : c.kind = 2
  ·rw [Ak c2, if_pos c2, A82 i, Option.bind_some, A7]
   by_cases k : (Hv h c.doc c.client c.seq c.n c.o).2.2 = 0
   ·rw [Ak k, if_pos k, k]
   ·rw [Ag k, if_neg k, i.ic]; rfl
  rw [Ag c2, if_neg c2]
  by_cases c3 : c.kind = 3
  ·rw [Ak c3, if_pos c3, Ak c3, i.ic, Option.bind_some, Arc i]; rfl
  rw [Ag c3, if_neg c3]
  by_cases c4 : c.kind = 4
  ·rw [Ak c4, if_pos c4, i.ic, Option.bind_some, Arc i]; rfl
  rw [Ag c4, if_neg c4]
  by_cases c5 : c.kind = 5
  ·rw [Ak c5, if_pos c5, A83 i, Option.bind_some, A7]
   by_cases k : (Hw h c.doc c.n).2.2 = 0
   ·rw [Ak k, if_pos k, k]
   ·rw [Ag k, if_neg k, i.ic]; rfl
  rw [Ag c5, if_neg c5]
  by_cases c6 : c.kind = 6
  ·rw [Ak c6, if_pos c6, A8z i, Option.bind_some, A7]
   by_cases k : (Gn h c.client c.n).2.2 = 0
   ·rw [Ak k, if_pos k, k]
   ·rw [Ag k, if_neg k, i.ic]; rfl
  rw [Ag c6, if_neg c6]
  by_cases c7 : c.kind = 7
  ·rw [Ak c7, if_pos c7, A80 i, Option.bind_some, A7]
   by_cases k : (Gp h c.client).2.2.2 = 0
   ·rw [Ak k, if_pos k, k]
   ·rw [Ag k, if_neg k, i.ic]; rfl
  rw [Ag c7, if_neg c7, A81 i, Option.bind_some, A7]
  by_cases k : (H8 h).2 = 0
  ·rw [Ak k, if_pos k, k]
  ·rw [Ag k, if_neg k, i.ic]; rfl
theorem Bec {h : DHub} (i : HInv h) (c : DCall) : U1 h c = some (I2 h c) := by
 unfold U1 I2
 rw [i.s, Option.bind_some, Bool.not_true, An, At5, Option.bind_some, Option.bind_some]
 cases hc : Gt c with
 | false => rw [Bool.not_false, Bh, i.sc]; rfl
 | true =>
  have hz := Asp hc
  rw [Bool.not_true, An, if_pos rfl]
  unfold H7
  by_cases c1 : c.kind = 1
  ·rw [Ak c1, if_pos c1, Yu i _ (by omega) _ (by omega), Option.bind_some, A7]
   by_cases k : (Er h c.doc c.text).2 = 0
   ·rw [Ak k, if_pos k]
   ·rw [Ag k, if_neg k, i.sc]; rfl
  rw [Ag c1, if_neg c1]
  by_cases c2 : c.kind = 2
  ·rw [Ak c2, if_pos c2, Aub i, Option.bind_some, A7]
   by_cases k : (Hv h c.doc c.client c.seq c.n c.o).2.2 = 0
   ·rw [Ak k, if_pos k]
   ·rw [Ag k, if_neg k, i.sc]; rfl
  rw [Ag c2, if_neg c2]
  by_cases c3 : c.kind = 3
  ·rw [Ak c3, if_pos c3, Ak c3, i.sc, Option.bind_some, Auo i]; rfl
  rw [Ag c3, if_neg c3]
  by_cases c4 : c.kind = 4
  ·rw [Ak c4, if_pos c4, i.sc, Option.bind_some, Auo i]; rfl
  rw [Ag c4, if_neg c4]
  by_cases c5 : c.kind = 5
  ·rw [Ak c5, if_pos c5, Auc i, Option.bind_some, A7]
   by_cases k : (Hw h c.doc c.n).2.2 = 0
   ·rw [Ak k, if_pos k]
   ·rw [Ag k, if_neg k, i.sc]; rfl
  rw [Ag c5, if_neg c5]
  by_cases c6 : c.kind = 6
  ·rw [Ak c6, if_pos c6, At9 i, Option.bind_some, A7]
   by_cases k : (Gn h c.client c.n).2.2 = 0
   ·rw [Ak k, if_pos k]
   ·rw [Ag k, if_neg k, i.sc]; rfl
  rw [Ag c6, if_neg c6]
  by_cases c7 : c.kind = 7
  ·rw [Ak c7, if_pos c7, Aua i, Option.bind_some, A7]
   by_cases k : (Gp h c.client).2.2.2 = 0
   ·rw [Ak k, if_pos k]
   ·rw [Ag k, if_neg k, i.sc]; rfl
  rw [Ag c7, if_neg c7, Bei i, Option.bind_some, A7]
  by_cases k : (H8 h).2 = 0
  ·rw [Ak k, if_pos k]
  ·rw [Ag k, if_neg k, i.sc]; rfl
theorem Aq0 : HInv Ds := ⟨by simp [Ds], by simp [Ds], by simp [Ds], rfl, List.Pairwise.nil, fun s hs => by cases hs⟩
theorem Ao4 {d : DDoc} {m : ByteArray} (hm : m ≠ d.name) : ∀ l : List DDoc, G8 (Hx d l) m = G8 l m
 | [] => by unfold Hx G8; rw [List.find?_cons, decide_eq_false (fun k => hm k.symm)]
 | y :: r => by
  have ih := Ao4 hm r
  unfold G8 at ih ⊢
  rw [Hx]
  split
  ·rw [List.find?_cons, List.find?_cons, ih]
  ·rw [List.find?_cons, decide_eq_false (fun k => hm k.symm)]
theorem Arj (d : DDoc) : ∀ l : List DDoc, (Hx d l).length = l.length + 1
 | [] => rfl
 | y :: r => by
  rw [Hx]
  split
  ·rw [List.length_cons, List.length_cons, Arj d r]
  ·rfl
theorem Aj7 {d : DDoc} (hd : A8 d = true) : ∀ {l : List DDoc} {p : Option DDoc}, Cp Ei p l = true -> (∀ q, p = some q -> De q.name d.name = true) -> (∀ x ∈ l, x.name ≠ d.name) -> Cp Ei p (Hx d l) = true
 | [], p, _, hp, _ => by
  unfold Hx Cp Cp Ei
  rw [hd]
  cases p with
  | none => rfl
  | some q => simp only [Hg]; rw [hp q rfl]; rfl
 | y :: r, p, h, hp, hn => by
  rw [Cp, Bool.and_eq_true] at h
  rw [Hx]
  split
  ·rename_i hy
   rw [Cp, h.1, Aj7 hd h.2 (fun q hq => by cases hq; exact hy) (fun x hx => hn x (by simp [hx]))]
   rfl
  ·rename_i hy
   have ht := Bd9 (Bool.eq_false_iff.2 hy) (hn y (by simp))
   rw [Cp, Cp, h.2]
   have h1 := h.1
   unfold Ei at h1 ⊢
   simp only [Bool.and_eq_true] at h1
   rw [hd, h1.1]
   simp only [Hg]
   rw [ht]
   cases p with
   | none => rfl
   | some q => simp only; rw [hp q rfl]; rfl
theorem Ya {h : DHub} (i : HInv h) {n : ByteArray} {t : List Int} (hc : (Er h n t).2 = 0) : HInv (Er h n t).1 := by
 unfold Er at hc ⊢
 split at hc
 ·rename_i c0
  rw [if_pos c0]
  split at hc
  ·simp at hc
  ·rename_i c1
   rw [if_neg c1]
   split at hc
   ·simp at hc
   ·rename_i c2
    rw [if_neg c2]
    split at hc
    ·simp at hc
    ·rename_i c3
     rw [if_neg c3]
     have hnn : ∀ x ∈ h.docs, x.name ≠ n := fun x hx => by
      have := (Aru (p := fun d : DDoc => decide (d.name = n)) (l := h.docs)).1 (by unfold A0 at c2; omega) x hx
      exact of_decide_eq_false this
     refine ⟨by simp only [Arj]; have := i.nd; omega, i.ns, i.la, Aj7 (Asg c0.1 c0.2) i.cd (fun q hq => by cases hq) hnn, i.ci, fun s hs => ?_⟩
     obtain ⟨g1, g2, d, g3, g4⟩ := i.sg s hs
     refine ⟨g1, g2, d, ?_, g4⟩
     have hd := R8 g3
     rw [Ao4 (by simp only; rw [<- hd.2]; exact hnn d hd.1)]
     exact g3
 ·simp at hc
theorem A0l {x d : DDoc} (hn : d.name = x.name) (r : List DDoc) : Cp Ei (some d) r = Cp Ei (some x) r := by
 cases r with
 | nil => rfl
 | cons y r => rw [Cp, Cp]; unfold Ei; simp only [Hg]; rw [hn]
theorem Aj8 {d : DDoc} (hd : A8 d = true) : ∀ {l : List DDoc} {k : Nat} {p : Option DDoc}, k < l.length -> d.name = (el l k).name -> Cp Ei p l = true -> Cp Ei p (l.set k d) = true
 | [], k, p, h, _, _ => by simp at h
 | x :: r, 0, p, _, hn, h => by
  have hn' : d.name = x.name := hn
  rw [List.set_cons_zero, Cp, A0l hn']
  rw [Cp, Bool.and_eq_true] at h
  rw [h.2]
  have h1 := h.1
  unfold Ei at h1 ⊢
  rw [Bool.and_eq_true] at h1
  rw [hd, hn', h1.2]; rfl
 | x :: r, k + 1, p, hk, hn, h => by
  rw [List.set_cons_succ, Cp]
  rw [Cp, Bool.and_eq_true] at h
  rw [h.1, Aj8 hd (l := r) (k := k) (by simpa using hk) hn h.2]; rfl
theorem Baa {s a : List DEntry} {e : DEntry} (h : s <:+ a ++ [e]) (hs : 0 < s.length) : el s (s.length - 1) = e := by
 obtain ⟨t, ht⟩ := h
 have h1 : t.length + s.length = a.length + 1 := by rw [<- List.length_append, ht]; simp
 have h2 : el (t ++ s) a.length = e := by rw [ht]; exact Sa a e []
 rw [<- h2]
 unfold el
 rw [List.getD_eq_getElem?_getD, List.getD_eq_getElem?_getD, List.getElem?_append_right (by omega)]
 rw [show a.length - t.length = s.length - 1 by omega]
theorem Bfp (l : List DDoc) {k : Nat} (h : k < l.length) : l.set k (el l k) = l := by rw [G9 h, List.set_getElem_self]
theorem Bcn {r : DRing} {e : DEntry} (h : Db r = true) (he : Bz e = true) : Db (Mf r e) = true := by
 have g := Gu h
 unfold Mf
 by_cases c : r.out = true
 ·rw [if_pos c]; exact h
 ·rw [if_neg c]
  split
  ·unfold Db
   simp only
   rw [decide_eq_true g.1, decide_eq_true g.2.1, decide_eq_true (show (([] : List DEntry).length : Int) <= r.cap by simp; omega)]
   rfl
  ·unfold Db
   simp only
   rw [decide_eq_true g.1, decide_eq_true g.2.1, decide_eq_true (show ((r.list ++ [e]).length : Int) <= r.cap by simp; omega), Bool.eq_false_iff.2 c, List.all_append, g.2.2.2.2]
   simp [he]
theorem Au8 {h : DHub} (i : HInv h) {n : ByteArray} {client seq base : Int} {o : List DPart} (hc : (Hv h n client seq base o).2.2 = 0) : HInv (Hv h n client seq base o).1 := by
 unfold Hv at hc ⊢
 split at hc
 ·simp at hc
 ·rename_i c0
  rw [if_neg c0]
  split at hc
  ·simp at hc
  ·rename_i c1
   rw [if_neg c1]
   split at hc
   ·rename_i c2
    rw [if_pos c2]
    obtain ⟨k1, k2, k3, k4⟩ := Il i (name := n) (by omega)
    obtain ⟨o1, o2, o3⟩ := Afi k4 k3 c2
    simp only
    generalize Et (el h.docs (A0 h.docs n).toNat) client seq base o = r at o1 o2 o3 ⊢
    rcases o3 with o3 | ⟨e, o3, e1, e2⟩
    ·rw [o3, if_neg (by omega), Bfp _ k1]
     exact ⟨i.nd, i.ns, i.la, i.cd, i.ci, i.sg⟩
    ·have hh := Aji (el h.docs (A0 h.docs n).toNat) e
     have hl := Aa3 (el h.docs (A0 h.docs n).toNat) e
     have hF : G8 h.docs n = some (el h.docs (A0 h.docs n).toNat) := by rw [Abg, if_pos (by omega)]
     have hnm := (R8 hF).2
     rw [<- o3] at hh hl
     rw [Baa hl.1 hl.2.1, if_pos (by omega)]
     refine ⟨by simp only [List.length_set]; exact i.nd, by simp only [List.length_map]; exact i.ns, i.la, Aj8 o1 k1 o2 i.cd, ?_, fun s hs => ?_⟩
     ·simp only
      rw [List.pairwise_map]
      refine i.ci.imp fun {a b} hab => ?_
      unfold Oq
      split <;> split <;> exact hab
     ·simp only at hs ⊢
      obtain ⟨s0, hs0, rfl⟩ := List.mem_map.1 hs
      obtain ⟨g1, g2, d, g3, g4⟩ := i.sg s0 hs0
      unfold Oq
      by_cases c3 : s0.doc = n
      ·rw [if_pos c3]
       rw [c3, hF] at g3
       have g3' := Option.some.inj g3
       subst g3'
       refine ⟨g1, Bcn g2 e1, r.1, by simp only; rw [c3, Abh (by rw [o2, hnm]) (by omega), if_pos rfl], fun ho => ?_⟩
       have hg := Gu g2
       unfold Mf at ho ⊢
       simp only at ho ⊢
       by_cases c4 : s0.r.out = true
       ·rw [if_pos c4] at ho; rw [c4] at ho; cases ho
       ·rw [if_neg c4] at ho ⊢
        by_cases c5 : (s0.r.list.length : Int) = s0.r.cap
        ·rw [if_pos c5] at ho; cases ho
        ·rw [if_neg c5]
         obtain ⟨q1, q2⟩ := g4 (Bool.eq_false_iff.2 c4)
         refine ⟨by simp only [List.length_append, List.length_cons, List.length_nil]; omega, ?_⟩
         have hs1 : s0.r.list ++ [e] <:+ (el h.docs (A0 h.docs n).toNat).list ++ [e] := by
          obtain ⟨t, ht⟩ := q2
          exact ⟨t, by rw [<- ht]; simp⟩
         refine List.suffix_of_suffix_length_le hs1 hl.1 ?_
         rcases hl.2.2 with h8 | h8
         ·simp only [List.length_append, List.length_cons, List.length_nil]; omega
         ·rw [h8]; exact hs1.length_le
      ·rw [if_neg c3]
       exact ⟨g1, g2, d, by rw [Abh (by rw [o2, hnm]) (by omega), if_neg c3]; exact g3, g4⟩
   ·rename_i c2
    exact absurd hc c2
theorem Ava {h : DHub} (i : HInv h) {n : ByteArray} {room : Int} (hc : (Hw h n room).2.2 = 0) : HInv (Hw h n room).1 := by
 unfold Hw at hc ⊢
 split at hc
 ·rename_i c0
  rw [if_pos c0]
  split at hc
  ·simp at hc
  ·rename_i c1
   rw [if_neg c1]
   split at hc
   ·simp at hc
   ·rename_i c2
    rw [if_neg c2]
    split at hc
    ·simp at hc
    ·rename_i c3
     rw [if_neg c3]
     obtain ⟨k1, k2, k3, k4⟩ := Il i (name := n) (by omega)
     have hb := Kf k3
     have hl := i.la
     have hn := i.ns
     refine ⟨i.nd, by simp only [List.length_append, List.length_cons, List.length_nil]; omega, by simp only; omega, i.cd, ?_, fun s hs => ?_⟩
     ·simp only
      rw [List.pairwise_append]
      refine ⟨i.ci, List.pairwise_singleton _ _, fun a ha b hb => ?_⟩
      rw [List.mem_singleton.1 hb]
      have := (i.sg a ha).1
      simp only; omega
     ·simp only at hs ⊢
      rcases List.mem_append.1 hs with hs | hs
      ·obtain ⟨g1, g2, d, g3, g4⟩ := i.sg s hs
       exact ⟨by omega, g2, d, g3, g4⟩
      ·rw [List.mem_singleton.1 hs]
       refine ⟨by simp only; omega, Yp c0 ⟨by omega, by omega⟩, el h.docs (A0 h.docs n).toNat, by simp only; rw [Abg, if_pos (by omega)], fun _ => ⟨by simp [Gd], List.nil_suffix⟩⟩
 ·simp at hc
theorem Aux {h : DHub} (i : HInv h) {j : Nat} {y : DSub} (hj : j < h.subs.length) (hid : y.id = (el h.subs j).id) (g : Yy h.docs h.last y) : HInv ⟨h.shut, h.docs, h.subs.set j y, h.last⟩ := by
 refine ⟨i.nd, by simp only [List.length_set]; exact i.ns, i.la, i.cd, ?_, fun s hs => ?_⟩
 ·have e : (h.subs.set j y).map (fun s => s.id) = h.subs.map (fun s => s.id) := by
   rw [List.map_set, hid, G9 hj]
   have hj' : j < (h.subs.map fun s => s.id).length := by simpa using hj
   have := List.set_getElem_self hj'
   rw [List.getElem_map] at this
   exact this
  have h2 := i.ci
  rw [<- List.pairwise_map (f := fun s : DSub => s.id) (R := fun a b => a < b)] at h2 ⊢
  simp only
  rw [e]; exact h2
 ·simp only at hs ⊢
  rcases List.mem_or_eq_of_mem_set hs with hs | hs
  ·exact i.sg s hs
  ·rw [hs]; exact g
theorem Atf {h : DHub} (i : HInv h) {n m : Int} (hc : (Gn h n m).2.2 = 0) : HInv (Gn h n m).1 := by
 unfold Gn at hc ⊢
 split at hc
 ·simp at hc
 ·rename_i c0
  rw [if_neg c0]
  split at hc
  ·simp at hc
  ·rename_i c1
   rw [if_neg c1]
   split at hc
   ·rename_i c2
    rw [if_pos c2]
    obtain ⟨k1, k2, k3, k4⟩ := Oo (l := h.subs) (n := n) (by omega)
    refine Aux i k1 rfl ?_
    obtain ⟨g1, g2, d, g3, g4⟩ := i.sg _ k4
    generalize el h.subs (Cd h.subs n).toNat = s at c2 g1 g2 g3 g4 ⊢
    have hd := i.doc (R8 g3).1
    have hb := Kf hd
    have hg := Gu g2
    unfold H1 at c2 ⊢
    by_cases c3 : s.r.out = true
    ·rw [if_pos c3] at c2; simp at c2
    ·rw [if_neg c3]
     obtain ⟨q1, q2⟩ := g4 (Bool.eq_false_iff.2 c3)
     refine ⟨g1, ?_, d, g3, fun _ => ⟨by simp only [List.length_drop]; omega, (List.drop_suffix _ _).trans q2⟩⟩
     unfold Db
     simp only
     rw [decide_eq_true hg.1, decide_eq_true (show 1 <= s.r.next + min m (s.r.list.length : Int) /\ s.r.next + min m (s.r.list.length : Int) <= 1000000000 by omega), decide_eq_true (show ((s.r.list.drop (min m (s.r.list.length : Int)).toNat).length : Int) <= s.r.cap by rw [List.length_drop]; omega), Bool.eq_false_iff.2 c3]
     have : (s.r.list.drop (min m (s.r.list.length : Int)).toNat).all Bz = true := List.all_eq_true.2 fun x hx => List.all_eq_true.1 hg.2.2.2.2 x (List.mem_of_mem_drop hx)
     rw [this]; rfl
   ·rename_i c2; exact absurd hc c2
theorem Atw {h : DHub} (i : HInv h) {n : Int} (hc : (Gp h n).2.2.2 = 0) : HInv (Gp h n).1 := by
 unfold Gp at hc ⊢
 split at hc
 ·simp at hc
 ·rename_i c1
  rw [if_neg c1]
  obtain ⟨k1, k2, k3, k4⟩ := Oo (l := h.subs) (n := n) (by omega)
  refine Aux i k1 rfl ?_
  obtain ⟨g1, g2, d, g3, g4⟩ := i.sg _ k4
  have hd := i.doc (R8 g3).1
  have hb := Kf hd
  have he := (V3 g3).2
  rw [he]
  exact ⟨g1, Yp (Gu g2).1 ⟨by omega, by omega⟩, d, g3, fun _ => ⟨by simp [Gd], List.nil_suffix⟩⟩
theorem Bfq {h : DHub} (i : HInv h) (hc : (H8 h).2 = 0) : HInv (H8 h).1 := by
 unfold H8 at hc ⊢
 split at hc
 ·simp at hc
 ·rename_i c1
  rw [if_neg c1]
  exact ⟨i.nd, i.ns, i.la, i.cd, i.ci, i.sg⟩
theorem Py {h r : DHub} (i : HInv h) {code rev : Int} {t : List Int} {l : List DEntry} (k : code = 0 -> HInv r) : HInv (H7 h r code rev t l).1 := by
 unfold H7
 split
 ·rename_i c; exact k c
 ·exact i
theorem Ao3 {h : DHub} (i : HInv h) (c : DCall) : HInv (I2 h c).1 := by
 unfold I2
 split
 ·split
  ·exact Py i (Ya i)
  split
  ·exact Py i (Au8 i)
  split
  ·exact i
  split
  ·exact i
  split
  ·exact Py i (Ava i)
  split
  ·exact Py i (Atf i)
  split
  ·exact Py i (Atw i)
  ·exact Py i (Bfq i)
 ·exact i
section
def Tot {α : Type} (P : α -> Prop) (x : Option (α × DL01Cur)) : Prop := ∃ y d, x = some (y, d) /\ P y /\ cur d
section
variable {α β : Type} {P : α -> Prop} {Q : β -> Prop}
theorem Cn {y : α} {d : DL01Cur} (h : P y) (hd : cur d) : Tot P (some (y, d)) := ⟨y, d, rfl, h, hd⟩
theorem Bk {x : Option (β × DL01Cur)} {f : β × DL01Cur -> Option (α × DL01Cur)} (hx : Tot Q x) (hf : ∀ r : β × DL01Cur, Q r.1 -> cur r.2 -> Tot P (f r)) : Tot P (Option.bind x f) := by
 obtain ⟨y, d, h1, h2, h3⟩ := hx
 rw [h1]
 exact hf (y, d) h2 h3
theorem Dv {n : Int} {x : Option (α × DL01Cur)} (h : -9223372036854775808 <= n) (k : n <= 9223372036854775807) (hx : Tot P x) : Tot P (xg (Ac n) x) := by rw [Av h k]; exact hx
theorem K3 {p : Prop} [Decidable p] {x : Option (α × DL01Cur)} (h : p) (hx : Tot P x) : Tot P (xg p x) := by rw [Ae h]; exact hx
theorem C6 {p : Prop} [Decidable p] {x y : Option (α × DL01Cur)} (h : p -> Tot P x) (k : ¬ p -> Tot P y) : Tot P (bif decide p then x else y) := by
 by_cases hp : p
 ·rw [Ak hp]; exact h hp
 ·rw [Ag hp]; exact k hp
theorem Oz {b : Bool} {x y : Option (α × DL01Cur)} (h : Tot P x) (k : Tot P y) : Tot P (bif b then x else y) := by cases b; exact k; exact h
theorem T5 {p : Prop} [Decidable p] {x y : Option (α × DL01Cur)} (h : p -> Tot P x) (k : ¬ p -> Tot P y) : Tot P (bif !decide p then y else x) := by rw [A7]; exact C6 h k
end
theorem Dj {c : DL01Cur} (h : cur c) (n : Int) : Tot (fun m => 0 <= m /\ (m = 0 \/ m < n)) (Bc c n) := Kw c n h
theorem Ow {c : DL01Cur} (h : cur c) (n : Int) : Tot (fun _ : Bool => True) (Fc c n) := by
 obtain ⟨m, d, h1, h2⟩ := Aey c n h
 exact ⟨m, d, h1, trivial, h2⟩
theorem Zb {c : DL01Cur} (h : cur c) : Tot (fun s : ByteArray => s.size <= 8) (M7 c) := by
 obtain ⟨m, d, h1, h2, h3, h4⟩ := Bep c h
 exact ⟨m, d, h1, h3, h4⟩
theorem Zd {c : DL01Cur} (h : cur c) {n : Int} (h0 : 0 <= n) (h1 : n <= 200) : Tot (fun l : List Int => Bo l = true) (Fv c n) := by
 obtain ⟨m, d, a1, a2, a3, a4⟩ := Auj c n h h0 (by omega)
 exact ⟨m, d, a1, A0x (by omega) a3, a4⟩
theorem Bhq {c : DL01Cur} (h : cur c) {l : List Int} (hl : 0 < l.length) : Tot (fun _ : Int => True) (Rh c l) := by
 obtain ⟨m, d, a1, a2, a3⟩ := Auh c l h hl
 exact ⟨m, d, a1, trivial, a3⟩
theorem Zc {c : DL01Cur} (h : cur c) {lo hi : Int} (hl : -1099511627776 <= lo /\ lo <= 1099511627776) (hh : -1099511627776 <= hi /\ hi <= 1099511627776) : Tot (fun _ : Int => True) (Iv c lo hi) := by
 unfold Iv
 refine Bk (Dj h 12) fun r _ hr => ?_
 refine C6 (fun _ => Cn trivial hr) fun _ => ?_
 refine C6 (fun _ => Cn trivial hr) fun _ => ?_
 refine C6 (fun _ => Dv (by omega) (by omega) (Cn trivial hr)) fun _ => ?_
 refine C6 (fun _ => Dv (by omega) (by omega) (Cn trivial hr)) fun _ => ?_
 refine C6 (fun _ => Bk (Bhq hr (by simp)) fun r _ hr => Cn trivial hr) fun _ => ?_
 refine Dv (by omega) (by omega) ?_
 refine C6 (fun _ => Bk (Dj hr 60000) fun q hq hr => Dv (by omega) (by omega) (Cn trivial hr)) fun _ => ?_
 exact Dv (by omega) (by omega) (Dv (by omega) (by omega) (Bk (Dj hr _) fun q hq hr => Dv (by omega) (by omega) (Cn trivial hr)))
theorem Avm {c : DL01Cur} (h : cur c) {N : Int} (h0 : 0 <= N) (h1 : N <= 200) : Tot (fun o : List DPart => (∀ p ∈ o, Au p = true) /\ o.length <= 42) (Jy c N) := by
 obtain ⟨o, d, a1, a2, a3, _, _, a6⟩ := Bee c N h h0 h1
 exact ⟨o, d, a1, ⟨a2, a3⟩, a6⟩
theorem Bhm {c : DL01Cur} (h : cur c) : Tot (fun _ : List DPart => True) (M5 c) := by
 unfold M5
 refine Bk (Dj h 12) fun r hr0 hr => ?_
 refine Bk (Avm hr (by omega) (by omega)) fun o ho hr => ?_
 refine C6 (fun _ => Cn trivial hr) fun hn => ?_
 refine Bk (Dj hr _) fun k hk hr => ?_
 have hkl : 0 <= k.1 /\ k.1 < (o.1.length : Int) := ⟨hk.1, by omega⟩
 refine Bk (Dj hr 12) fun r _ hr => ?_
 refine C6 (fun _ => Bk (Zc hr (by omega) (by omega)) fun _ _ hr => K3 hkl (Cn trivial hr)) fun _ => ?_
 refine C6 (fun _ => Bk (Zc hr (by omega) (by omega)) fun _ _ hr => K3 hkl (Cn trivial hr)) fun _ => ?_
 refine C6 (fun _ => K3 hkl (Bk (Zc hr (by omega) (by omega)) fun _ _ hr => ?_)) fun _ => ?_
 ·have := (Je (ho.1 _ (Cl (l := o.1) (i := k.1.toNat) (by omega)))).1
  exact K3 (by simp only [List.length_cons, List.length_nil]; omega) (K3 hkl (Cn trivial hr))
 ·refine C6 (fun _ => Bk (Dj hr 2) fun _ _ hr => ?_) fun _ => Cn trivial hr
  exact K3 (by simp only [List.length_cons, List.length_nil]; omega) (Cn trivial hr)
def DP (d : DDoc) : Prop := (A8 d = true /\ D0 d) \/ d = D3
theorem A0u : A8 D3 = false := by
 cases h : A8 D3 with
 | false => rfl
 | true =>
  have := (Ast (S1 h)).1
  simp [D3] at this
theorem DP.seq {d : DDoc} (h : DP d) (c : Int) : 0 <= (D9 d.seen c).1.seq /\ (D9 d.seen c).1.seq <= 1000000000 := by
 rcases h with h | rfl
 ·have := Ae5 h.1 c; omega
 ·simp [D9, D3]
theorem DP.head {d : DDoc} (h : DP d) : C9 d = some (Bi d) /\ 0 <= Bi d /\ Bi d <= 999999008 /\ 0 <= d.from_ /\ d.from_ <= 999999000 /\ d.list.length <= 8 := by
 rcases h with h | rfl
 ·have := Kf h.1
  have := D6 h.1
  exact ⟨Oi h.1, by omega, by omega, by omega, by omega, by omega⟩
 ·refine ⟨?_, by simp [Bi, D3], by simp [Bi, D3], by simp [D3], by simp [D3], by simp [D3]⟩
  unfold C9 Bi
  rw [Av (by simp [D3]) (by simp [D3])]
theorem Afm {c : DL01Cur} (h : cur c) {d : DDoc} (hd : DP d) : Tot (fun _ : Int => True) (Rj c d) := by
 obtain ⟨h1, h2, h3, h4, h5, h6⟩ := hd.head
 unfold Rj
 rw [h1]
 refine Bk (Ow h 6) fun r _ hr => Oz ?_ ?_
 ·rw [Option.bind_some]
  exact Bk (Zc hr (by omega) (by omega)) fun _ _ hr => Cn trivial hr
 ·rw [Option.bind_some]
  exact Dv (by omega) (by omega) (Bk (Dj hr _) fun q hq hr => Dv (by omega) (by omega) (Cn trivial hr))
theorem A0t {d : DDoc} (hd : DP d) (rev : Int) : ∃ t b, Lb d rev = some (t, b) /\ t.length <= 200 := by
 rcases hd with h | rfl
 ·rw [Yw h.2 h.1]
  split
  ·exact ⟨_, _, rfl, Gv (Acl h.1 _)⟩
  ·exact ⟨_, _, rfl, by simp⟩
 ·refine ⟨[], false, ?_, by simp⟩
  unfold Lb
  rw [Ih D3 ⟨by simp [D3, Qv], trivial, ⟨by simp [D3], fun _ _ => trivial⟩, ⟨by simp [D3], fun _ h => by cases h⟩, ⟨by simp [D3], fun _ h => by cases h⟩⟩, A0u]
  rfl
theorem Afo {c : DL01Cur} (h : cur c) {d : DDoc} (hd : DP d) (base : Int) : Tot (fun _ : List DPart => True) (M8 c d base) := by
 obtain ⟨t, b, h1, h2⟩ := A0t hd base
 unfold M8
 rw [h1, Option.bind_some]
 obtain ⟨y, k, o1, _, o3⟩ := Ow h 10
 have key : ∃ (q : Bool) (e : DL01Cur), cur e /\ (bif !b then (some (true, c.b, c.i, c.h)) else (Option.bind (Fc c 10) fun r31 => some (r31.1, r31.2.b, r31.2.i, r31.2.h))) = some (q, e.b, e.i, e.h) := by
  cases b with
  | false => exact ⟨true, c, h, rfl⟩
  | true => exact ⟨y, k, o3, by rw [Bool.not_true, An, o1]; rfl⟩
 obtain ⟨q, e, e1, e2⟩ := key
 simp only
 rw [e2, Option.bind_some]
 refine Oz (Bk (Bhm e1) fun _ _ hr => Cn trivial hr) (Bk (Avm e1 (by omega) (by omega)) fun _ _ hr => Cn trivial hr)
theorem Aq1 {h : DHub} (i : HInv h) {k : Nat} (hk : k < h.docs.length) : DP (el h.docs k) := .inl ⟨i.doc (Cl hk), i.sd (Cl hk)⟩
theorem Bho {c : DL01Cur} (h : cur c) {x : DHub} (i : HInv x) : Tot HInv (M9 c x) := by
 unfold M9
 refine Bk (Dj h 10) fun r0 h0 hr => ?_
 refine C6 (fun _ => ?_) fun _ => ?_
 ·refine Bk (Zb hr) fun n hn hr => Bk (Zd hr (by omega) (by omega)) fun t ht hr => ?_
  rw [Yu i _ (by omega) _ (by have := Gv ht; omega), Option.bind_some]
  exact T5 (fun k => Cn (Ya i k) hr) (fun _ => Cn i hr)
 refine C6 (fun _ => ?_) fun _ => ?_
 ·refine Bk (Zb hr) fun n hn hr => Bk (Dj hr 3) fun m hm hr => Dv (by omega) (by omega) ?_
  rw [Auc i, Option.bind_some]
  exact T5 (fun k => Cn (Ava i k) hr) (fun _ => Cn i hr)
 refine C6 (fun _ => ?_) fun _ => ?_
 ·refine Bk (Dj hr 5) fun n hn hr => Bk (Dj hr 2) fun m hm hr => Dv (by omega) (by omega) ?_
  rw [At9 i, Option.bind_some]
  exact T5 (fun k => Cn (Atf i k) hr) (fun _ => Cn i hr)
 refine C6 (fun _ => ?_) fun _ => ?_
 ·refine Bk (Dj hr 5) fun n hn hr => ?_
  rw [Aua i, Option.bind_some]
  exact T5 (fun k => Cn (Atw i k) hr) (fun _ => Cn i hr)
 refine C6 (fun _ => Cn i hr) fun hn => ?_
 refine Bk (Dj hr _) fun k hk hr => K3 ⟨by omega, by omega⟩ ?_
 have dp := Aq1 i (k := k.1.toNat) (by omega)
 obtain ⟨h1, h2, h3, h4, h5, h6⟩ := dp.head
 refine Bk (Dj hr 3) fun m hm hr => Dv (by omega) (by omega) ?_
 have hs := dp.seq (1 + m.1)
 rw [Ae3, Option.bind_some, h1, Option.bind_some]
 refine Dv (by omega) (by omega) (Bk (Dj hr _) fun j hj hr => Dv (by omega) (by omega) (Dv (by omega) (by omega) (Bk (Afo hr dp _) fun o _ hr => ?_)))
 rw [Aub i, Option.bind_some]
 exact T5 (fun k => Cn (Au8 i k) hr) (fun _ => Cn i hr)
theorem Avo {f : Int × List UInt8 × Int × Int × Bool × List DDoc × List DSub × Int -> Option (Lr (Int × List UInt8 × Int × Int × Bool × List DDoc × List DSub × Int) (List UInt8 × Int × Int × Bool × List DDoc × List DSub × Int))}
  (hf : ∀ s, f s = bif decide ((0 : Int) < s.1) then (Option.bind (M9 (⟨s.2.1, s.2.2.1, s.2.2.2.1⟩ : DL01Cur) (⟨s.2.2.2.2.1, s.2.2.2.2.2.1, s.2.2.2.2.2.2.1, s.2.2.2.2.2.2.2⟩ : DHub)) fun r117 => xg (Ac (s.1 - 1)) <| some (Lr.go (s.1 - 1, r117.2.b, r117.2.i, r117.2.h, r117.1.shut, r117.1.docs, r117.1.subs, r117.1.last))) else (some (Lr.out (s.2.1, s.2.2.1, s.2.2.2.1, s.2.2.2.2.1, s.2.2.2.2.2.1, s.2.2.2.2.2.2.1, s.2.2.2.2.2.2.2))))
  {n : Int} (hn : 0 <= n /\ n <= 1000) {c : DL01Cur} (h : cur c) {x : DHub} (i : HInv x) :
  Tot HInv (Option.bind (Bj f (n, c.b, c.i, c.h, x.shut, x.docs, x.subs, x.last)) fun (y130 : List UInt8 × Int × Int × Bool × List DDoc × List DSub × Int) => some ((⟨y130.2.2.2.1, y130.2.2.2.2.1, y130.2.2.2.2.2.1, y130.2.2.2.2.2.2⟩ : DHub), (⟨y130.1, y130.2.1, y130.2.2.1⟩ : DL01Cur))) := by
 obtain ⟨y, h1, h2, h3⟩ := Ki (f := f) (fun s => (s.1 <= 1000 /\ cur ⟨s.2.1, s.2.2.1, s.2.2.2.1⟩) /\ HInv ⟨s.2.2.2.2.1, s.2.2.2.2.2.1, s.2.2.2.2.2.2.1, s.2.2.2.2.2.2.2⟩) (fun s => s.1.toNat) (fun y => HInv ⟨y.2.2.2.1, y.2.2.2.2.1, y.2.2.2.2.2.1, y.2.2.2.2.2.2⟩ /\ cur ⟨y.1, y.2.1, y.2.2.1⟩) (fun s hP => by
  rw [hf]
  by_cases g : (0 : Int) < s.1
  ·obtain ⟨y, d, a1, a2, a3⟩ := Bho hP.1.2 hP.2
   rw [Ak g, a1, Option.bind_some, Av (by omega) (by omega)]
   exact .inl ⟨_, rfl, ⟨⟨by simp only; omega, a3⟩, a2⟩, by simp only; omega⟩
  ·rw [Ag g]; exact .inr ⟨_, rfl, hP.2, hP.1.2⟩) (n, c.b, c.i, c.h, x.shut, x.docs, x.subs, x.last) ⟨⟨hn.2, h⟩, i⟩
 rw [h1]
 exact ⟨_, _, rfl, h2, h3⟩
theorem Bhp {c : DL01Cur} (h : cur c) {most : Int} (hm : 0 <= most /\ most <= 900) : Tot HInv (Rl c most) := by
 unfold Rl
 refine Bk (Zd h (by omega) (by omega)) fun t ht hr => ?_
 have n1 : C5 (⟨#[97]⟩ : ByteArray) = true := Adi (by decide) (by decide) (by decide)
 have n2 : C5 (⟨#[110, 111, 116, 101, 115]⟩ : ByteArray) = true := Adi (by decide) (by decide) (by decide)
 have o1 : (Er Ds (⟨#[97]⟩ : ByteArray) t.1).2 = 0 := by unfold Er; rw [if_pos ⟨n1, ht⟩]; rfl
 have i1 := Ya Aq0 o1
 have e1 := Yu Aq0 (⟨#[97]⟩ : ByteArray) (by decide) t.1 (by have := Gv ht; omega)
 have o2 : ∀ u, Bo u = true -> (Er (Er Ds (⟨#[97]⟩ : ByteArray) t.1).1 (⟨#[110, 111, 116, 101, 115]⟩ : ByteArray) u).2 = 0 := fun u hu => by
  have : (Er Ds (⟨#[97]⟩ : ByteArray) t.1).1 = ⟨false, [⟨⟨#[97]⟩, 0, t.1, [], []⟩], [], 0⟩ := by unfold Er; rw [if_pos ⟨n1, ht⟩]; rfl
  rw [this]
  unfold Er
  rw [if_pos ⟨n2, hu⟩]
  rfl
 unfold Ds at e1
 rw [e1, Option.bind_some]
 refine Bk (Ow hr 2) fun b _ hr => Oz ?_ ?_
 ·refine Bk (Zd hr (by omega) (by omega)) fun u hu hr => ?_
  have hlu := Gv hu
  rw [show Er (⟨false, [], [], 0⟩ : DHub) (⟨#[97]⟩ : ByteArray) t.1 = Er Ds (⟨#[97]⟩ : ByteArray) t.1 from rfl, Yu i1 (⟨#[110, 111, 116, 101, 115]⟩ : ByteArray) (by decide) u.1 (by omega), Option.bind_some]
  refine Dv (by omega) (by omega) (Bk (Dj hr _) fun m hm' hr => ?_)
  exact Avo (f := Ah9) (fun s => rfl) ⟨by omega, by omega⟩ hr (Ya i1 (o2 u.1 hu))
 ·refine Dv (by omega) (by omega) (Bk (Dj hr _) fun m hm' hr => ?_)
  exact Avo (f := Aia) (fun s => rfl) ⟨by omega, by omega⟩ hr i1
theorem Ben (code : List UInt8) (hl : code.length <= 1048580) : ∃ h, U6 code = some h /\ HInv h := by
 obtain ⟨c, h1, h2, _, _⟩ := Aud code hl
 obtain ⟨h, d, h3, h4, _⟩ := Bhp h2 (most := 14) (by omega)
 unfold U6
 rw [h1, Option.bind_some, h3]
 exact ⟨h, rfl, h4⟩
theorem Ze (name : ByteArray) {d : DDoc} (hd : DP d) {c : DL01Cur} (h : cur c) : Tot (fun _ : DCall => True) (Ps name d c) := by
 unfold Ps
 refine Bk (Dj h 3) fun m hm hr => Dv (by omega) (by omega) ?_
 have hs := hd.seq (1 + m.1)
 rw [Ae3, Option.bind_some]
 refine Dv (by omega) (by omega) (Bk (Ow hr 8) fun b _ hr => Oz ?_ ?_)
 ·exact Bk (Dj hr 2) fun q hq hr => Dv (by omega) (by omega) (Bk (Afm hr hd) fun _ _ hr => Bk (Afo hr hd _) fun _ _ hr => Cn trivial hr)
 ·exact Bk (Afm hr hd) fun _ _ hr => Bk (Afo hr hd _) fun _ _ hr => Cn trivial hr
theorem Avn (name : ByteArray) {d : DDoc} (hd : DP d) {c : DL01Cur} (h : cur c) : Tot (fun _ : DCall => True) (Vy name d c) := by
 unfold Vy
 refine Bk (Dj h 14) fun r _ hr => ?_
 have poll : ∀ {c : DL01Cur}, cur c -> Tot (fun _ : DCall => True) (Option.bind (Bc c 3) fun r144 => xg (Ac (1 + r144.1)) <| Option.bind (Bc r144.2 3) fun r151 => xg (Ac (1 + r151.1)) <| some ((⟨6, ByteArray.empty, 1 + r144.1, 0, 1 + r151.1, [], []⟩ : DCall), r151.2)) := fun hr => Bk (Dj hr 3) fun m hm hr => Dv (by omega) (by omega) (Bk (Dj hr 3) fun m hm hr => Dv (by omega) (by omega) (Cn trivial hr))
 have resync : ∀ {c : DL01Cur}, cur c -> Tot (fun _ : DCall => True) (Option.bind (Bc c 3) fun r163 => xg (Ac (1 + r163.1)) <| some ((⟨7, ByteArray.empty, 1 + r163.1, 0, 0, [], []⟩ : DCall), r163.2)) := fun hr => Bk (Dj hr 3) fun m hm hr => Dv (by omega) (by omega) (Cn trivial hr)
 refine C6 (fun _ => Bk (Zb hr) fun _ _ hr => Bk (Zd hr (by omega) (by omega)) fun _ _ hr => Cn trivial hr) fun _ => ?_
 refine C6 (fun _ => Bk (Afm hr hd) fun _ _ hr => Cn trivial hr) fun _ => ?_
 refine C6 (fun _ => Cn trivial hr) fun _ => ?_
 refine C6 (fun _ => Bk (Dj hr 3) fun m hm hr => Dv (by omega) (by omega) (Cn trivial hr)) fun _ => ?_
 refine C6 (fun _ => C6 (fun _ => poll hr) fun _ => C6 (fun _ => resync hr) fun _ => C6 (fun _ => Bk (Ow hr 4) fun _ _ hr => Oz (Cn trivial hr) (Ze name hd hr)) fun _ => Ze name hd hr) fun _ => ?_
 exact C6 (fun _ => poll hr) fun _ => C6 (fun _ => resync hr) fun _ => C6 (fun _ => Bk (Ow hr 4) fun _ _ hr => Oz (Cn trivial hr) (Ze name hd hr)) fun _ => Ze name hd hr
theorem Afn (n : ByteArray) {c : DL01Cur} (h : cur c) {x : DHub} (i : HInv x) : Tot (fun _ : DCall => True) (R7 n x c) := by
 unfold R7
 rw [Mi, Option.bind_some]
 exact C6 (fun g => K3 ⟨g, P9 _ _⟩ (Avn n (Aq1 i (Ac6 g).1) h)) fun _ => Avn n (d := D3) (.inr rfl) h
theorem Bhn {c : DL01Cur} (h : cur c) {x : DHub} (i : HInv x) : Tot (fun _ : DCall => True) (Rn c x) := by
 unfold Rn
 refine Bk (Zb h) fun n _ hr => C6 (fun hp => ?_) fun _ => Afn n.1 hr i
 refine Bk (Ow hr 6) fun q _ hr => Oz (Bk (Dj hr _) fun k hk hr => K3 ⟨by omega, by omega⟩ (Afn _ hr i)) (Afn n.1 hr i)
theorem Beb {c : DL01Cur} (h : cur c) {x : DHub} (i : HInv x) : Tot (fun l : List DCall => l.length <= 20) (Rm c x 9) := by
 unfold Rm
 refine Dv (by omega) (by omega) (Bk (Dj h _) fun n hn hr => ?_)
 obtain ⟨y, h1, h2, h3⟩ := Ki (f := Aay x) (fun s => ((s.1.length : Int) + s.2.1 <= 20 /\ 0 <= s.2.1 /\ cur ⟨s.2.2.1, s.2.2.2.1, s.2.2.2.2.1⟩) /\ HInv ⟨s.2.2.2.2.2.1, s.2.2.2.2.2.2.1, s.2.2.2.2.2.2.2.1, s.2.2.2.2.2.2.2.2⟩) (fun s => s.2.1.toNat) (fun y => y.1.length <= 20 /\ cur ⟨y.2.1, y.2.2.1, y.2.2.2⟩) (fun s hP => by
  obtain ⟨⟨p1, p2, p3⟩, p4⟩ := hP
  unfold Aay Aib
  by_cases g : (0 : Int) < s.2.1
  ·obtain ⟨y, d, a1, _, a3⟩ := Bhn p3 p4
   rw [Ak g, a1, Option.bind_some, Ae (by omega), Bec p4, Option.bind_some, Av (by omega) (by omega)]
   exact .inl ⟨_, rfl, ⟨⟨by simp only [List.length_append, List.length_cons, List.length_nil]; omega, by simp only; omega, a3⟩, Ao3 p4 y⟩, by simp only; omega⟩
  ·rw [Ag g]; exact .inr ⟨_, rfl, by simp only; omega, p3⟩) ([], n.1, n.2.b, n.2.i, n.2.h, x.shut, x.docs, x.subs, x.last) ⟨⟨by simp only [List.length_nil]; omega, by simp only; omega, hr⟩, i⟩
 rw [h1]
 exact ⟨_, _, rfl, h2, h3⟩
theorem Bem (code : List UInt8) (hl : code.length <= 1048580) {x : DHub} (i : HInv x) : ∃ l, U5 code x = some l /\ l.length <= 20 := by
 obtain ⟨c, h1, h2, h3, h4⟩ := Aud code hl
 obtain ⟨l, d, a1, a2, _⟩ := Beb (A0q h2 (c.h + 31)) i
 unfold U5
 rw [h1, Option.bind_some, Av (by omega) (by omega), a1, Option.bind_some]
 obtain ⟨y, b1, b2⟩ := Ni (F := Ahm (l, d)) (e := fun s => s) l (fun r k s => s.length <= k /\ k + r.length <= 20) (fun _ _ _ y => y.length <= 20) (fun s hP => by simp only [List.length_nil] at hP; omega) (fun x r k s hk hx hP => by
  unfold Ahm Awv
  rw [At5, Option.bind_some]
  have := hP.2
  simp only [List.length_cons] at this
  cases Gt (el (l, d).1 k) with
  | true => rw [Bh, Ae (by omega)]; exact .inl ⟨_, rfl, ⟨by simp only [List.length_append, List.length_cons, List.length_nil]; omega, by omega⟩, fun _ h => h⟩
  | false => rw [An]; exact .inl ⟨_, rfl, ⟨by omega, by omega⟩, fun _ h => h⟩) [] ⟨by simp, by omega⟩
 rw [b1]
 exact ⟨y, rfl, b2⟩
theorem A8t {x : DHub} (i : HInv x) (l : List DCall) (hl : l.length <= 1000) : ∃ r, Ud x l = some r /\ HInv r.1 := by
 unfold Ud
 rw [i.ic, Option.bind_some]
 obtain ⟨y, b1, b2⟩ := Ni (F := Agd l) (e := fun (s205 : List DAnswer × Bool × List DDoc × List DSub × Int) => ((s205.1, s205.2.1, s205.2.2.1, s205.2.2.2.1, s205.2.2.2.2) : List DAnswer × Bool × List DDoc × List DSub × Int)) l (fun _ k s => s.1.length <= k /\ HInv ⟨s.2.1, s.2.2.1, s.2.2.2.1, s.2.2.2.2⟩) (fun _ _ _ y => HInv ⟨y.2.1, y.2.2.1, y.2.2.2.1, y.2.2.2.2⟩) (fun s hP => hP.2) (fun c r k s hk hx hP => by
  unfold Agd Awf
  rw [Acp hP.2, Option.bind_some, Ae (by omega)]
  exact .inl ⟨_, rfl, ⟨by simp only [List.length_append, List.length_cons, List.length_nil]; omega, Ao3 hP.2 _⟩, fun _ h => h⟩) ([], x.shut, x.docs, x.subs, x.last) ⟨by simp, i⟩
 rw [b1]
 exact ⟨_, rfl, b2⟩
end
theorem Bf5 {l : List DSub} (h : List.Pairwise (fun a b => a.id < b.id) l) {k : Nat} (hk : k < l.length) : Cd l (el l k).id = k := by
 have hc : 0 <= Cd l (el l k).id := by
  by_cases g : 0 <= Cd l (el l k).id
  ·exact g
  ·have := (Aru (p := fun d : DSub => decide (d.id = (el l k).id)) (l := l)).1 (by unfold Cd at g; omega) _ (Cl hk)
   rw [decide_eq_true rfl] at this; cases this
 obtain ⟨h1, h2, h3, _⟩ := Oo hc
 rw [List.pairwise_iff_getElem] at h
 generalize Cd l (el l k).id = j at h1 h2 h3 hc ⊢
 rw [G9 h1, G9 hk] at h3
 by_cases g1 : j.toNat < k
 ·have := h _ _ h1 hk g1; omega
 ·by_cases g2 : k < j.toNat
  ·have := h _ _ hk h1 g2; omega
  ·omega
theorem A0f (n : Int) : Gt ⟨6, ByteArray.empty, n, 0, 1, [], []⟩ = true := by
 unfold Gt
 rw [decide_eq_true (show (1 : Int) <= 6 /\ (6 : Int) <= 8 by omega), decide_eq_true (show ByteArray.empty.size <= 8 by decide), decide_eq_true (show (⟨6, ByteArray.empty, n, 0, 1, [], []⟩ : DCall) = Mt ⟨6, ByteArray.empty, n, 0, 1, [], []⟩ by unfold Mt; simp)]
 rfl
theorem A0g (n : Int) : Gt ⟨7, ByteArray.empty, n, 0, 0, [], []⟩ = true := by
 unfold Gt
 rw [decide_eq_true (show (1 : Int) <= 7 /\ (7 : Int) <= 8 by omega), decide_eq_true (show ByteArray.empty.size <= 8 by decide), decide_eq_true (show (⟨7, ByteArray.empty, n, 0, 0, [], []⟩ : DCall) = Mt ⟨7, ByteArray.empty, n, 0, 0, [], []⟩ by unfold Mt; simp)]
 rfl
theorem Bf6 {r : DHub × List DAnswer} (i : HInv r.1) (code : List UInt8) {k : Nat} (hk : k < r.1.subs.length) : Uv r code k () = some (.go ()) := by
 unfold Uv Ag1
 have hs := Cl hk
 have hone := Bf5 i.ci hk
 obtain ⟨g1, g2, d, g3, g4⟩ := i.sg _ hs
 obtain ⟨f1, f2, f3, f4⟩ := Il i (i.dix hs)
 have hg := Gu g2
 have hd : el r.1.docs (A0 r.1.docs (el r.1.subs k).doc).toNat = d := (V3 g3).2
 rw [Mi, Option.bind_some, Ag (by have := i.dix hs; omega), Ae ⟨i.dix hs, f2⟩]
 rw [hd] at f3 f4 ⊢
 cases ho : (el r.1.subs k).r.out with
 | true =>
  have d6 : I2 r.1 ⟨6, ByteArray.empty, (el r.1.subs k).id, 0, 1, [], []⟩ = (r.1, ⟨9, 0, [], []⟩) := by
   unfold I2
   rw [A0f, if_pos rfl]
   simp only
   rw [if_neg (by decide), if_neg (by decide), if_neg (by decide), if_neg (by decide), if_neg (by decide), if_pos trivial]
   have hp : (Gn r.1 (el r.1.subs k).id 1).2.2 = 9 := by
    unfold Gn
    rw [if_neg (by decide), hone, if_neg (by omega), Int.toNat_natCast]
    unfold H1
    rw [ho, if_pos rfl]
    simp
   unfold H7
   rw [hp, if_neg (by decide)]
  have d7 : I2 r.1 ⟨7, ByteArray.empty, (el r.1.subs k).id, 0, 0, [], []⟩ = (⟨r.1.shut, r.1.docs, r.1.subs.set k ⟨(el r.1.subs k).id, (el r.1.subs k).doc, Gd (el r.1.subs k).r.cap (Bi d)⟩, r.1.last⟩, ⟨0, Bi d, Dk d.list d.text, []⟩) := by
   unfold I2
   rw [A0g, if_pos rfl]
   simp only
   rw [if_neg (by decide), if_neg (by decide), if_neg (by decide), if_neg (by decide), if_neg (by decide), if_neg (by decide), if_pos trivial]
   unfold Gp
   rw [hone, if_neg (by omega), Int.toNat_natCast, hd]
   rfl
  have hset : Cd (r.1.subs.set k ⟨(el r.1.subs k).id, (el r.1.subs k).doc, Gd (el r.1.subs k).r.cap (Bi d)⟩) (el r.1.subs k).id = k := by
   have h0 : 0 <= Cf (fun s : DSub => decide (s.id = (el r.1.subs k).id)) r.1.subs := by unfold Cd at hone; omega
   have := Arw (p := fun s : DSub => decide (s.id = (el r.1.subs k).id)) (y := ⟨(el r.1.subs k).id, (el r.1.subs k).doc, Gd (el r.1.subs k).r.cap (Bi d)⟩) (by simp) h0
   unfold Cd at hone ⊢
   rw [hone, Int.toNat_natCast] at this
   exact this
  rw [Bh, Acp i, Option.bind_some, Acp i, Option.bind_some, d6, d7, Aex, Option.bind_some]
  simp only
  rw [hset, decide_eq_true trivial, Bool.not_true, An, Option.bind_some, An, Nz f3, Option.bind_some, decide_eq_true rfl, Bool.not_true, Option.bind_some, An, W6 f4 f3, Option.bind_some, Aq9, Option.bind_some, decide_eq_true rfl, Bool.not_true, Option.bind_some, An, decide_eq_false (by omega), Option.bind_some, An, Ae ⟨by omega, by rw [List.length_set]; omega⟩, Option.bind_some, Int.toNat_natCast, Ao7 hk]
  rfl
 | false =>
  obtain ⟨q1, q2⟩ := g4 ho
  have h8 := D6 f3
  have hb := Kf f3
  unfold Bi at q1
  rw [An, Av (by omega) (by omega), Acs f4 f3, Option.bind_some, A8w _ (Od g2), Option.bind_some]
  by_cases c : d.from_ < (el r.1.subs k).r.next
  ·have hl : (el r.1.subs k).r.list = d.list.drop ((el r.1.subs k).r.next - 1 - d.from_).toNat := by
    have h1 := List.IsSuffix.length_le q2
    have h2 := List.suffix_iff_eq_drop.1 q2
    rw [show ((el r.1.subs k).r.next - 1 - d.from_).toNat = d.list.length - (el r.1.subs k).r.list.length by omega]
    exact h2
   have hc := Sh (Qk f3) ((el r.1.subs k).r.next - 1 - d.from_).toNat
   have hf : Wl (Dk (d.list.take ((el r.1.subs k).r.next - 1 - d.from_).toNat) d.text) (el r.1.subs k).r.list = (Dk d.list d.text, true) := by
    unfold Wl
    rw [Acl f3, if_pos rfl, hl, hc.2]
    rfl
   rw [Ak c, if_pos ⟨by omega, by omega⟩]
   simp only
   rw [hf]
   simp only
   rw [Bool.not_true, An, Option.bind_some, An, W6 f4 f3, Option.bind_some, Aq9, Option.bind_some, decide_eq_true rfl, Bool.not_true, Option.bind_some, Option.bind_some]
   rfl
  ·rw [Ag c]; rfl
theorem Ba3 (code : List UInt8) (_ : wfL wfY code) : Q6 code = some true := by
 unfold Q6
 by_cases c : (1048576 : Int) < (code.length : Int)
 ·rw [Ak c]
 ·rw [Ag c]
  obtain ⟨h, h1, h2⟩ := Ben code (by omega)
  obtain ⟨l, l1, l2⟩ := Bem code (by omega) h2
  obtain ⟨r, r1, r2⟩ := A8t h2 l (by omega)
  rw [h1, Option.bind_some, l1, Option.bind_some, r1, Option.bind_some, r2.i, Option.bind_some, Bool.not_true, An]
  have key := Ff (F := Uv r code) (e := fun (s697 : Unit) => (Sum.inl () : Sum Unit Unit)) r.1.subs (fun _ _ _ => True) (fun _ _ _ => Sum.inl ()) (fun _ _ => rfl) (fun x q k s hk hx _ => .inl ⟨(), Bf6 r2 code hk, trivial, rfl⟩) () trivial
  rw [key]
  rfl
section
open Go.RowKit
def Opens (P : Program) (t : TypeId) {T : Type} (f : T -> List Ce) (p : T -> Prop) (k : Nat) : Prop :=
 ∀ {H : Type} (enc : TypeId × Value -> H) (w : World) (base : Nat) (spare : Nat -> Bool) (held : Bool) (fuel : Nat) (cs : List Value) (x : DataW H × List MemPlace),
  DataW.trod enc P w base spare held fuel t cs = some x -> cs.length = k /\ ∃ y : T, p y /\ Br (al w) w (f y) cs
theorem Bby {P : Program} {t : TypeId} (ht : P.underlying t = some (.int .u8)) : Opens P t (fun n : UInt8 => [cY n]) wfY 1 := fun enc w base spare held fuel cs x h => by
 obtain ⟨n, rfl, _, hw⟩ := DataW.trod_int ht h
 have h1 : IntKind.u8.min = 0 := rfl
 have h2 : IntKind.u8.max = 255 := rfl
 have hr : 0 <= n /\ n <= 255 := by simpa [Lit.wf, h1, h2] using hw
 refine ⟨rfl, UInt8.ofNat n.toNat, trivial, ⟨_, _, rfl, ?_, rfl⟩⟩
 show Value.int .u8 n = _
 have : (UInt8.ofNat n.toNat).toNat = n.toNat := by
  rw [UInt8.toNat_ofNat', Nat.mod_eq_of_lt (by omega)]
 rw [this, Int.toNat_of_nonneg hr.1]
theorem cells?_get {w : World} {base : Nat} {a : Addr} : ∀ {n : Nat} {cs : List Value}, w.cells? base a n = some cs -> cs.length = n /\ ∀ j u, cs[j]? = some u -> w.cell? (a.add j) = some u := by
 intro n cs h
 unfold World.cells? at h
 split at h
 ·have key : ∀ (l : List Nat) (cs : List Value), l.mapM (fun i => w.cell? (a.add i)) = some cs -> cs.length = l.length /\ ∀ (j : Nat) u, cs[j]? = some u -> ∃ i, l[j]? = some i /\ w.cell? (a.add i) = some u := by
   intro l
   induction l with
   | nil => intro cs h; simp at h; subst h; simp
   | cons i l ih =>
    intro cs h
    simp only [List.mapM_cons, bind, Option.bind_eq_some_iff] at h
    obtain ⟨u, hu, vs, hvs, hc⟩ := h
    simp only [pure, Option.some.injEq] at hc
    subst hc
    have h1 := ih vs hvs
    refine ⟨by simp [h1.1], fun j v hj => ?_⟩
    cases j with
    | zero => simp at hj; subst hj; exact ⟨i, rfl, hu⟩
    | succ j => simpa using h1.2 j v (by simpa using hj)
  have h1 := key _ _ h
  refine ⟨by simpa using h1.1, fun j u hj => ?_⟩
  obtain ⟨i, hi, hc⟩ := h1.2 j u hj
  have hlt := (List.getElem?_eq_some_iff.1 hi).1
  have : i = j := by
   have := (List.getElem?_eq_some_iff.1 hi).2
   simpa using this.symm
  subst this
  exact hc
 ·cases h
theorem Bbx {P : Program} {t e : TypeId} {T : Type} {f : T -> List Ce} {p : T -> Prop} {k : Nat} (ht : P.underlying t = some (.slice e)) (hk : P.cellsOf e = k) (h0 : 0 < k) (he : Opens P e f p k) : Opens P t (fun l : List T => [Ad k f l]) (wfL p) 1 := by
 intro H enc w base spare held fuel cs x h
 rcases DataW.trod_slice ht h with ⟨rfl, _⟩ | ⟨a, len, cap, elems, rest, n, _, rfl, _, hb, hl, hm, hlen, hel, _, _⟩
 ·exact ⟨rfl, [], ⟨by simp, fun _ h => by cases h⟩, ⟨_, _, rfl, ⟨none, 0, rfl, Nat.le_refl _, by simp [maxLen], fun hne => absurd rfl hne⟩, rfl⟩⟩
 ·refine ⟨rfl, ?_⟩
  have each : ∀ i, i < len -> ∃ (y : T) (ci : List Value), w.cells? base (a.add (i * k)) k = some ci /\ ci.length = k /\ p y /\ Br (al w) w (f y) ci := by
   intro i hi
   have h1 := hel i hi
   rw [hk, List.getElem?_eq_getElem (by omega)] at h1
   obtain ⟨ci, hc, htr⟩ := Option.bind_eq_some_iff.1 h1
   obtain ⟨hlc, y, hy⟩ := he enc w base spare held n ci _ htr
   exact ⟨y, ci, hc, hlc, hy⟩
  have hspot : 0 < len -> a.spot = none /\ a.block < w.heap.size := fun hpos => by
   obtain ⟨y, ci, hc, hlc, _⟩ := each 0 hpos
   have h2 := (cells?_get hc).2 0 ci[0] (List.getElem?_eq_getElem (by omega))
   simp only [Nat.zero_mul] at h2
   have e0 : (a.add 0).add 0 = a := by simp [Addr.add]
   rw [e0] at h2
   refine ⟨World.cell?_spot h2, World.block_lt_of_cell? w a h2⟩
  have build : ∀ m, m <= len -> ∃ (l : List T) (es : List Value), l.length = m /\ (∀ y ∈ l, p y) /\ es.length = m * k /\ Br (al w) w (l.flatMap f) es /\ ∀ j u, es[j]? = some u -> w.cell? ⟨a.block, a.off + j, none⟩ = some u := by
   intro m
   induction m with
   | zero => intro _; exact ⟨[], [], rfl, (fun _ h => by cases h), by simp, rfl, fun j u hj => by simp at hj⟩
   | succ m ih =>
    intro hm'
    obtain ⟨l, es, hll, hpl, hes, hrd, hc⟩ := ih (by omega)
    obtain ⟨y, ci, hci, hlc, hpy, hy⟩ := each m (by omega)
    refine ⟨l ++ [y], es ++ ci, by simp [hll], fun z hz => ?_, by rw [List.length_append, hes, hlc, Nat.add_mul, Nat.one_mul], ?_, fun j u hj => ?_⟩
    ·rcases List.mem_append.1 hz with hz | hz
     ·exact hpl z hz
     ·rw [List.mem_singleton.1 hz]; exact hpy
    ·rw [List.flatMap_append]
     refine Tg hrd ?_
     simpa using hy
    ·by_cases hj' : j < es.length
     ·rw [List.getElem?_append_left hj'] at hj
      exact hc j u hj
     ·rw [List.getElem?_append_right (by omega)] at hj
      have h2 := (cells?_get hci).2 (j - es.length) u hj
      have hsp := (hspot (by omega)).1
      obtain ⟨b, o, sp⟩ := a
      simp only at hsp
      subst hsp
      rw [Addr.add_lit, Addr.add_lit] at h2
      rw [show o + j = o + m * k + (j - es.length) by omega]
      exact h2
  obtain ⟨l, es, hll, hpl, hes, hrd, hc⟩ := build len (Nat.le_refl _)
  refine ⟨l, ⟨by rw [hll]; simp only [maxLen] at hm; omega, hpl⟩, ⟨_, _, rfl, ⟨some a, cap, by rw [hll], by rw [hll]; exact hl, hm, fun hne => ?_⟩, rfl⟩⟩
  have hpos : 0 < len := by
   rcases Nat.eq_zero_or_pos len with h | h
   ·subst h; rw [List.eq_nil_of_length_eq_zero hll] at hne; exact absurd rfl hne
   ·exact h
  obtain ⟨hs1, hs2⟩ := hspot hpos
  obtain ⟨b, o, sp⟩ := a
  simp only at hs1 hs2
  subst hs1
  exact ⟨b, o, es, rfl, fun _ _ => hs2, by rw [hll]; exact hes, hc, hrd⟩
end
section
open Go.RowKit
end
end Go.Proofs.YtipinmfmejccdaaGreat
