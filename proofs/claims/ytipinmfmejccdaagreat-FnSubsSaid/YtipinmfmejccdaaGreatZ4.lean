/- Part 4 of the proof: lemmas. No condition. -/
import Derived.Laws.IdiomCopy
import Derived.Lib.AppendZerosOnto
import Derived.Lib.Overlaps
import Derived.Test.YtipinmfmejccdaaGreatZ3
namespace Go.Proofs.YtipinmfmejccdaaGreat
section
open Go.RowKit
section
variable {ρ ρ' : List HV} {rs rs' : List Rd} {B : Base} {amb : List Rd} {st : SSt} {env : Env} {w : World} {m : List As}
theorem Xz (t : Ty) : (D4 t).length = sz t := by rw [<- Asb t default, List.length_map, Fm]
theorem Ady : ∀ {es : List Ty} {cs : List Cell} {own : List Chunk} {p : List Leaf × List Chunk}, E6 es cs own = some p -> p.1.length = es.length
 | [], [], _, _, h => by cases h; rfl
 | e :: es, c :: cs, own, p, h => by
  unfold E6 at h
  obtain ⟨q, h2, h3⟩ := Af h
  obtain ⟨z, h4, h5⟩ := Af h3
  cases h5
  simp [Ady h4]
 | [], _ :: _, _, _, h => by cases h
 | _ :: _, [], _, _, h => by cases h
theorem Yq : ∀ {es : List Ty} {cs : List Cell} {ls : List Leaf}, Hh st es cs = some ls -> ls.length = es.length /\ ls.length = cs.length
 | [], [], _, h => by cases h; exact ⟨rfl, rfl⟩
 | e :: es, c :: cs, ls, h => by
  unfold Hh at h
  obtain ⟨q, h2, h3⟩ := Af h
  obtain ⟨z, h4, h5⟩ := Af h3
  cases h5
  have := Yq h4
  simp [this.1, <- this.2]
 | [], _ :: _, _, h => by cases h
 | _ :: _, [], _, h => by cases h
theorem Aep (hs : Sat B amb ρ st env w) : ∀ {rv : List ResultVar} {vs : List V1}, Qo st rv = some vs -> ∃ vals, RVs Tryz.prog w env rv vals /\ All2 (V1.Den ρ) vs vals
 | [], _, h => by cases h; exact ⟨[], trivial, trivial⟩
 | .tmp t :: r, _, h => by
  unfold Qo at h
  obtain ⟨v, h1, h2⟩ := Af h
  obtain ⟨vs, h3, h4⟩ := Af h2
  cases h4
  obtain ⟨u, u1, u2⟩ := hs.env.ev1 h1
  obtain ⟨vals, k1, k2⟩ := Aep hs h3
  exact ⟨u :: vals, ⟨u1, k1⟩, u2, k2⟩
 | .cell a t :: r, _, h => by
  unfold Qo at h
  split at h
  ·rename_i q ti hx ht
   obtain ⟨cs, h1, h2⟩ := Af h
   have hlen := Nat.eq_of_beq_eq_true (bt h2).1; replace h2 := (bt h2).2
   obtain ⟨v, h3, h4⟩ := Af h2
   obtain ⟨vs, h5, h6⟩ := Af h4
   cases h6
   obtain ⟨vals, k1, k2⟩ := Aep hs h5
   obtain ⟨u, u1, b, u2, rfl⟩ := hs.env.evC hx
   obtain ⟨⟨d, hd, hk⟩, z, hz, _⟩ := Ey ht
   obtain ⟨m, rs, m1, m2, m3, hM⟩ := hs.mem
   obtain ⟨b', e, us, b1, b2, b3⟩ := Po m1 h1
   rw [u2] at b1; cases b1
   rcases Ada h3 b2 with ⟨a1, a2, a3⟩ | ⟨a1, u, a2, a3⟩
   ·have hl : us.length = ti.size := by rw [<- b2.len, hlen]
    have e1 : (us.drop 0).take ti.size = us := by rw [List.drop_zero, <- hl, List.take_length]
    rw [e1] at a3
    cases hk' : ti.k with
    | struct l =>
     rw [hk'] at hk; obtain ⟨l', rfl, _⟩ := hk
     exact ⟨_ :: vals, ⟨Bd7 hd hz hl u1 hM b3, k1⟩, a3, k2⟩
    | _ => rw [hk'] at a1; cases a1
   ·exact ⟨u :: vals, ⟨Bd8 hd (Zg hk a1) u1 hM b3 (by simpa using a2), k1⟩, a3, k2⟩
  ·cases h
theorem T4 : ∀ {ks : List RK} {vs : List V1} {own : List Chunk} {p : (List (List Leaf) × List (List Cell)) × List Chunk} {vals : List Value} {m : List As}, Ox ks vs own = some p -> All2 (V1.Den ρ) vs vals -> OwnOk ρ rs own m ->
  OwnLe own p.2 /\ ∃ lo m', OwnOk ρ rs p.2 m' /\ (∀ w, Z w m (lo ++ m')) /\ ∀ st2 ls, Me st2 ks p.1.1 p.1.2 = some ls -> ∃ rds, RPack ks ls vals lo rds /\ ∀ S w, Reads ρ st2 S w -> ∀ r ∈ rds, r.ok S w
 | [], [], own, p, [], m, h, _, h1 => by
  cases h
  exact ⟨OwnLe.refl _, [], m, h1, fun w => zI, fun st2 ls hl => by cases hl; exact ⟨[], ⟨rfl, rfl, rfl⟩, fun _ _ _ _ h => by cases h⟩⟩
 | k :: ks, v :: vs, own, p, u :: vals, m, h, ⟨d1, d2⟩, h1 => by
  unfold Ox at h
  cases hb : k.bx with
  | true =>
   rw [hb] at h
   simp only [cond_true] at h
   split at h
   ·rename_i hh
    obtain ⟨b0, q1, rfl⟩ := d1
    obtain ⟨z, c1, h⟩ := Af h
    obtain ⟨l0, _, b, e, us, m0, k0, k00, n1, n2⟩ := J7 c1 h1
    rw [q1] at k0; cases k0
    cases hk : k.own with
    | true =>
     rw [hk] at h
     simp only [cond_true] at h
     obtain ⟨y, c2, h⟩ := Af h
     obtain ⟨q, c3, h⟩ := Af h
     cases h
     obtain ⟨l1, l2, m1, k1, k2⟩ := Ie c2 k00 n1
     obtain ⟨l3, lo, m2, k3, k4, k5⟩ := T4 c3 d2 k1
     refine ⟨l0.trans (l1.trans l3), [Aw b0 us.toArray e] ++ (Ao (y.1.map Leaf.ce) us ++ lo), m2, k3, fun w => (n2 w).trans (Z.cons ((k2 w).trans (by simpa [List.append_assoc] using (k4 w).appL))), fun st2 ls hl => ?_⟩
     simp only [Me, hk, cond_true] at hl
     obtain ⟨q2, hl1, hl2⟩ := Af hl
     cases hl2
     obtain ⟨rds, r1, r2⟩ := k5 st2 q2 hl1
     exact ⟨rds, ⟨us, vals, lo, rds, _, l2.symm, by rw [Ady c2, Xz], r1, by rw [hb]; exact ⟨b0, e, rfl, rfl⟩, by rw [hk]; exact ⟨rfl, rfl⟩⟩, r2⟩
    | false =>
     rw [hk] at h
     simp only [cond_false] at h
     obtain ⟨q, c3, h⟩ := Af h
     cases h
     obtain ⟨l3, lo, m2, k3, k4, k5⟩ := T4 c3 d2 n1
     refine ⟨l0.trans l3, [Aw b0 us.toArray e] ++ lo, m2, k3, fun w => (n2 w).trans (Z.cons (k4 w)), fun st2 ls hl => ?_⟩
     simp only [Me, hk, cond_false] at hl
     obtain ⟨l, c2, hl⟩ := Af hl
     obtain ⟨q2, hl1, hl2⟩ := Af hl
     cases hl2
     obtain ⟨rds, r1, r2⟩ := k5 st2 q2 hl1
     have hlen := Yq c2
     refine ⟨rX us (l.map Leaf.ce) :: rds, ⟨us, vals, lo, rds, _, by rw [hlen.2, k00.len], by rw [hlen.1, Xz], r1, by rw [hb]; exact ⟨b0, e, rfl, rfl⟩, by rw [hk]; exact ⟨rfl, rfl⟩⟩, fun S w hr r hm => ?_⟩
     rcases List.mem_cons.1 hm with rfl | hm
     ·exact hr _ _ _ _ c2 k00
     ·exact r2 S w hr r hm
   ·cases h
  | false =>
  rw [hb] at h
  simp only [cond_false] at h
  cases hk : k.own with
  | true =>
   rw [hk] at h
   simp only [cond_true] at h
   obtain ⟨cs, c1, h⟩ := Af h
   obtain ⟨z, c2, h⟩ := Af h
   obtain ⟨q, c3, h⟩ := Af h
   cases h
   obtain ⟨us, rfl, e1⟩ := Vt c1 d1
   obtain ⟨l1, l2, m1, k1, k2⟩ := Ie c2 e1 h1
   obtain ⟨l3, lo, m2, k3, k4, k5⟩ := T4 c3 d2 k1
   refine ⟨l1.trans l3, Ao (z.1.map Leaf.ce) us ++ lo, m2, k3, fun w => (k2 w).trans (by simpa [List.append_assoc] using (k4 w).appL), fun st2 ls hl => ?_⟩
   simp only [Me, hk, cond_true] at hl
   obtain ⟨q2, hl1, hl2⟩ := Af hl
   cases hl2
   obtain ⟨rds, r1, r2⟩ := k5 st2 q2 hl1
   exact ⟨rds, ⟨us, vals, lo, rds, [], l2.symm, by rw [Ady c2, Xz], r1, by rw [hb]; exact ⟨rfl, rfl⟩, by rw [hk]; exact ⟨rfl, rfl⟩⟩, r2⟩
  | false =>
   rw [hk] at h
   simp only [cond_false] at h
   obtain ⟨cs, c1, h⟩ := Af h
   obtain ⟨q, c3, h⟩ := Af h
   cases h
   obtain ⟨l3, lo, m2, k3, k4, k5⟩ := T4 c3 d2 h1
   refine ⟨l3, lo, m2, k3, k4, fun st2 ls hl => ?_⟩
   simp only [Me, hk, cond_false] at hl
   obtain ⟨l, c2, hl⟩ := Af hl
   obtain ⟨q2, hl1, hl2⟩ := Af hl
   cases hl2
   obtain ⟨us, rfl, e1⟩ := Vt c1 d1
   obtain ⟨rds, r1, r2⟩ := k5 st2 q2 hl1
   have hlen := Yq c2
   refine ⟨rX us (l.map Leaf.ce) :: rds, ⟨us, vals, lo, rds, [], by rw [hlen.2, e1.len], by rw [hlen.1, Xz], r1, by rw [hb]; exact ⟨rfl, rfl⟩, by rw [hk]; exact ⟨rfl, rfl⟩⟩, fun S w hr r hm => ?_⟩
   rcases List.mem_cons.1 hm with rfl | hm
   ·exact hr _ _ _ _ c2 e1
   ·exact r2 S w hr r hm
 | [], [], _, _, _ :: _, _, _, h, _ => h.elim
 | [], _ :: _, _, _, _, _, h, _, _ => by cases h
 | _ :: _, [], _, _, _, _, h, _, _ => by cases h
 | _ :: _, _ :: _, _, _, [], _, _, h, _ => h.elim
theorem Zf (hx : Ext ρ ρ') {own0 : List Chunk} : ∀ {bx : List (Nat × Nat × BM × Ty)} {bs : List Bx} {own : List Chunk} {p : (List (List Leaf) × List (List Cell)) × List Chunk} {m : List As}, Mr bx own = some p -> All2 (BxOk ρ own0) bx bs -> (∀ c' ∈ own, ∀ c ∈ own0, Ec c' = Ec c -> c.Le c') -> OwnOk ρ' rs own m ->
  ∃ lo m', OwnOk ρ' rs p.2 m' /\ (∀ w, Z w m (lo ++ m')) /\ ∀ st2 ls, Md st2 bx p.1.1 p.1.2 = some ls -> ∃ rds, OPack bs (bx.map (·.2.2.1)) ls lo rds /\ ∀ S w, Reads ρ' st2 S w -> ∀ r ∈ rds, r.ok S w
 | [], [], own, p, m, h, _, _, h1 => by cases h; exact ⟨[], m, h1, fun w => zI, fun st2 ls hl => by cases hl; exact ⟨[], ⟨rfl, rfl⟩, fun _ _ _ _ h => by cases h⟩⟩
 | (hh, g, .ow, t) :: bx, (b, e, vs0) :: bs, own, p, m, h, ⟨⟨b1, cs0, b2, b3, b4⟩, hB⟩, hG, h1 => by
  unfold Mr at h
  obtain ⟨z, c1, h⟩ := Af h
  obtain ⟨l1, l2, b', e', vs, m1, k1, k2, k3, k4⟩ := J7 c1 h1
  have hb := hx.get b1
  rw [hb] at k1; cases k1
  obtain ⟨q, c2, h⟩ := Af h
  obtain ⟨q2, c3, h⟩ := Af h
  cases h
  obtain ⟨l3, l4, m2, k5, k6⟩ := Ie c2 k2 k3
  obtain ⟨lo, m3, r2, r3, r1⟩ := Zf hx c3 hB (fun c' hc => hG c' (l1 _ (l3 _ hc))) k5
  refine ⟨Aw b vs.toArray e' :: (Ao (q.1.map Leaf.ce) vs ++ lo), m3, r2, fun w => (k4 w).trans (Z.cons ((k6 w).trans (by simpa [List.append_assoc] using (r3 w).appL))), fun st2 ls hl => ?_⟩
  unfold Md at hl
  obtain ⟨q3, c4, hl⟩ := Af hl
  cases hl
  obtain ⟨rds, p1, p2⟩ := r1 st2 q3 c4
  exact ⟨rds, ⟨vs, lo, e', l4.symm, rfl, p1⟩, p2⟩
 | (hh, g, .rd, t) :: bx, (b, e, vs0) :: bs, own, p, m, h, ⟨⟨b1, cs0, b2, b3, b4⟩, hB⟩, hG, h1 => by
  unfold Mr at h
  obtain ⟨z, c1, h⟩ := Af h
  obtain ⟨l1, l2, b', e', vs, m1, k1, k2, k3, k4⟩ := J7 c1 h1
  have hb := hx.get b1
  rw [hb] at k1; cases k1
  obtain ⟨q, c3, h⟩ := Af h
  cases h
  obtain ⟨lo, m3, r2, r3, r1⟩ := Zf hx c3 hB (fun c' hc => hG c' (l1 _ hc)) k3
  refine ⟨Aw b vs.toArray e' :: lo, m3, r2, fun w => (k4 w).trans (r3 w).cons, fun st2 ls hl => ?_⟩
  unfold Md at hl
  obtain ⟨l, c2, hl⟩ := Af hl
  obtain ⟨q3, c4, hl⟩ := Af hl
  cases hl
  obtain ⟨rds, p1, p2⟩ := r1 st2 q3 c4
  have hlen := Yq c2
  refine ⟨rX vs (l.map Leaf.ce) :: rds, ⟨vs, lo, rds, e', by rw [hlen.2, k2.len], rfl, rfl, p1⟩, fun S w hr r hm => ?_⟩
  rcases List.mem_cons.1 hm with rfl | hm
  ·exact hr _ _ _ _ c2 k2
  ·exact p2 S w hr r hm
 | (hh, g, .lo, t) :: bx, (b, e, vs0) :: bs, own, p, m, h, ⟨⟨b1, cs0, b2, b3, b4⟩, hB⟩, hG, h1 => by
  unfold Mr at h
  obtain ⟨z, c1, h⟩ := Af h
  obtain ⟨l1, l2, b', e', vs, m1, k1, k2, k3, k4⟩ := J7 c1 h1
  have hb := hx.get b1
  rw [hb] at k1; cases k1
  have hg := Nat.eq_of_beq_eq_true (bt h).1; replace h := (bt h).2
  obtain ⟨lo, m3, r2, r3, r1⟩ := Zf hx h hB (fun c' hc => hG c' (l1 _ hc)) k3
  have hle := hG _ l2 _ b2 hg
  have hcs : z.1.2 = cs0 := by
   rcases hle with e | ⟨_, _, _, _, _, _, e, _⟩
   ·cases e; rfl
   ·cases e
  rw [hcs] at k2
  have hv := Ao2 b4 k2 (b3.mono fun _ _ => Cell.Den.mono hx)
  subst hv
  refine ⟨Aw b vs.toArray e' :: lo, m3, r2, fun w => (k4 w).trans (r3 w).cons, fun st2 ls hl => ?_⟩
  unfold Md at hl
  obtain ⟨rds, p1, p2⟩ := r1 st2 ls hl
  exact ⟨rds, by cases ls <;> exact ⟨lo, e', rfl, p1⟩, p2⟩
 | [], _ :: _, _, _, _, _, h, _, _ => h.elim
 | _ :: _, [], _, _, _, _, h, _, _ => h.elim
theorem St.letGo {l : List As} {lr : List Rd} (h : St B (l ++ m) rs w) (hr : ∀ S, Sees S w m rs -> ∀ r ∈ lr, r.ok S w) : St B l lr w := by
 obtain ⟨h1, hb, F, h2, h3, h4⟩ := h
 obtain ⟨F1, F2, g1, g2, g3, g4, g5⟩ := h2.split
 refine ⟨h1, hb, F1, g1, fun b hb' => h3 b (g4 b hb'), fun r hr' => hr _ ⟨fun r hr => ?_, fun a ha => ?_⟩ r hr'⟩
 ·exact r.mono (fun b hb' => ⟨hb'.1, hb'.2.1, fun h' => hb'.2.2 (g4 b h')⟩) (Lc.refl _ _) (h4 r hr)
 ·obtain ⟨F', h5, h6⟩ := g2.mem ha
  refine ⟨F', fun b hb' => ⟨?_, g2.lt b (h5 b hb'), fun h' => g3 b h' (h5 b hb')⟩, h6⟩
  exact .inr ((h3 b (g5 b (h5 b hb'))).elim .inr .inl)
theorem Apk {X S : Bs} {w0 : World} {f : FuncId} {ps : List PK} {ks : List RK} {x : PArgs ps -> Option (PRes ps ks)} {rv : List ResultVar} {z : SSt} {bx : List (Nat × Nat × BM × Ty)} {bs : List Bx} {r : PRes ps ks} (hs : Sat ⟨w0, X, S⟩ amb ρ' st env w) (hx : Ext ρ ρ') (hg : Grow z st) (hok : Ev z = true)
  (hB : All2 (BxOk ρ z.own) bx bs) (hm : bx.map (·.2.2.1) = F7 ps) (h : Wd rv ps ks bx st = some r) : ∃ vals, RVs Tryz.prog w env rv vals /\ ∃ own' rds, Left ⟨f, ps, ks, x⟩ bs r vals own' rds /\ Gives X S w0 own' rds w := by
 unfold Wd at h
 obtain ⟨vs, h1, h⟩ := Af h
 obtain ⟨p, h2, h⟩ := Af h
 obtain ⟨q, h3, h⟩ := Af h
 obtain ⟨l, h4, h⟩ := Af h
 obtain ⟨o, h5, h⟩ := Af h
 obtain ⟨vals, v1, v2⟩ := Aep hs h1
 obtain ⟨m, rs, m1, m2, m3, hM⟩ := hs.mem
 obtain ⟨l1, lo1, m', k1, k2, k3⟩ := T4 h2 v2 m1
 simp only [Ev, Bool.and_eq_true] at hok
 obtain ⟨lo2, m'', r2, r3, r1⟩ := Zf hx h3 hB (fun c' hc' c hc e => by
  obtain ⟨c0, g1, g2⟩ := hg.own c' (l1 c' hc') (by rw [e]; exact Xy hok.2 hc)
  have : c0 = c := Wt hok.1 g1 hc (by rw [g2.g, e])
  rw [<- this]; exact g2) k1
 obtain ⟨rds, p1, p2⟩ := k3 _ l h4
 have hM1 : St ⟨w0, X, S⟩ ((lo1 ++ lo2) ++ m'') rs w := by
  have := (hM.z (k2 w)).z (r3 w).appL
  simpa [List.append_assoc] using this
 obtain ⟨rds2, r4, r5⟩ := r1 _ o h5
 refine ⟨vals, v1, lo1 ++ lo2, rds ++ rds2, ⟨l, o, lo1, lo2, rds, rds2, T6 h, p1, by show OPack bs (F7 ps) o lo2 rds2; rw [<- hm]; exact r4, rfl, rfl⟩, ?_⟩
 exact (hM1.letGo fun S' hS' r hr' => by
  have hrd : Reads ρ' { st with own := q.2 } S' w := fun es cs ls us a1 a2 => Oe (st := { st with own := q.2 }) hS' r2 m2 a1 a2
  rcases List.mem_append.1 hr' with hr' | hr'
  ·exact p2 S' w hrd r hr'
  ·exact r5 S' w hrd r hr').gives
def nV : List PK -> Nat
 | [] => 0
 | .cap _ _ :: r => nV r
 | _ :: r => nV r + 1
theorem PIn.len {S : Bs} {ps : List PK} {a : PArgs ps} {vals caps : List Value} {own : List As} {bx : List Bx} (h : PIn S w ps a vals caps own bx) : vals.length = nV ps := by
 induction h with
 | nil => rfl
 | co _ _ ih => exact ih
 | cr _ _ _ ih => exact ih
 | _ => rename_i ih; simp [nV, ih]
theorem Auy : ∀ {vs : List V1} {vals : List Value} {k : Nat}, All2 (V1.Den ρ) vs vals -> EnvOk ρ (Y6 k vs) (Pt k vals)
 | [], [], _, _ => fun t sv h => by cases h
 | v :: vs, u :: vals, k, ⟨h1, h2⟩ => EnvOk.put (Auy h2) (sv := .v v) h1 k
 | [], _ :: _, _, h => h.elim
 | _ :: _, [], _, h => h.elim
theorem St.addEs {X S : Bs} {m : List As} (h : St ⟨w, X, S⟩ m [] w) : ∀ {rs : List Rd}, (∀ r ∈ rs, r.ok S w) -> St ⟨w, X, S⟩ m rs w
 | [], _ => h
 | r :: _rs, hr => (St.addEs h fun r' h' => hr r' (List.mem_cons_of_mem _ h')).addE (hr r (List.mem_cons_self ..))
theorem Ai {C : Ctx} (hC : ∀ c ∈ C.cons, Holds amb c) {f : FuncId} {fn : Func} {c : Code} {ps : List PK} {ks : List RK} {x : PArgs ps -> Option (PRes ps ks)} (hf : Tryz.prog.funcs[f]? = some fn) (hb : fn.body = some c) (hn : fn.ntmps = C.n) (hnm : (fn.name == "runtime.NumGoroutine") = false)
  (hl : Nat.ble (nV ps) C.n = true) (hx : ∀ a r, x a = some r -> Ah C fn.results.toList c ps ks a = some r) : Holds amb ⟨f, ps, ks, x⟩ := fun w X S a vals own bx r hp hL hS hr hxa => by
 have h := hx a r hxa
 unfold Ah at h
 have hok := (Jd h).1; replace h := (Jd h).2
 obtain ⟨ρ1, rs1, m1, a1, a2, a3, a4, a5, a6, a7, a8, a9, a10, a11⟩ := A9u (amb := amb) hp (st := ⟨[], [], [], 0⟩) (ρ := []) (m := []) (rs := amb) rfl trivial (fun _ h => by cases h) (fun _ h => h) (by rw [List.append_nil]; exact (St.enter hL hS).addEs hr)
 have hs : Sat ⟨w, X, S⟩ amb ρ1 { (Fg ps a ⟨[], [], [], 0⟩).st with env := Y6 0 (Fg ps a ⟨[], [], [], 0⟩).vs } (Pt 0 vals) w := ⟨a2, Auy a7, m1, rs1, a3, a4, a5, a6⟩
 refine enter hf hb hn hnm (by rw [hp.len]; exact hl) (Bd4 hC c (PRes ps ks) 0 _ some _ r ρ1 _ w _ h hs (fun e st' ρ' env' w' h' hn' => ?_) fun st' r0 ρ' env' w' k1 k2 k3 k4 k5 => ?_)
 ·cases e with
  | some j => cases h'
  | none =>
   obtain ⟨vs, v1, own', rds, v2, v3⟩ := Apk (f := f) (x := x) hn'.sat hn'.ext (z := (Fg ps a ⟨[], [], [], 0⟩).st) ⟨hn'.grow.nxt, hn'.grow.own, hn'.grow.rds⟩ hok a9 a10 h'
   exact A1j vs v1 ⟨vs, own', rds, rfl, v2, v3⟩
 ·have e : r0 = r := Option.some.inj k2
  subst e
  obtain ⟨vs, v1, own', rds, v2, v3⟩ := Apk (f := f) (x := x) k3 k4 (z := (Fg ps a ⟨[], [], [], 0⟩).st) ⟨k5.nxt, k5.own, k5.rds⟩ hok a9 a10 k1
  exact Np vs v1 ⟨vs, own', rds, rfl, v2, v3⟩
def Ab (f : Func) : Code := f.body.getD .skip
theorem Aj : ∀ c ∈ ([] : List Con), Holds amb c := fun _ h => by cases h
theorem Aa {a : Con} {l : List Con} (h : Holds amb a) (k : ∀ c ∈ l, Holds amb c) : ∀ c ∈ a :: l, Holds amb c := fun c hc => by
 rcases List.mem_cons.1 hc with rfl | hc
 ·exact h
 ·exact k c hc
end
end
def Abm {σ R : Type} (f : Nat -> σ -> (σ -> Option R) -> Option R) (e : σ -> Option R) : Nat -> Nat -> σ -> Option R
 | 0, _, s => e s
 | m + 1, k, s => f k s (Abm f e m (k + 1))
theorem Bt {σ ρ R : Type} {f : Nat -> σ -> Option (Lr σ ρ)} {e : σ -> ρ} {K : ρ -> Option R} : ∀ {n k : Nat} {s : σ}, Option.bind (Aq f e n k s) K = Abm (fun k s G => Option.bind (f k s) fun z => z.on G K) (fun s => K (e s)) n k s
 | 0, _, _ => rfl
 | n + 1, k, s => by
  show Option.bind (Option.bind (f k s) fun r => r.on (Aq f e n (k + 1)) some) K = Option.bind (f k s) fun z => z.on (Abm _ _ n (k + 1)) K
  cases f k s with
  | none => rfl
  | some z =>
   cases z with
   | go s => exact Bt (n := n)
   | out y => rfl
def Xe {σ R : Type} (f : σ -> (σ -> Option R) -> Option R) : Nat -> σ -> Option R
 | 0, _ => none
 | n + 1, s => f s (Xe f n)
open Classical in
noncomputable def Arp {σ R : Type} (f : σ -> (σ -> Option R) -> Option R) (s : σ) : Option R :=
 if h : ∃ n r, Xe f n s = some r then some h.choose_spec.choose else none
theorem iterKn_eq {σ ρ R : Type} {f : σ -> Option (Lr σ ρ)} {K : ρ -> Option R} : ∀ {n : Nat} {s : σ}, Xe (fun s G => Option.bind (f s) fun z => z.on G K) n s = Option.bind (Fh f n s) K
 | 0, _ => rfl
 | n + 1, s => by
  show Option.bind (f s) (fun z => z.on (Xe _ n) K) = Option.bind (Option.bind (f s) fun r => r.on (Fh f n) some) K
  cases f s with
  | none => rfl
  | some z =>
   cases z with
   | go s => exact iterKn_eq (n := n)
   | out y => rfl
theorem B9 {σ ρ R : Type} {f : σ -> Option (Lr σ ρ)} {K : ρ -> Option R} {s : σ} : Option.bind (Bj f s) K = Arp (fun s G => Option.bind (f s) fun z => z.on G K) s := by
 unfold Arp
 split
 ·rename_i h
  have h1 := iterKn_eq.symm.trans h.choose_spec.choose_spec
  obtain ⟨y, h2, h3⟩ := Af h1
  exact (congrArg (fun z => Option.bind z K) (Lu.2 ⟨_, h2⟩)).trans h3
 ·rename_i h
  cases hi : Bj f s with
  | none => rfl
  | some y =>
   obtain ⟨n, hn⟩ := Ars hi
   cases hk : K y with
   | none => exact hk
   | some r => exact absurd ⟨n, r, by rw [iterKn_eq, hn]; exact hk⟩ h
theorem B4 {α β : Type} {b : Bool} {x y : Option α} {K : α -> Option β} : Option.bind (bif b then x else y) K = bif b then Option.bind x K else Option.bind y K := by cases b <;> rfl
theorem B6 {α β : Type} {p : Prop} [Decidable p] {x : Option α} {K : α -> Option β} : Option.bind (xg p x) K = xg p (Option.bind x K) := by unfold xg; split <;> rfl
theorem B3 {α β γ : Type} {x : Option α} {f : α -> Option β} {K : β -> Option γ} : Option.bind (Option.bind x f) K = Option.bind x fun y => Option.bind (f y) K := by cases x <;> rfl
theorem B5 {α β : Type} {x : α} {K : α -> Option β} : Option.bind (some x) K = K x := rfl
theorem Aw7 {α : Type} [Decidable True] {x : Option α} : xg True x = x := by unfold xg; simp
theorem Ca {σ ρ τ : Type} {s : σ} {G : σ -> τ} {K : ρ -> τ} : Lr.on (.go s) G K = G s := rfl
theorem Cb {σ ρ τ : Type} {y : ρ} {G : σ -> τ} {K : ρ -> τ} : Lr.on (.out y) G K = K y := rfl
theorem B7 {α β γ : Type} {x : α} {f : α -> γ} {g : β -> γ} : Sum.elim f g (.inl x) = f x := rfl
theorem B8 {α β γ : Type} {x : β} {f : α -> γ} {g : β -> γ} : Sum.elim f g (.inr x) = g x := rfl
section
open Go.RowKit
section
variable {P : Program} {w : World} {w0 : Base} {m : List As} {rs : List Rd} {k : Nat}
theorem Mh (w : World) (dT sT ty elem : TypeId) (i : TypeInfo) (b o dLen dCap : Nat) (a : Addr) (sLen sCap n : Nat) (cs : List Value)
  (hu : P.underlying dT = some (.slice elem)) (hi : P.info? elem = some i) (hn : Nat.min sLen dLen = n) (hcl : cs.length = n * i.size)
  (hsrc : ∀ j v, cs[j]? = some v -> w.cell? (a.add j) = some v) (hc : ∀ j, j < cs.length -> (w.cell? ⟨b, o + j, none⟩).isSome = true) (hf : ∀ j, j < cs.length -> w.frozen? ⟨b, o + j, none⟩ = false) (h1 : ∀ v ∈ cs, v.oneCell' = true) :
  (Builtin.copy_ #[dT, sT] ty #[.slice (some ⟨b, o, none⟩) dLen dCap, .slice (some a) sLen sCap]).run P w = .ok (goInt n) (w.setCells b o cs) := by
 have hl := run_loadCells_list (P := P) w a cs hsrc
 have hst := run_storeCells_cells (P := P) b o cs 0 w (by simpa using hc) (by simpa using hf) h1
 rw [hcl] at hl
 simp [Builtin.copy_, run_underlying hu, Builtin.lenOf, Builtin.firstCells, sizeOf, typeInfo, hi, hn, hl, hst]
theorem St.rowAt {s : Sv} {n : Nat} {xs : List Value} (h : St w0 m rs w) (hm : Bf k s.v n xs ∈ m) (hn : 0 < n) :
  ∃ b off cap cur e hd, s = ⟨some ⟨b, off, none⟩, n, cap⟩ /\ (w.heap[b]? = some (.cells cur e hd) /\ Wr hd cur.size) /\ n <= cap /\ cap <= maxLen /\ off + cap * k <= cur.size /\ xs.length = n * k /\ (∀ j u, xs[j]? = some u -> w.cell? ⟨b, off + j, none⟩ = some u) := by
 obtain ⟨F, _, gl, gr⟩ := h.at' hm
 rcases gr with ⟨_, h0⟩ | ⟨b, off, cap, cur, e, hd, e1, hb, hg, hnc, hcm, hcs, htk⟩
 ·omega
 ·obtain ⟨ep, en, ec⟩ : s.p = some ⟨b, off, none⟩ /\ s.n = n /\ s.c = cap := by simpa [Sv.v] using e1
  refine ⟨b, off, cap, cur, e, hd, by cases s; simp only at ep en ec; rw [ep, en, ec], hg, hnc, hcm, hcs, gl, fun j u hj => ?_⟩
  rw [<- htk, List.getElem?_take] at hj
  split at hj
  ·rw [List.getElem?_drop, Array.getElem?_toList] at hj
   simp [World.cell?, hg.1, hj]
  ·cases hj
theorem Mg {b off n cap : Nat} {cur : Array Value} {e : TypeId} {hd : Nat × Nat} (hg : w.heap[b]? = some (.cells cur e hd) /\ Wr hd cur.size) (hs : off + cap * k <= cur.size) (hn : n <= cap) : (∀ j, j < n * k -> (w.cell? ⟨b, off + j, none⟩).isSome = true) /\ ∀ j, j < n * k -> w.frozen? ⟨b, off + j, none⟩ = false := by
 have hk := Nat.mul_le_mul_right k hn
 refine ⟨fun j hj => ?_, fun j hj => frz hg.1 hg.2 (by omega)⟩
 simp only [World.cell?, hg.1]
 simp
 omega
theorem St.boxAt {b : Nat} {e : TypeId} {cs : List Value} (h : St w0 m rs w) (hm : Aw b cs.toArray e ∈ m) : w.heap[b]? = some (.cells cs.toArray e (0, 0)) /\ ∀ j u, cs[j]? = some u -> w.cell? ⟨b, 0 + j, none⟩ = some u := by
 obtain ⟨F, _, _, hg⟩ := h.at' hm
 refine ⟨hg, fun j u hj => ?_⟩
 simp [World.cell?, hg, hj]
theorem St.boxRow {b : Nat} {e : TypeId} {cs : List Value} (h : St w0 (Aw b cs.toArray e :: m) rs w) (hl : cs.length = k) : St w0 (Bf k (Sv.v ⟨some ⟨b, 0, none⟩, 1, 1⟩) 1 cs :: m) rs w :=
 St.iso (l := [Aw b cs.toArray e]) (l' := [Bf k (Sv.v ⟨some ⟨b, 0, none⟩, 1, 1⟩) 1 cs]) h fun _ ⟨h0, F1, F2, ⟨h1, h2, h3⟩, h4⟩ =>
  ⟨h0, F1, F2, ⟨h1, by omega, .inr ⟨b, 0, 1, _, e, _, rfl, fun j hj => by rw [Nat.zero_add]; exact h2 j (by simp; omega), ⟨h3, wr0 _⟩, Nat.le_refl _, by simp [maxLen], by simp; omega, by simp [<- hl]⟩⟩, h4⟩
theorem St.apart {b off n c vb : Nat} {xs vs : List Value} {ve : TypeId} (h : St w0 (Bf k (Sv.v ⟨some ⟨b, off, none⟩, n, c⟩) n xs :: Aw vb vs.toArray ve :: m) rs w) (hc : 0 < c * k) : vb ≠ b := by
 obtain ⟨_, _, F, ⟨_, F1, F2, ⟨_, _, g1⟩, ⟨_, G1, G2, ⟨_, g2, g3⟩, _, _, g5, _⟩, hd, _, _⟩, _⟩ := h
 rcases g1 with ⟨q, _⟩ | ⟨b1, _, _, cur, _, _, q, hb, hg, _, _, hs, _⟩
 ·simp [Sv.v] at q
 obtain ⟨⟨rfl, rfl⟩, rfl⟩ : (b = b1 /\ off = _) /\ c = _ := by simpa [Sv.v] using q
 intro e
 subst e
 have h1 := hg.1
 rw [g3] at h1
 cases Option.some.inj h1
 have h3 := hb 0 hc
 exact hd _ h3 (g5 _ (g2 _ (by omega)))
theorem St.spare {b off n cap : Nat} {xs : List Value} (h : St w0 (Bf k (Sv.v ⟨some ⟨b, off, none⟩, n, cap⟩) n xs :: m) rs w) (m' : Nat) (hc : n + m' <= cap) : ∃ ys : List Value, ys.length = m' * k /\ St w0 (Bf k (Sv.v ⟨some ⟨b, off, none⟩, n + m', cap⟩) (n + m') (xs ++ ys) :: m) rs w := by
 obtain ⟨F, _, gl, gr⟩ := h.at' (List.mem_cons_self ..)
 rcases gr with ⟨q1, _⟩ | ⟨b2, off2, cap2, cur, e, hd, q1, qb, qg, qn, qm, qs, qtk⟩
 ·simp [Sv.v] at q1
 obtain ⟨⟨rfl, rfl⟩, rfl⟩ : (b = b2 /\ off = off2) /\ cap = cap2 := by simpa [Sv.v] using q1
 have hk := Nat.mul_le_mul_right k hc
 rw [Nat.add_mul] at hk
 have hl : ((cur.toList.drop (off + n * k)).take (m' * k)).length = m' * k := by rw [List.length_take, List.length_drop, Array.length_toList]; omega
 refine ⟨(cur.toList.drop (off + n * k)).take (m' * k), hl, h.updHead fun F ⟨q0, ql, qr⟩ => ?_⟩
 rcases qr with ⟨q1, _⟩ | ⟨b2, off2, cap2, cur2, e2, hd2, q1, qb, qg2, _, _, _, qtk2⟩
 ·simp [Sv.v] at q1
 obtain ⟨⟨rfl, rfl⟩, rfl⟩ : (b = b2 /\ off = off2) /\ cap = cap2 := by simpa [Sv.v] using q1
 refine ⟨F, ⟨q0, by rw [List.length_append, gl, hl, Nat.add_mul], .inr ⟨b, off, cap, cur, e, hd, rfl, qb, qg, hc, qm, qs, ?_⟩⟩, RelX.refl F w, fun _ hb => .inl hb⟩
 rw [Nat.add_mul, <- qtk, <- List.drop_drop, <- List.take_add]
theorem St.blit {b off n cap o : Nat} {xs cs : List Value} (h : St w0 (Bf k (Sv.v ⟨some ⟨b, off, none⟩, n, cap⟩) n xs :: m) rs w) (hfit : o + cs.length <= n * k) : St w0 (Bf k (Sv.v ⟨some ⟨b, off, none⟩, n, cap⟩) n (xs.take o ++ cs ++ xs.drop (o + cs.length)) :: m) rs (w.setCells b (off + o) cs) := by
 refine h.updHead fun F ⟨q0, ql, qr⟩ => ?_
 rcases qr with ⟨q1, _⟩ | ⟨b2, off2, cap2, cur, e, hd, q1, qb, qg, qn, qm, qs, qtk⟩
 ·simp [Sv.v] at q1
 obtain ⟨⟨rfl, rfl⟩, rfl⟩ : (b = b2 /\ off = off2) /\ cap = cap2 := by simpa [Sv.v] using q1
 have hk := Nat.mul_le_mul_right k qn
 have hrel := Tu (X := F) (b := b) cs (off + o) w fun j h1 h2 => by
  have := qb (j - off) (by omega)
  rw [show off + (j - off) = j by omega] at this
  exact this
 have hsz : off + n * k <= cur.toList.length := by rw [Array.length_toList]; omega
 have e1 := Ji cs cur.toList (off + o) (by omega)
 have esz : (Mm cur.toList (off + o) cs).toArray.size = cur.size := by
  rw [e1]
  simp only [List.size_toArray, List.length_append, List.length_take, List.length_drop, Array.length_toList] at hsz ⊢; omega
 refine ⟨F, ⟨fun b hb => Nat.lt_of_lt_of_le (q0 b hb) hrel.size, by simp; omega, .inr ⟨b, off, cap, _, e, hd, rfl, qb, ⟨Qu cs _ cur w qg.1, by rw [esz]; exact qg.2⟩, qn, qm, by rw [esz]; exact qs, ?_⟩⟩, hrel, fun _ hb => .inl hb⟩
 rw [e1]
 have t3 : (cur.toList.take (off + o)).drop off = xs.take o := by rw [List.drop_take, Nat.add_sub_cancel_left, <- qtk, List.take_take, Nat.min_eq_left (by omega)]
 have t4 : xs.drop (o + cs.length) = (cur.toList.drop (off + o + cs.length)).take (n * k - (o + cs.length)) := by rw [<- qtk, List.drop_take, List.drop_drop]; congr 2; omega
 have l1 : (cur.toList.take (off + o)).length = off + o := by rw [List.length_take]; omega
 simp only
 rw [List.append_assoc, List.drop_append_of_le_length (by omega), t3, t4, <- List.append_assoc, List.take_append, List.take_of_length_le (by simp; omega)]
 congr 2
 simp
 omega
end
section
variable {P : Program} {n : Nat} {env : Env} {w : World} {d : Option Tmp} {ty : TypeId} {pos : String} {af : Array Edge} {g : Option (Nat × Bool)} {k : Nat}
theorem Bdt {x hi : Operand} {t e : TypeId} {bytes : Nat} {z : Value} {s : Sv} {j : Int} (ht : P.underlying t = some (.slice e)) (hs : Sz P e k bytes z)
  (hx : ev env x = some s.v) (hhi : ev env hi = some (.int .i64 j)) (h0 : 0 <= j /\ j <= (s.c : Int)) :
  Runs P n env w ⟨d, .slice t x none (some hi) none, ty, pos, af, g⟩ (s.cut k 0 j.toNat).v w := fun b hb => by
 have hx' : b.eval x = .slice s.p s.n s.c := hb.ev hx
 simp only [execOp, hx', hb.ev hhi, Option.map_some, Option.map_none, Instr.sliceAt, Sem.run_bind, run_underlying ht, Result.andThen_ok, Instr.slice, Instr.sliceBounds, Instr.sliceBound, asIntOf, Sem.run_pure, Sem.run_ite, if_pos h0, hs.run, Nat.sub_zero, Sv.cut_eq]
theorem Aej {x lo : Operand} {t e : TypeId} {bytes : Nat} {z : Value} {s : Sv} {i : Int} (ht : P.underlying t = some (.slice e)) (hs : Sz P e k bytes z)
  (hx : ev env x = some s.v) (hlo : ev env lo = some (.int .i64 i)) (h0 : 0 <= i /\ i <= (s.n : Int)) (hc : s.n <= s.c) :
  Runs P n env w ⟨d, .slice t x (some lo) none none, ty, pos, af, g⟩ (s.cut k i.toNat s.n).v w := fun b hb => by
 have e6 : (s.c - i.toNat = 0) = (s.c = i.toNat) := by
  apply propext
  omega
 have hx' : b.eval x = .slice s.p s.n s.c := hb.ev hx
 simp only [execOp, hx', hb.ev hlo, Option.map_some, Option.map_none, Instr.sliceAt, Sem.run_bind, run_underlying ht, Result.andThen_ok, Instr.slice, Instr.sliceBounds, Instr.sliceBound, asIntOf, Sem.run_pure, Sem.run_ite, if_pos h0, hs.run, Option.isSome_none, Bool.false_eq_true, if_false, e6, Sv.cut_eq]
theorem Ake {b off n c i n' : Nat} (h : i < c) : Sv.cut ⟨some ⟨b, off, none⟩, n, c⟩ k i n' = ⟨some ⟨b, off + i * k, none⟩, n' - i, c - i⟩ := by
 unfold Sv.cut
 simp only
 rw [if_neg (by omega)]
 simp [Addr.add_lit]
theorem A0s {b off n c n' : Nat} (h : 0 < c) : Sv.cut ⟨some ⟨b, off, none⟩, n, c⟩ k 0 n' = ⟨some ⟨b, off, none⟩, n', c⟩ := by
 rw [Ake h]; simp
theorem Atn {x : Operand} {t e : TypeId} {s : Sv} (ht : P.underlying t = some (.slice e)) (hx : ev env x = some s.v) :
  Runs P n env w ⟨d, .call { callee := .builtin .cap, args := #[x], argTypes := #[t] }, ty, pos, af, g⟩ (.int .i64 (s.c : Int)) w := fun a ha => by
 have hx' : a.eval x = .slice s.p s.n s.c := ha.ev hx
 simp [execOp, resolve, invoke, builtin, hx', Builtin.cap_, run_underlying ht, goInt]
theorem Ato {f : FuncId} {args : List Operand} {ats : Array TypeId} {vs : List Value} {v : Value} (hv : evs env args = some vs) (hr : (callFunc f vs.toArray).run P w = .ok (.value v) w) :
  Runs P n env w ⟨d, .call { callee := .value (.func f), args := args.toArray, argTypes := ats }, ty, pos, af, g⟩ v w := fun a ha => by
 simp only [execOp, resolve, Act.eval, Deferred.ofValue, invoke, Sem.run_bind, Sem.run_pure, Result.andThen_ok, List.map_toArray, ha.evs _ _ hv]
 simpa using hr
theorem Mv {K : Value -> World -> Prop} {d : Nat} {x y : Operand} {t u : TypeId} {a b r : Value} {w' : World} (hx : ev env x = some a) (hy : ev env y = some b) (hr : (Builtin.copy_ #[t, u] ty #[a, b]).run P w = .ok r w') (h : K r w') :
  Ex P n env w ⟨some d, .call { callee := .builtin .copy, args := #[x, y], argTypes := #[t, u] }, ty, pos, af, none⟩ K := by
 refine Fx (v := r) (w' := w') (fun c hc => ?_) h
 simp [execOp, resolve, invoke, builtin, hc.ev hx, hc.ev hy, hr]
theorem Awc {K : Value -> World -> Prop} {d : Nat} {x y : Operand} {t u : TypeId} {a b r : Value} {w' : World} (hx : ev env x = some a) (hy : ev env y = some b) (hr : (Builtin.append_ #[t, u] ty #[a, b]).run P w = .ok r w') (h : K r w') :
  Ex P n env w ⟨some d, .call { callee := .builtin .append, args := #[x, y], argTypes := #[t, u] }, ty, pos, af, none⟩ K := by
 refine Fx (v := r) (w' := w') (fun c hc => ?_) h
 simp [execOp, resolve, invoke, builtin, hc.ev hx, hc.ev hy, hr]
end
section
variable {w : World} {w0 : Base} {m : List As} {rs : List Rd} {k : Nat} {T : Type} {f : T -> List Ce} {L M : List T}
theorem St.zipOne {cs : List Ce} {xs : List Value} (hl : cs.length = xs.length) (h : St w0 (Ao cs xs ++ m) rs w) : ∀ v ∈ xs, v.oneCell' = true := by
 have hrd : ∃ S, Br S w cs xs := by
  obtain ⟨_, _, F, h2, _⟩ := h
  obtain ⟨F1, _, h3, _⟩ := h2.split
  exact ⟨F1, Vo hl h3⟩
 obtain ⟨S, hrd⟩ := hrd
 exact Yn hrd
theorem Sg (hf : ∀ x, (f x).length = k) : ∀ L : List T, (L.flatMap f).length = L.length * k
 | [] => by simp
 | x :: L => by rw [List.flatMap_cons, List.length_append, hf, Sg hf L, List.length_cons, Nat.add_mul]; omega
theorem St.insDone {i : Nat} {xs vs : List Value} {s' : Sv} (hf : ∀ x, (f x).length = k) (hi : i <= L.length) (hx : (L.flatMap f).length = xs.length) (hv : (M.flatMap f).length = vs.length)
  (h : St w0 (Bf k s'.v (L.length + M.length) (xs.take (i * k) ++ vs ++ xs.drop (i * k)) :: (Ao (L.flatMap f) xs ++ (Ao (M.flatMap f) vs ++ m))) rs w) : St w0 (oC (Ad k f (L.take i ++ M ++ L.drop i)) s'.v :: m) rs w := by
 have e1 : L.flatMap f = (L.take i).flatMap f ++ (L.drop i).flatMap f := by rw [<- List.flatMap_append, List.take_append_drop]
 have l1 : ((L.take i).flatMap f).length = (xs.take (i * k)).length := by
  rw [Sg hf, List.length_take, List.length_take, Nat.min_eq_left hi, Nat.min_eq_left]
  rw [<- hx, Sg hf]; exact Nat.mul_le_mul_right k hi
 have l2 : ((L.drop i).flatMap f).length = (xs.drop (i * k)).length := by
  rw [Sg hf, List.length_drop, List.length_drop, <- hx, Sg hf, Nat.sub_mul]
 have e2 : Ao (L.flatMap f) xs = Ao ((L.take i).flatMap f) (xs.take (i * k)) ++ Ao ((L.drop i).flatMap f) (xs.drop (i * k)) := by
  conv => lhs; rw [e1, <- List.take_append_drop (i * k) xs]
  exact J3 l1
 have e3 : (L.take i ++ M ++ L.drop i).length = L.length + M.length := by simp; omega
 refine St.rerow (xs := xs.take (i * k) ++ vs ++ xs.drop (i * k)) (by rw [List.flatMap_append, List.flatMap_append, List.length_append, List.length_append, List.length_append, List.length_append, l1, hv, l2]) ?_
 rw [e3, List.flatMap_append, List.flatMap_append, J3 (by rw [List.length_append, List.length_append, l1, hv]), J3 l1]
 rw [e2] at h
 refine h.perm (List.Perm.cons _ ?_)
 rw [List.append_assoc, List.append_assoc, List.append_assoc]
 refine List.Perm.append_left _ ?_
 rw [<- List.append_assoc, <- List.append_assoc]
 exact List.Perm.append_right _ List.perm_append_comm
end
section
variable {k i n : Nat} {xs zs ys vs : List Value}
theorem Ark (hx : xs.length = n * k) (hz : zs.length = (n + 1 - i) * k) (hv : vs.length = k) (hi : i <= n) :
  (((xs.take (i * k) ++ zs).take (i * k) ++ vs ++ (xs.take (i * k) ++ zs).drop (i * k + vs.length)).take ((i + 1) * k) ++ xs.drop (i * k) ++ ((xs.take (i * k) ++ zs).take (i * k) ++ vs ++ (xs.take (i * k) ++ zs).drop (i * k + vs.length)).drop ((i + 1) * k + (xs.drop (i * k)).length))
   = xs.take (i * k) ++ vs ++ xs.drop (i * k) := by
 have h1 := Nat.mul_le_mul_right k hi
 have e1 : (i + 1) * k = i * k + k := by rw [Nat.add_mul, Nat.one_mul]
 have e2 : (n + 1 - i) * k = n * k + k - i * k := by rw [Nat.sub_mul, Nat.add_mul, Nat.one_mul]
 have lA : (xs.take (i * k)).length = i * k := by rw [List.length_take]; omega
 have key : ∀ (X T : List Value) (q : Nat), T.length <= q -> X ++ T.drop q = X := fun X T q h => by rw [List.drop_of_length_le h, List.append_nil]
 rw [List.take_left' lA]
 refine (key _ _ _ ?_).trans ?_
 ·simp only [List.length_append, List.length_drop, lA, hz, hv, hx, e1, e2]
  omega
 ·rw [List.take_left' (by rw [List.length_append, lA, hv, e1])]
theorem Arl (hx : xs.length = n * k) (hy : ys.length = 1 * k) (hv : vs.length = k) (hi : i + 1 <= n) :
  (((xs ++ ys).take ((i + 1) * k) ++ xs.drop (i * k) ++ (xs ++ ys).drop ((i + 1) * k + (xs.drop (i * k)).length)).take (i * k) ++ vs ++ ((xs ++ ys).take ((i + 1) * k) ++ xs.drop (i * k) ++ (xs ++ ys).drop ((i + 1) * k + (xs.drop (i * k)).length)).drop (i * k + vs.length))
   = xs.take (i * k) ++ vs ++ xs.drop (i * k) := by
 have h1 := Nat.mul_le_mul_right k hi
 have e1 : (i + 1) * k = i * k + k := by rw [Nat.add_mul, Nat.one_mul]
 have lA : ((xs ++ ys).take ((i + 1) * k)).length = i * k + k := by rw [List.length_take, List.length_append, hx, hy, e1]; omega
 rw [List.drop_of_length_le (l := xs ++ ys), List.append_nil, hv, List.drop_left' lA, List.take_append_of_le_length (by omega), List.take_take, Nat.min_eq_left (by omega), List.take_append_of_le_length (by omega)]
 simp only [List.length_append, List.length_drop, hx, hy, e1]
 omega
end
section
variable {P : Program} {n : Nat} {env : Env} {w : World} {d : Option Tmp} {ty : TypeId} {pos : String} {af : Array Edge} {g : Option (Nat × Bool)} {k : Nat}
theorem Gx {x lo : Operand} {t e : TypeId} {bytes : Nat} {z : Value} {b off l c i : Nat} {j : Int} (ht : P.underlying t = some (.slice e)) (hs : Sz P e k bytes z)
  (hx : ev env x = some (Sv.v ⟨some ⟨b, off, none⟩, l, c⟩)) (hlo : ev env lo = some (.int .i64 j)) (hj : j = (i : Int)) (h0 : i <= l) (hc : l <= c) (hi : i < c) :
  Runs P n env w ⟨d, .slice t x (some lo) none none, ty, pos, af, g⟩ (Sv.v ⟨some ⟨b, off + i * k, none⟩, l - i, c - i⟩) w := by
 subst hj
 rw [<- Ake hi]
 exact Aej ht hs hx hlo ⟨by omega, by simp only; omega⟩ hc
theorem Yk {x hi : Operand} {t e : TypeId} {bytes : Nat} {z : Value} {b off l c i : Nat} {j : Int} (ht : P.underlying t = some (.slice e)) (hs : Sz P e k bytes z)
  (hx : ev env x = some (Sv.v ⟨some ⟨b, off, none⟩, l, c⟩)) (hhi : ev env hi = some (.int .i64 j)) (hj : j = (i : Int)) (h0 : i <= c) (hc : 0 < c) :
  Runs P n env w ⟨d, .slice t x none (some hi) none, ty, pos, af, g⟩ (Sv.v ⟨some ⟨b, off, none⟩, i, c⟩) w := by
 subst hj
 rw [<- A0s (k := k) (n := l) hc]
 exact Bdt ht hs hx hhi ⟨by omega, by simp only; omega⟩
end
end
section
open Go.RowKit
noncomputable def K6 {T : Type} (L : List T) (i : Int) (a : T) : Option (List T) := xg (0 <= i /\ i <= (L.length : Int)) <| xg (L.length <= 1000000) <| some (L.take i.toNat ++ [a] ++ L.drop i.toNat)
noncomputable def Ub {T : Type} (L : List T) (i : Int) (M : List T) : Option (List T) := match M with
 | [a] => K6 L i a
 | _ => none
theorem A9y {T : Type} {L : List T} {i : Int} {a : T} {r : List T} (h : K6 L i a = some r) : (0 <= i /\ i <= (L.length : Int)) /\ L.length <= 1000000 /\ L.take i.toNat ++ [a] ++ L.drop i.toNat = r := by
 unfold K6 at h
 obtain ⟨h1, h⟩ := Bp h
 obtain ⟨h2, h⟩ := Bp h
 exact ⟨h1, h2, Option.some.inj h⟩
def InsOk (f : FuncId) (t : Ty) : Prop := ∀ (w : World) (X S : Bs) (L : List (Ax t)) (s : Sv) (i : Int) (a : Ax t) (vs : List Value) (vb : Nat) (ve : TypeId), vs.length = sz t -> (∀ b, S b -> b.1 < w.heap.size /\ ¬ X b) -> Sep (oC (Ad (sz t) (fD t) L) s.v :: (Aw vb vs.toArray ve :: Ao (fD t a) vs)) X w -> (0 <= i /\ i <= (L.length : Int)) -> L.length <= 1000000 ->
  Ret Tryz.prog f [s.v, .int .i64 i, Sv.v ⟨some ⟨vb, 0, none⟩, 1, 1⟩] w (fun u w' => ∃ y : Sv, u = y.v /\ Gives X S w [oC (Ad (sz t) (fD t) (L.take i.toNat ++ [a] ++ L.drop i.toNat)) y.v] [] w')
theorem Bbb {k : Nat} {T : Type} {f : T -> List Ce} {L : List T} {v : Value} {w : World} {F : Bs} {m : List As} (h : Sep (oC (Ad k f L) v :: m) F w) : ∃ s : Sv, v = s.v := by
 obtain ⟨_, F1, _, h1, _⟩ := h
 obtain ⟨a, cap, e, _⟩ := (Ad k f L).seen h1
 exact ⟨⟨a, L.length, cap⟩, e⟩
theorem Ap9 {amb : List Rd} {f : FuncId} {t : Ty} (h : InsOk f t) : Holds amb ⟨f, [.val true (.sl t), .val false (.b 0), .lit t], [⟨true, .sl t, false⟩], fun a => K6 a.1 a.2.1 a.2.2.1⟩ := by
 intro w X S a vals own bx r hp hL hS hr hx
 cases hp with
 | @ow _ _ L _ vs1 _ _ _ _ h1 k =>
 cases k with
 | @ro _ _ i _ vs2 _ _ _ _ h2 k =>
 cases k with
 | @li _ _ e _ b te vs3 _ _ _ _ h3 k =>
 cases k
 have h1' : vs1.length = 1 := h1
 obtain ⟨v1, rfl⟩ : ∃ v, vs1 = [v] := by
  match vs1, h1' with
  | [v], _ => exact ⟨v, rfl⟩
 obtain ⟨v2, rest, rfl, h21, h22⟩ := h2
 have h22' : rest = [] := h22
 subst h22'
 have hi : v2 = .int .i64 i := h21
 subst hi
 have hL' : Sep (oC (Ad (sz t) (fD t) L) v1 :: (Aw b vs3.toArray te :: (Ao (fD t e) vs3 ++ []))) X w := hL
 rw [List.append_nil] at hL'
 obtain ⟨s, rfl⟩ := Bbb hL'
 obtain ⟨hx1, hx2, hr'⟩ := A9y (T := Ax t) (L := L) (i := i) (a := e) hx
 subst hr'
 refine (h w X S L s i e vs3 b te h3 hS hL' hx1 hx2).mono fun u w' ⟨y, e1, e2⟩ => ⟨[y.v], _, [], e1, ?_, e2⟩
 exact ⟨[[.sl t _]], [], _, [], [], [], rfl, ⟨[y.v], [], [], [], [], rfl, rfl, ⟨rfl, rfl, rfl⟩, ⟨rfl, rfl⟩, ⟨rfl, rfl⟩⟩, ⟨rfl, rfl⟩, rfl, rfl⟩
end
section
open Go.RowKit
theorem A9v (w : World) (X S : Bs) {T : Type} {f : T -> List Ce} (hf : ∀ x, (f x).length = 5) (L : List T) (s : Sv) (i : Int) (a : T) (vs : List Value) (vb : Nat) (ve : TypeId) (hvl : vs.length = 5) (hS : ∀ b, S b -> b.1 < w.heap.size /\ ¬ X b) (oL : Sep (oC (Ad 5 f L) s.v :: (Aw vb vs.toArray ve :: Ao (f a) vs)) X w) (hi : 0 <= i /\ i <= (L.length : Int)) (hL : L.length <= 1000000) :
  Ret Tryz.prog 58 [s.v, .int .i64 i, Sv.v ⟨some ⟨vb, 0, none⟩, 1, 1⟩] w (fun u w' => ∃ y : Sv, u = y.v /\ Gives X S w [oC (Ad 5 f (L.take i.toNat ++ [a] ++ L.drop i.toNat)) y.v] [] w') := by
 obtain ⟨hi0, hiL⟩ := hi
 obtain ⟨p, rfl⟩ := Int.eq_ofNat_of_zero_le hi0
 rw [Int.toNat_natCast]
 have hz00 : ∃ z, Sz Tryz.prog 43 5 96 z := ⟨_, Avh⟩
 obtain ⟨z0, hz0⟩ := hz00
 have hp : p <= L.length := by omega
 refine enter Tryz.func58 rfl Tryz.ntmps58 (by kernel_rfl) rfl ?_
 have hM0 := St.enter oL hS
 have hsn : s.n = L.length /\ s.n <= s.c := by
  obtain ⟨a, cap, e, h1, h2, _⟩ := hM0.seeO (.head _)
  obtain ⟨_, e2, e3⟩ : s.p = a /\ s.n = L.length /\ s.c = cap := by simpa [Sv.v] using e
  omega
 have hM0r : St ⟨w, X, S⟩ (oC (Ad 5 f L) s.v :: (oC (Ad 5 f [a]) (Sv.v ⟨some ⟨vb, 0, none⟩, 1, 1⟩) :: [])) [] w := by
  have h1 := (hM0.perm (List.perm_append_comm (l₁ := [oC (Ad 5 f L) s.v]) (l₂ := Aw vb vs.toArray ve :: Ao (f a) vs))).boxRow hvl
  have h2 : St ⟨w, X, S⟩ (Bf 5 (Sv.v ⟨some ⟨vb, 0, none⟩, 1, 1⟩) [a].length vs :: (Ao ([a].flatMap f) vs ++ [oC (Ad 5 f L) s.v])) [] w := by simpa using h1
  exact (St.rerow (by simpa [hf] using hvl.symm) h2).perm (List.Perm.swap ..)
 obtain ⟨xs, hxs, hM1⟩ := hM0.unrow
 have hM : St ⟨w, X, S⟩ (Bf 5 s.v L.length xs :: Aw vb vs.toArray ve :: (Ao (L.flatMap f) xs ++ (Ao (f a) vs ++ []))) [] w := by
  refine hM1.perm (List.Perm.cons _ ?_)
  rw [List.append_nil]
  exact List.perm_middle
 clear hM1
 refine C7 ?_
 refine Ft rfl rfl ?_
 refine C8 ?_
 refine C7 ?_
 refine Ba rfl rfl ?_
 refine Ba rfl rfl ?_
 refine wv rfl (Aej Tryz.underlying23 hz0 rfl rfl ⟨by omega, by omega⟩ hsn.2) ?_
 refine C8 ?_
 refine C7 ?_
 refine Ba rfl rfl ?_
 refine wv rfl (Qn Tryz.underlying23 rfl) ?_
 refine Ft rfl rfl ?_
 refine C8 ?_
 refine Fu ?_
 refine C7 ?_
 refine Ba rfl rfl ?_
 refine wv rfl (Tf rfl rfl) ?_
 refine C8 ?_
 refine Ip rfl (fun hc => absurd (of_decide_eq_true hc) (by simp)) (fun _ => ?_)
 refine O2 ?_
 refine Ij ?_
 refine C7 ?_
 refine Ba rfl rfl ?_
 refine wv rfl (Qn Tryz.underlying23 rfl) ?_
 refine Ft rfl rfl ?_
 refine C8 ?_
 refine Fu ?_
 refine C7 ?_
 refine Ba rfl rfl ?_
 refine Ba rfl rfl ?_
 refine wv rfl (Tf rfl rfl) ?_
 refine C8 ?_
 refine Ip rfl (fun hc => ?_) (fun hc => ?_)
 ·have hpn : p = L.length := by
   have := of_decide_eq_true hc
   omega
  refine C7 ?_
  refine Ba rfl rfl ?_
  refine Ba rfl rfl ?_
  refine Mu rfl (Aga Tryz.underlying23 hz0 rfl rfl hM0r (by simp; omega) (by decide) ?_); intro s' w1 hM
  refine Ft rfl rfl ?_
  refine C8 ?_
  refine O1 ?_
  refine Qx ?_
  refine Np [s'.v] ⟨rfl, trivial⟩ ?_
  rw [hpn, List.take_length, List.drop_length, List.append_nil]
  exact ⟨s', rfl, hM.gives⟩
 have hpn : p < L.length := by
  have := of_decide_eq_false hc
  omega
 obtain ⟨b, off, cap, cur, e, hd, rfl, hg, hnc, hcm, hcs, hlen, hcells⟩ := hM.rowAt (.head _) (by omega)
 have hvb := hM.apart (by omega)
 have h1x := St.zipOne hxs hM.drop.drop
 have h1v : ∀ u ∈ vs, u.oneCell' = true := St.zipOne (cs := f a) (m := Ao (L.flatMap f) xs) (by rw [hf a, hvl]) (hM.drop.drop.perm (by rw [List.append_nil]; exact List.perm_append_comm))
 have vlen : vs.length = 1 * 5 := by omega
 simp only [maxLen] at hcm
 refine O2 ?_
 refine Ij ?_
 refine Fu ?_
 refine C7 ?_
 refine Ba rfl rfl ?_
 refine Ba rfl rfl ?_
 refine wv rfl (Gw rfl rfl ⟨by simp only; omega, by simp only; omega⟩) ?_
 refine Ba rfl rfl ?_
 refine wv rfl (Atn Tryz.underlying23 rfl) ?_
 refine wv rfl (Aef rfl rfl) ?_
 refine C8 ?_
 refine Ip rfl (fun hc => ?_) (fun hc => ?_)
 ·have hgrow : cap < L.length + 1 := by
   have := of_decide_eq_true hc
   simp only at this
   omega
  have hxl : (xs.drop (p * 5)).length = (L.length - p) * 5 := by rw [List.length_drop, hlen, Nat.sub_mul]
  have hp3 := Nat.mul_le_mul_right 5 hpn
  obtain ⟨info, hinfo, hz, hsz, hbt⟩ := hz0.info
  refine C7 ?_
  refine Ba rfl rfl ?_
  refine Ba rfl rfl ?_
  refine wv rfl (Yk (i := p) Tryz.underlying23 hz0 rfl rfl rfl (by omega) (by omega)) ?_
  refine Ba rfl rfl ?_
  refine Ba rfl rfl ?_
  refine wv rfl (Gw rfl rfl ⟨by simp only; omega, by simp only; omega⟩) ?_
  refine Ba rfl rfl ?_
  refine wv rfl (Aek rfl rfl ⟨by simp only; omega, by simp only; omega⟩) ?_
  have htl : (xs.take (p * 5)).length = p * info.size := by rw [List.length_take, hlen, hsz]; omega
  have hold : (Builtin.firstCells info.size p (.slice (some ⟨b, off, none⟩) p cap)).run Tryz.prog w.drew = .ok (xs.take (p * 5)).toArray w.drew :=
   run_firstCells_some w.drew info.size p ⟨b, off, none⟩ p cap _ htl fun j u hj => by
    rw [Addr.add_lit]
    rw [List.getElem?_take] at hj
    split at hj
    ·exact hcells _ _ hj
    ·cases hj
  have hap := Lib.run_append_grow_zeros (P := Tryz.prog) w 23 3 23 43 info _ .i64 .i64 Tryz.underlying23 Tryz.underlying3 hinfo hz (some ⟨b, off, none⟩) p cap (xs.take (p * 5)) hold (L.length + 1 - p) (by omega) (by omega) (by omega) (by omega) (by rw [hbt]; omega) (by rw [hbt]; exact growslice_fits (by omega) (by omega))
  have hj : (((L.length : Nat) : Int) + ((1 : Nat) : Int) - (p : Int)) = ((L.length + 1 - p : Nat) : Int) := by omega
  have hq : p + (L.length + 1 - p) = L.length + 1 := by omega
  rw [hq] at hap
  have hG := grownCap_ge w (L.length + 1) cap 43
  have hGm := grownCap_le_maxLen w (L.length + 1) cap 43 (by simp only [maxLen]; omega)
  have hzs : ∀ q, (Builtin.zeroCells (z0).cells q).size = q * 5 := fun q => by rw [size_zeroCells, hz0.2.1]
  have hM := hM.drew.allocRow (k := 5) (n := L.length + 1) (cap := grownCap w (L.length + 1) cap 43) (xs.take (p * 5) ++ (Builtin.zeroCells (z0).cells (L.length + 1 - p)).toList)
   (Builtin.zeroCells (z0).cells (grownCap w (L.length + 1) cap 43 - (L.length + 1))).toList ((xs.take (p * 5)).toArray ++ Builtin.zeroCells (z0).cells (L.length + 1 - p) ++ Builtin.zeroCells (z0).cells (grownCap w (L.length + 1) cap 43 - (L.length + 1))) 43 (by rw [Array.toList_append, Array.toList_append]) (by rw [List.length_append, htl, Array.length_toList, hzs, hsz]; omega) hG hGm
   (by rw [Array.size_append, Array.size_append, hzs, hzs, List.size_toArray, htl, hsz]; omega)
  refine Mu rfl (Awc rfl rfl (by simp only at hj ⊢; rw [hj]; exact hap) ?_)
  generalize grownCap w (L.length + 1) cap 43 = G at hM hG hGm ⊢
  generalize World.alloc _ _ = w1 at hM ⊢
  rw [show w.drew.heap.size = w.heap.size from rfl] at hM
  generalize w.heap.size = nb at hM ⊢
  refine Ft rfl rfl ?_
  refine C8 ?_
  refine C7 ?_
  refine Ba rfl rfl ?_
  refine Ba rfl rfl ?_
  refine wv rfl (Gx (i := p) Tryz.underlying23 hz0 rfl rfl rfl (by omega) (by omega) (by omega)) ?_
  refine Ba rfl rfl ?_
  obtain ⟨b3, off3, cap3, cur3, e3, hd3, q3, hg3, hnc3, _, hcs3, _, hcells3⟩ := hM.rowAt (.head _) (by omega)
  obtain ⟨⟨rfl, rfl⟩, rfl⟩ : (nb = b3 /\ 0 = off3) /\ G = cap3 := by simpa using q3
  have hk := Mg hg3 hcs3 hnc3
  obtain ⟨_, vcells4⟩ := hM.boxAt (.tail _ (.tail _ (.head _)))
  refine Mu rfl (Mv rfl rfl (Mh w1 23 23 _ 43 info nb (0 + p * 5) _ _ ⟨vb, 0, none⟩ 1 1 1 vs Tryz.underlying23 hinfo (by simp only [Nat.min_def]; split <;> omega) (by rw [hsz]; exact vlen) (fun j u hj => ?_) (fun j hj => ?_) (fun j hj => ?_) h1v) ?_)
  ·rw [Addr.add_lit]
   exact vcells4 _ _ hj
  ·rw [Nat.add_assoc]
   refine hk.1 _ ?_
   omega
  ·rw [Nat.add_assoc]
   refine hk.2 _ ?_
   omega
  have hM := hM.blit (o := p * 5) (cs := vs) (by omega)
  refine C8 ?_
  refine Fu ?_
  refine T8 [(0, 0), (1, 0), (2, 0), (3, 0), (4, 0), (5, 0), (6, 0), (7, 0), (8, 2)] Tryz_mixed (by kernel_rfl) rfl (by kernel_rfl) rfl ?_
  refine Es rfl rfl ?_
  refine Es rfl rfl ?_
  refine Es rfl rfl ?_
  refine ov rfl (fun _ _ => Gw rfl rfl ⟨by simp only; omega, by simp only; omega⟩) ?_
  refine ov rfl (fun _ _ => Gx (i := p + 1) Tryz.underlying23 hz0 rfl rfl (by simp) (by omega) (by omega) (by omega)) ?_
  refine Es rfl rfl ?_
  refine Es rfl rfl ?_
  refine ov rfl (fun _ _ => Gx (i := p) Tryz.underlying23 hz0 rfl rfl rfl (by omega) (by omega) (by omega)) ?_
  refine X4 rfl fun w2 hR => ?_
  have hM := hM.call hR
  obtain ⟨b2, off2, cap2, cur2, e2, hd2, q2, hg2, hnc2, _, hcs2, _, _⟩ := hM.rowAt (.head _) (by omega)
  obtain ⟨⟨rfl, rfl⟩, rfl⟩ : (nb = b2 /\ 0 = off2) /\ G = cap2 := by simpa using q2
  obtain ⟨b5, off5, cap5, cur5, e5, hd5, q5, _, _, _, _, _, hcells5⟩ := hM.rowAt (.tail _ (.head _)) (by omega)
  obtain ⟨⟨rfl, rfl⟩, rfl⟩ : (b = b5 /\ off = off5) /\ cap = cap5 := by simpa using q5
  have hk := Mg hg2 hcs2 hnc2
  refine Mv rfl rfl (Mh w2 23 23 _ 43 info nb (0 + (p + 1) * 5) _ _ ⟨b, off + p * 5, none⟩ _ _ (L.length - p) (xs.drop (p * 5)) Tryz.underlying23 hinfo (by simp only [Nat.min_def]; split <;> omega) (by rw [hsz, hxl]) (fun j u hj => ?_) (fun j hj => ?_) (fun j hj => ?_) (fun u hu => h1x u (List.mem_of_mem_drop hu))) ?_
  ·rw [List.getElem?_drop] at hj
   rw [Addr.add_lit, Nat.add_assoc]
   exact hcells5 _ _ hj
  ·rw [Nat.add_assoc]
   refine hk.1 _ ?_
   omega
  ·rw [Nat.add_assoc]
   refine hk.2 _ ?_
   omega
  have hM := hM.blit (o := (p + 1) * 5) (cs := xs.drop (p * 5)) (by omega)
  rw [Ark hlen (by rw [Array.length_toList, hzs]) (by omega) (by omega)] at hM
  refine X5 hM fun w3 hM => ?_
  refine Ij ?_
  refine C7 ?_
  refine Ba rfl rfl ?_
  refine Ft rfl rfl ?_
  refine C8 ?_
  refine O1 ?_
  refine Qx ?_
  refine Np [Sv.v ⟨some ⟨nb, 0, none⟩, L.length + 1, G⟩] ⟨rfl, trivial⟩ ?_
  have hM := ((((hM.perm (List.Perm.swap ..)).drop).perm (List.Perm.swap ..)).drop)
  exact ⟨_, rfl, (St.insDone (m := []) (M := [a]) (vs := vs) (xs := xs) hf hp hxs (by simp [hf, hvl]) (by simpa using hM)).gives⟩
 have hroom : L.length + 1 <= cap := by
  have := of_decide_eq_false hc
  simp only at this
  omega
 refine O2 ?_
 refine Ij ?_
 obtain ⟨ys, hys, hM⟩ := hM.spare 1 hroom
 refine C7 ?_
 refine Ba rfl rfl ?_
 refine Ba rfl rfl ?_
 refine Ba rfl rfl ?_
 refine wv rfl (Gw rfl rfl ⟨by simp only; omega, by simp only; omega⟩) ?_
 refine wv rfl (Yk (i := L.length + 1) Tryz.underlying23 hz0 rfl rfl (by simp) hroom (by omega)) ?_
 refine Ft rfl rfl ?_
 refine C8 ?_
 refine Fu ?_
 refine C7 ?_
 refine Ba rfl rfl ?_
 refine Ba rfl rfl ?_
 refine Ba rfl rfl ?_
 refine Ba rfl rfl ?_
 refine wv rfl (Gw rfl rfl ⟨by simp only; omega, by simp only; omega⟩) ?_
 refine wv rfl (Gx (i := p + 1) Tryz.underlying23 hz0 rfl rfl (by simp) (by omega) (by omega) (by omega)) ?_
 have vhg := (hM.boxAt (.tail _ (.head _))).1
 refine wv rfl (Ato rfl (v := .bool false) ?_) ?_
 ·rw [run_callFunc_extern Tryz.func94 (by kernel_rfl) (by kernel_rfl) (by kernel_rfl) (e := Extern.SlicesOverlaps.overlaps #[23, 23] #[4]) (by kernel_rfl)]
  simp only [Sv.v]
  rw [Lib.run_overlaps_apart w 23 4 43 Tryz.underlying23 5 hz0.run ⟨vb, 0, none⟩ ⟨b, off + (p + 1) * 5, none⟩ 1 1 _ _ hvb ve e vs.toArray.size cur.size (by simp [World.shape?, vhg]) (by simp [World.shape?, hg.1]) (by omega) (by simp [World.frozen?, vhg]) (by simp [World.frozen?, vhg])]
  rfl
 refine wv rfl (Aei rfl) ?_
 refine C8 ?_
 refine Ip rfl (fun _ => ?_) (fun hc => absurd hc (by simp))
 have hxl : (xs.drop (p * 5)).length = (L.length - p) * 5 := by rw [List.length_drop, hlen, Nat.sub_mul]
 have hp3 := Nat.mul_le_mul_right 5 hpn
 refine Fu ?_
 refine T8 [(0, 0), (1, 0), (2, 0), (3, 0), (4, 0), (5, 0), (6, 0), (7, 0), (8, 2)] Tryz_mixed (by kernel_rfl) rfl (by kernel_rfl) rfl ?_
 refine Es rfl rfl ?_
 refine Es rfl rfl ?_
 refine Es rfl rfl ?_
 refine ov rfl (fun _ _ => Gw rfl rfl ⟨by simp only; omega, by simp only; omega⟩) ?_
 refine ov rfl (fun _ _ => Gx (i := p + 1) Tryz.underlying23 hz0 rfl rfl (by simp) (by omega) (by omega) (by omega)) ?_
 refine Es rfl rfl ?_
 refine Es rfl rfl ?_
 refine ov rfl (fun _ _ => Gx (i := p) Tryz.underlying23 hz0 rfl rfl rfl (by omega) (by omega) (by omega)) ?_
 refine X4 rfl fun w1 hR => ?_
 have hM := hM.call hR
 obtain ⟨b2, off2, cap2, cur2, e2, hd2, q2, hg2, hnc2, _, hcs2, _, hcells2⟩ := hM.rowAt (.head _) (by omega)
 obtain ⟨⟨rfl, rfl⟩, rfl⟩ : (b = b2 /\ off = off2) /\ cap = cap2 := by simpa using q2
 obtain ⟨info, hinfo, _, hsz, _⟩ := hz0.info
 have hk := Mg hg2 hcs2 hnc2
 refine Mv rfl rfl (Mh w1 23 23 _ 43 info b (off + (p + 1) * 5) _ _ ⟨b, off + p * 5, none⟩ _ _ (L.length - p) (xs.drop (p * 5)) Tryz.underlying23 hinfo (by simp only [Nat.min_def]; split <;> omega) (by rw [hsz, hxl]) (fun j u hj => ?_) (fun j hj => ?_) (fun j hj => ?_) (fun u hu => h1x u (List.mem_of_mem_drop hu))) ?_
 ·rw [List.getElem?_drop] at hj
  rw [Addr.add_lit, Nat.add_assoc]
  refine hcells2 _ _ ?_
  rw [List.getElem?_append_left (List.getElem?_eq_some_iff.1 hj).1]
  exact hj
 ·rw [Nat.add_assoc]
  refine hk.1 _ ?_
  omega
 ·rw [Nat.add_assoc]
  refine hk.2 _ ?_
  omega
 have hM := hM.blit (o := (p + 1) * 5) (cs := xs.drop (p * 5)) (by omega)
 refine X5 hM fun w2 hM => ?_
 refine Ij ?_
 refine C7 ?_
 refine Ba rfl rfl ?_
 refine Ba rfl rfl ?_
 refine wv rfl (Gx (i := p) Tryz.underlying23 hz0 rfl rfl rfl (by omega) (by omega) (by omega)) ?_
 refine Ba rfl rfl ?_
 obtain ⟨b3, off3, cap3, cur3, e3, hd3, q3, hg3, hnc3, _, hcs3, _, hcells3⟩ := hM.rowAt (.head _) (by omega)
 obtain ⟨⟨rfl, rfl⟩, rfl⟩ : (b = b3 /\ off = off3) /\ cap = cap3 := by simpa using q3
 have hk := Mg hg3 hcs3 hnc3
 obtain ⟨_, vcells4⟩ := hM.boxAt (.tail _ (.head _))
 refine Mu rfl (Mv rfl rfl (Mh w2 23 23 _ 43 info b (off + p * 5) _ _ ⟨vb, 0, none⟩ 1 1 1 vs Tryz.underlying23 hinfo (by simp only [Nat.min_def]; split <;> omega) (by rw [hsz]; exact vlen) (fun j u hj => ?_) (fun j hj => ?_) (fun j hj => ?_) h1v) ?_)
 ·rw [Addr.add_lit]
  exact vcells4 _ _ hj
 ·rw [Nat.add_assoc]
  refine hk.1 _ ?_
  omega
 ·rw [Nat.add_assoc]
  refine hk.2 _ ?_
  omega
 have hM := hM.blit (o := p * 5) (cs := vs) (by omega)
 rw [Arl hlen hys (by omega) (by omega)] at hM
 refine C8 ?_
 refine C7 ?_
 refine Ba rfl rfl ?_
 refine Ft rfl rfl ?_
 refine C8 ?_
 refine O1 ?_
 refine Qx ?_
 refine Np [Sv.v ⟨some ⟨b, off, none⟩, L.length + 1, cap⟩] ⟨rfl, trivial⟩ ?_
 have hM := (hM.perm (List.Perm.swap ..)).drop
 exact ⟨_, rfl, (St.insDone (m := []) (M := [a]) (vs := vs) (xs := xs) hf hp hxs (by simp [hf, hvl]) (by simpa using hM)).gives⟩
theorem A9w (w : World) (X S : Bs) {T : Type} {f : T -> List Ce} (hf : ∀ x, (f x).length = 3) (L : List T) (s : Sv) (i : Int) (a : T) (vs : List Value) (vb : Nat) (ve : TypeId) (hvl : vs.length = 3) (hS : ∀ b, S b -> b.1 < w.heap.size /\ ¬ X b) (oL : Sep (oC (Ad 3 f L) s.v :: (Aw vb vs.toArray ve :: Ao (f a) vs)) X w) (hi : 0 <= i /\ i <= (L.length : Int)) (hL : L.length <= 1000000) :
  Ret Tryz.prog 99 [s.v, .int .i64 i, Sv.v ⟨some ⟨vb, 0, none⟩, 1, 1⟩] w (fun u w' => ∃ y : Sv, u = y.v /\ Gives X S w [oC (Ad 3 f (L.take i.toNat ++ [a] ++ L.drop i.toNat)) y.v] [] w') := by
 obtain ⟨hi0, hiL⟩ := hi
 obtain ⟨p, rfl⟩ := Int.eq_ofNat_of_zero_le hi0
 rw [Int.toNat_natCast]
 have hz00 : ∃ z, Sz Tryz.prog 99 3 24 z := ⟨_, Avi⟩
 obtain ⟨z0, hz0⟩ := hz00
 have hp : p <= L.length := by omega
 refine enter Tryz.func99 rfl Tryz.ntmps99 (by kernel_rfl) rfl ?_
 have hM0 := St.enter oL hS
 have hsn : s.n = L.length /\ s.n <= s.c := by
  obtain ⟨a, cap, e, h1, h2, _⟩ := hM0.seeO (.head _)
  obtain ⟨_, e2, e3⟩ : s.p = a /\ s.n = L.length /\ s.c = cap := by simpa [Sv.v] using e
  omega
 have hM0r : St ⟨w, X, S⟩ (oC (Ad 3 f L) s.v :: (oC (Ad 3 f [a]) (Sv.v ⟨some ⟨vb, 0, none⟩, 1, 1⟩) :: [])) [] w := by
  have h1 := (hM0.perm (List.perm_append_comm (l₁ := [oC (Ad 3 f L) s.v]) (l₂ := Aw vb vs.toArray ve :: Ao (f a) vs))).boxRow hvl
  have h2 : St ⟨w, X, S⟩ (Bf 3 (Sv.v ⟨some ⟨vb, 0, none⟩, 1, 1⟩) [a].length vs :: (Ao ([a].flatMap f) vs ++ [oC (Ad 3 f L) s.v])) [] w := by simpa using h1
  exact (St.rerow (by simpa [hf] using hvl.symm) h2).perm (List.Perm.swap ..)
 obtain ⟨xs, hxs, hM1⟩ := hM0.unrow
 have hM : St ⟨w, X, S⟩ (Bf 3 s.v L.length xs :: Aw vb vs.toArray ve :: (Ao (L.flatMap f) xs ++ (Ao (f a) vs ++ []))) [] w := by
  refine hM1.perm (List.Perm.cons _ ?_)
  rw [List.append_nil]
  exact List.perm_middle
 clear hM1
 refine C7 ?_
 refine Ft rfl rfl ?_
 refine C8 ?_
 refine C7 ?_
 refine Ba rfl rfl ?_
 refine Ba rfl rfl ?_
 refine wv rfl (Aej Tryz.underlying41 hz0 rfl rfl ⟨by omega, by omega⟩ hsn.2) ?_
 refine C8 ?_
 refine C7 ?_
 refine Ba rfl rfl ?_
 refine wv rfl (Qn Tryz.underlying41 rfl) ?_
 refine Ft rfl rfl ?_
 refine C8 ?_
 refine Fu ?_
 refine C7 ?_
 refine Ba rfl rfl ?_
 refine wv rfl (Tf rfl rfl) ?_
 refine C8 ?_
 refine Ip rfl (fun hc => absurd (of_decide_eq_true hc) (by simp)) (fun _ => ?_)
 refine O2 ?_
 refine Ij ?_
 refine C7 ?_
 refine Ba rfl rfl ?_
 refine wv rfl (Qn Tryz.underlying41 rfl) ?_
 refine Ft rfl rfl ?_
 refine C8 ?_
 refine Fu ?_
 refine C7 ?_
 refine Ba rfl rfl ?_
 refine Ba rfl rfl ?_
 refine wv rfl (Tf rfl rfl) ?_
 refine C8 ?_
 refine Ip rfl (fun hc => ?_) (fun hc => ?_)
 ·have hpn : p = L.length := by
   have := of_decide_eq_true hc
   omega
  refine C7 ?_
  refine Ba rfl rfl ?_
  refine Ba rfl rfl ?_
  refine Mu rfl (Aga Tryz.underlying41 hz0 rfl rfl hM0r (by simp; omega) (by decide) ?_); intro s' w1 hM
  refine Ft rfl rfl ?_
  refine C8 ?_
  refine O1 ?_
  refine Qx ?_
  refine Np [s'.v] ⟨rfl, trivial⟩ ?_
  rw [hpn, List.take_length, List.drop_length, List.append_nil]
  exact ⟨s', rfl, hM.gives⟩
 have hpn : p < L.length := by
  have := of_decide_eq_false hc
  omega
 obtain ⟨b, off, cap, cur, e, hd, rfl, hg, hnc, hcm, hcs, hlen, hcells⟩ := hM.rowAt (.head _) (by omega)
 have hvb := hM.apart (by omega)
 have h1x := St.zipOne hxs hM.drop.drop
 have h1v : ∀ u ∈ vs, u.oneCell' = true := St.zipOne (cs := f a) (m := Ao (L.flatMap f) xs) (by rw [hf a, hvl]) (hM.drop.drop.perm (by rw [List.append_nil]; exact List.perm_append_comm))
 have vlen : vs.length = 1 * 3 := by omega
 simp only [maxLen] at hcm
 refine O2 ?_
 refine Ij ?_
 refine Fu ?_
 refine C7 ?_
 refine Ba rfl rfl ?_
 refine Ba rfl rfl ?_
 refine wv rfl (Gw rfl rfl ⟨by simp only; omega, by simp only; omega⟩) ?_
 refine Ba rfl rfl ?_
 refine wv rfl (Atn Tryz.underlying41 rfl) ?_
 refine wv rfl (Aef rfl rfl) ?_
 refine C8 ?_
 refine Ip rfl (fun hc => ?_) (fun hc => ?_)
 ·have hgrow : cap < L.length + 1 := by
   have := of_decide_eq_true hc
   simp only at this
   omega
  have hxl : (xs.drop (p * 3)).length = (L.length - p) * 3 := by rw [List.length_drop, hlen, Nat.sub_mul]
  have hp3 := Nat.mul_le_mul_right 3 hpn
  obtain ⟨info, hinfo, hz, hsz, hbt⟩ := hz0.info
  refine C7 ?_
  refine Ba rfl rfl ?_
  refine Ba rfl rfl ?_
  refine wv rfl (Yk (i := p) Tryz.underlying41 hz0 rfl rfl rfl (by omega) (by omega)) ?_
  refine Ba rfl rfl ?_
  refine Ba rfl rfl ?_
  refine wv rfl (Gw rfl rfl ⟨by simp only; omega, by simp only; omega⟩) ?_
  refine Ba rfl rfl ?_
  refine wv rfl (Aek rfl rfl ⟨by simp only; omega, by simp only; omega⟩) ?_
  have htl : (xs.take (p * 3)).length = p * info.size := by rw [List.length_take, hlen, hsz]; omega
  have hold : (Builtin.firstCells info.size p (.slice (some ⟨b, off, none⟩) p cap)).run Tryz.prog w.drew = .ok (xs.take (p * 3)).toArray w.drew :=
   run_firstCells_some w.drew info.size p ⟨b, off, none⟩ p cap _ htl fun j u hj => by
    rw [Addr.add_lit]
    rw [List.getElem?_take] at hj
    split at hj
    ·exact hcells _ _ hj
    ·cases hj
  have hap := Lib.run_append_grow_zeros (P := Tryz.prog) w 41 3 41 99 info _ .i64 .i64 Tryz.underlying41 Tryz.underlying3 hinfo hz (some ⟨b, off, none⟩) p cap (xs.take (p * 3)) hold (L.length + 1 - p) (by omega) (by omega) (by omega) (by omega) (by rw [hbt]; omega) (by rw [hbt]; exact growslice_fits (by omega) (by omega))
  have hj : (((L.length : Nat) : Int) + ((1 : Nat) : Int) - (p : Int)) = ((L.length + 1 - p : Nat) : Int) := by omega
  have hq : p + (L.length + 1 - p) = L.length + 1 := by omega
  rw [hq] at hap
  have hG := grownCap_ge w (L.length + 1) cap 99
  have hGm := grownCap_le_maxLen w (L.length + 1) cap 99 (by simp only [maxLen]; omega)
  have hzs : ∀ q, (Builtin.zeroCells (z0).cells q).size = q * 3 := fun q => by rw [size_zeroCells, hz0.2.1]
  have hM := hM.drew.allocRow (k := 3) (n := L.length + 1) (cap := grownCap w (L.length + 1) cap 99) (xs.take (p * 3) ++ (Builtin.zeroCells (z0).cells (L.length + 1 - p)).toList)
   (Builtin.zeroCells (z0).cells (grownCap w (L.length + 1) cap 99 - (L.length + 1))).toList ((xs.take (p * 3)).toArray ++ Builtin.zeroCells (z0).cells (L.length + 1 - p) ++ Builtin.zeroCells (z0).cells (grownCap w (L.length + 1) cap 99 - (L.length + 1))) 99 (by rw [Array.toList_append, Array.toList_append]) (by rw [List.length_append, htl, Array.length_toList, hzs, hsz]; omega) hG hGm
   (by rw [Array.size_append, Array.size_append, hzs, hzs, List.size_toArray, htl, hsz]; omega)
  refine Mu rfl (Awc rfl rfl (by simp only at hj ⊢; rw [hj]; exact hap) ?_)
  generalize grownCap w (L.length + 1) cap 99 = G at hM hG hGm ⊢
  generalize World.alloc _ _ = w1 at hM ⊢
  rw [show w.drew.heap.size = w.heap.size from rfl] at hM
  generalize w.heap.size = nb at hM ⊢
  refine Ft rfl rfl ?_
  refine C8 ?_
  refine C7 ?_
  refine Ba rfl rfl ?_
  refine Ba rfl rfl ?_
  refine wv rfl (Gx (i := p) Tryz.underlying41 hz0 rfl rfl rfl (by omega) (by omega) (by omega)) ?_
  refine Ba rfl rfl ?_
  obtain ⟨b3, off3, cap3, cur3, e3, hd3, q3, hg3, hnc3, _, hcs3, _, hcells3⟩ := hM.rowAt (.head _) (by omega)
  obtain ⟨⟨rfl, rfl⟩, rfl⟩ : (nb = b3 /\ 0 = off3) /\ G = cap3 := by simpa using q3
  have hk := Mg hg3 hcs3 hnc3
  obtain ⟨_, vcells4⟩ := hM.boxAt (.tail _ (.tail _ (.head _)))
  refine Mu rfl (Mv rfl rfl (Mh w1 41 41 _ 99 info nb (0 + p * 3) _ _ ⟨vb, 0, none⟩ 1 1 1 vs Tryz.underlying41 hinfo (by simp only [Nat.min_def]; split <;> omega) (by rw [hsz]; exact vlen) (fun j u hj => ?_) (fun j hj => ?_) (fun j hj => ?_) h1v) ?_)
  ·rw [Addr.add_lit]
   exact vcells4 _ _ hj
  ·rw [Nat.add_assoc]
   refine hk.1 _ ?_
   omega
  ·rw [Nat.add_assoc]
   refine hk.2 _ ?_
   omega
  have hM := hM.blit (o := p * 3) (cs := vs) (by omega)
  refine C8 ?_
  refine Fu ?_
  refine T8 [(0, 0), (1, 0), (2, 0), (3, 0), (4, 0), (5, 0), (6, 0), (7, 0), (8, 2)] Tryz_mixed (by kernel_rfl) rfl (by kernel_rfl) rfl ?_
  refine Es rfl rfl ?_
  refine Es rfl rfl ?_
  refine Es rfl rfl ?_
  refine ov rfl (fun _ _ => Gw rfl rfl ⟨by simp only; omega, by simp only; omega⟩) ?_
  refine ov rfl (fun _ _ => Gx (i := p + 1) Tryz.underlying41 hz0 rfl rfl (by simp) (by omega) (by omega) (by omega)) ?_
  refine Es rfl rfl ?_
  refine Es rfl rfl ?_
  refine ov rfl (fun _ _ => Gx (i := p) Tryz.underlying41 hz0 rfl rfl rfl (by omega) (by omega) (by omega)) ?_
  refine X4 rfl fun w2 hR => ?_
  have hM := hM.call hR
  obtain ⟨b2, off2, cap2, cur2, e2, hd2, q2, hg2, hnc2, _, hcs2, _, _⟩ := hM.rowAt (.head _) (by omega)
  obtain ⟨⟨rfl, rfl⟩, rfl⟩ : (nb = b2 /\ 0 = off2) /\ G = cap2 := by simpa using q2
  obtain ⟨b5, off5, cap5, cur5, e5, hd5, q5, _, _, _, _, _, hcells5⟩ := hM.rowAt (.tail _ (.head _)) (by omega)
  obtain ⟨⟨rfl, rfl⟩, rfl⟩ : (b = b5 /\ off = off5) /\ cap = cap5 := by simpa using q5
  have hk := Mg hg2 hcs2 hnc2
  refine Mv rfl rfl (Mh w2 41 41 _ 99 info nb (0 + (p + 1) * 3) _ _ ⟨b, off + p * 3, none⟩ _ _ (L.length - p) (xs.drop (p * 3)) Tryz.underlying41 hinfo (by simp only [Nat.min_def]; split <;> omega) (by rw [hsz, hxl]) (fun j u hj => ?_) (fun j hj => ?_) (fun j hj => ?_) (fun u hu => h1x u (List.mem_of_mem_drop hu))) ?_
  ·rw [List.getElem?_drop] at hj
   rw [Addr.add_lit, Nat.add_assoc]
   exact hcells5 _ _ hj
  ·rw [Nat.add_assoc]
   refine hk.1 _ ?_
   omega
  ·rw [Nat.add_assoc]
   refine hk.2 _ ?_
   omega
  have hM := hM.blit (o := (p + 1) * 3) (cs := xs.drop (p * 3)) (by omega)
  rw [Ark hlen (by rw [Array.length_toList, hzs]) (by omega) (by omega)] at hM
  refine X5 hM fun w3 hM => ?_
  refine Ij ?_
  refine C7 ?_
  refine Ba rfl rfl ?_
  refine Ft rfl rfl ?_
  refine C8 ?_
  refine O1 ?_
  refine Qx ?_
  refine Np [Sv.v ⟨some ⟨nb, 0, none⟩, L.length + 1, G⟩] ⟨rfl, trivial⟩ ?_
  have hM := ((((hM.perm (List.Perm.swap ..)).drop).perm (List.Perm.swap ..)).drop)
  exact ⟨_, rfl, (St.insDone (m := []) (M := [a]) (vs := vs) (xs := xs) hf hp hxs (by simp [hf, hvl]) (by simpa using hM)).gives⟩
 have hroom : L.length + 1 <= cap := by
  have := of_decide_eq_false hc
  simp only at this
  omega
 refine O2 ?_
 refine Ij ?_
 obtain ⟨ys, hys, hM⟩ := hM.spare 1 hroom
 refine C7 ?_
 refine Ba rfl rfl ?_
 refine Ba rfl rfl ?_
 refine Ba rfl rfl ?_
 refine wv rfl (Gw rfl rfl ⟨by simp only; omega, by simp only; omega⟩) ?_
 refine wv rfl (Yk (i := L.length + 1) Tryz.underlying41 hz0 rfl rfl (by simp) hroom (by omega)) ?_
 refine Ft rfl rfl ?_
 refine C8 ?_
 refine Fu ?_
 refine C7 ?_
 refine Ba rfl rfl ?_
 refine Ba rfl rfl ?_
 refine Ba rfl rfl ?_
 refine Ba rfl rfl ?_
 refine wv rfl (Gw rfl rfl ⟨by simp only; omega, by simp only; omega⟩) ?_
 refine wv rfl (Gx (i := p + 1) Tryz.underlying41 hz0 rfl rfl (by simp) (by omega) (by omega) (by omega)) ?_
 have vhg := (hM.boxAt (.tail _ (.head _))).1
 refine wv rfl (Ato rfl (v := .bool false) ?_) ?_
 ·rw [run_callFunc_extern Tryz.func130 (by kernel_rfl) (by kernel_rfl) (by kernel_rfl) (e := Extern.SlicesOverlaps.overlaps #[41, 41] #[4]) (by kernel_rfl)]
  simp only [Sv.v]
  rw [Lib.run_overlaps_apart w 41 4 99 Tryz.underlying41 3 hz0.run ⟨vb, 0, none⟩ ⟨b, off + (p + 1) * 3, none⟩ 1 1 _ _ hvb ve e vs.toArray.size cur.size (by simp [World.shape?, vhg]) (by simp [World.shape?, hg.1]) (by omega) (by simp [World.frozen?, vhg]) (by simp [World.frozen?, vhg])]
  rfl
 refine wv rfl (Aei rfl) ?_
 refine C8 ?_
 refine Ip rfl (fun _ => ?_) (fun hc => absurd hc (by simp))
 have hxl : (xs.drop (p * 3)).length = (L.length - p) * 3 := by rw [List.length_drop, hlen, Nat.sub_mul]
 have hp3 := Nat.mul_le_mul_right 3 hpn
 refine Fu ?_
 refine T8 [(0, 0), (1, 0), (2, 0), (3, 0), (4, 0), (5, 0), (6, 0), (7, 0), (8, 2)] Tryz_mixed (by kernel_rfl) rfl (by kernel_rfl) rfl ?_
 refine Es rfl rfl ?_
 refine Es rfl rfl ?_
 refine Es rfl rfl ?_
 refine ov rfl (fun _ _ => Gw rfl rfl ⟨by simp only; omega, by simp only; omega⟩) ?_
 refine ov rfl (fun _ _ => Gx (i := p + 1) Tryz.underlying41 hz0 rfl rfl (by simp) (by omega) (by omega) (by omega)) ?_
 refine Es rfl rfl ?_
 refine Es rfl rfl ?_
 refine ov rfl (fun _ _ => Gx (i := p) Tryz.underlying41 hz0 rfl rfl rfl (by omega) (by omega) (by omega)) ?_
 refine X4 rfl fun w1 hR => ?_
 have hM := hM.call hR
 obtain ⟨b2, off2, cap2, cur2, e2, hd2, q2, hg2, hnc2, _, hcs2, _, hcells2⟩ := hM.rowAt (.head _) (by omega)
 obtain ⟨⟨rfl, rfl⟩, rfl⟩ : (b = b2 /\ off = off2) /\ cap = cap2 := by simpa using q2
 obtain ⟨info, hinfo, _, hsz, _⟩ := hz0.info
 have hk := Mg hg2 hcs2 hnc2
 refine Mv rfl rfl (Mh w1 41 41 _ 99 info b (off + (p + 1) * 3) _ _ ⟨b, off + p * 3, none⟩ _ _ (L.length - p) (xs.drop (p * 3)) Tryz.underlying41 hinfo (by simp only [Nat.min_def]; split <;> omega) (by rw [hsz, hxl]) (fun j u hj => ?_) (fun j hj => ?_) (fun j hj => ?_) (fun u hu => h1x u (List.mem_of_mem_drop hu))) ?_
 ·rw [List.getElem?_drop] at hj
  rw [Addr.add_lit, Nat.add_assoc]
  refine hcells2 _ _ ?_
  rw [List.getElem?_append_left (List.getElem?_eq_some_iff.1 hj).1]
  exact hj
 ·rw [Nat.add_assoc]
  refine hk.1 _ ?_
  omega
 ·rw [Nat.add_assoc]
  refine hk.2 _ ?_
  omega
 have hM := hM.blit (o := (p + 1) * 3) (cs := xs.drop (p * 3)) (by omega)
 refine X5 hM fun w2 hM => ?_
 refine Ij ?_
 refine C7 ?_
 refine Ba rfl rfl ?_
 refine Ba rfl rfl ?_
 refine wv rfl (Gx (i := p) Tryz.underlying41 hz0 rfl rfl rfl (by omega) (by omega) (by omega)) ?_
 refine Ba rfl rfl ?_
 obtain ⟨b3, off3, cap3, cur3, e3, hd3, q3, hg3, hnc3, _, hcs3, _, hcells3⟩ := hM.rowAt (.head _) (by omega)
 obtain ⟨⟨rfl, rfl⟩, rfl⟩ : (b = b3 /\ off = off3) /\ cap = cap3 := by simpa using q3
 have hk := Mg hg3 hcs3 hnc3
 obtain ⟨_, vcells4⟩ := hM.boxAt (.tail _ (.head _))
 refine Mu rfl (Mv rfl rfl (Mh w2 41 41 _ 99 info b (off + p * 3) _ _ ⟨vb, 0, none⟩ 1 1 1 vs Tryz.underlying41 hinfo (by simp only [Nat.min_def]; split <;> omega) (by rw [hsz]; exact vlen) (fun j u hj => ?_) (fun j hj => ?_) (fun j hj => ?_) h1v) ?_)
 ·rw [Addr.add_lit]
  exact vcells4 _ _ hj
 ·rw [Nat.add_assoc]
  refine hk.1 _ ?_
  omega
 ·rw [Nat.add_assoc]
  refine hk.2 _ ?_
  omega
 have hM := hM.blit (o := p * 3) (cs := vs) (by omega)
 rw [Arl hlen hys (by omega) (by omega)] at hM
 refine C8 ?_
 refine C7 ?_
 refine Ba rfl rfl ?_
 refine Ft rfl rfl ?_
 refine C8 ?_
 refine O1 ?_
 refine Qx ?_
 refine Np [Sv.v ⟨some ⟨b, off, none⟩, L.length + 1, cap⟩] ⟨rfl, trivial⟩ ?_
 have hM := (hM.perm (List.Perm.swap ..)).drop
 exact ⟨_, rfl, (St.insDone (m := []) (M := [a]) (vs := vs) (xs := xs) hf hp hxs (by simp [hf, hvl]) (by simpa using hM)).gives⟩
end
end Go.Proofs.YtipinmfmejccdaaGreat
