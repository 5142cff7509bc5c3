/- The second layer, part K: rows that are owned: writing, appending. No condition. -/
import Derived.Test.YtlgmikaemfbmaaaGreatNj
import Derived.Deep.AppendSrc
import Derived.Great.BuildSlice
import Derived.Laws.IdiomCopy
namespace Go.Proofs.YtlgmikaemfbmaaaGreat
open Go.RowKit

section
variable {w0 : Base} {w w' : World} {m l l' own : List As} {rs : List Rd} {c : Ce} {v : Value} {S : Bs}
variable {T : Type} {k : Nat} {f : T → List Ce} {L : List T}

/-- The things 'own' are the things 'l'. -/
def Z (w : World) (own l : List As) : Prop := ∀ F, Sep own F w → Sep l F w

theorem zN : Z w [] [] := fun _ h => h
theorem zI : Z w l l := fun _ h => h
theorem Sep.cons0 {F : Bs} {a : As} (ha : ∀ w, a.ok (fun _ => False) w) (h : Sep m F w) : Sep (a :: m) F w :=
  ⟨h.lt, fun _ => False, F, ha w, h, (fun _ h => h.elim), (fun _ h => h.elim), fun _ h => h⟩
theorem zP {a : As} (ha : ∀ w, a.ok (fun _ => False) w) (h : Z w own l) : Z w own (a :: l) := fun F hF => Sep.cons0 ha (h F hF)
theorem zO {a : As} (h : Z w own l) : Z w (a :: own) (a :: l) := fun _ hF => hF.cons_mono h
theorem pV (u : Value) (hu : u.oneCell' = true) : ∀ w, (oC (cV u hu) u).ok (fun _ => False) w := fun _ => ⟨rfl, fun _ h => h.elim⟩
theorem row_nil (k : Nat) : ∀ w, (oRow k (.slice none 0 0) 0 []).ok (fun _ => False) w := fun _ => ⟨(fun _ h => h.elim), by simp, .inl ⟨rfl, rfl⟩⟩
theorem pN (k : Nat) (f : T → List Ce) : ∀ w, (oC (cSl k f []) (.slice none 0 0)).ok (fun _ => False) w := fun w =>
  ⟨[], rfl, (fun _ h => h.elim), fun _ => False, fun _ => False, row_nil k w, (fun _ h => h.elim), (fun _ h => h.elim), (fun _ h => h.elim), fun _ h => h.elim⟩

theorem St.pure (h : St w0 m rs w) {a : As} (ha : ∀ w, a.ok (fun _ => False) w) : St w0 (a :: m) rs w :=
  St.iso (l := []) (l' := [a]) h fun _ hF => Sep.cons0 ha hF
theorem St.nil (h : St w0 m rs w) (k : Nat) (f : T → List Ce) : St w0 (oC (cSl k f []) (.slice none 0 0) :: m) rs w := h.pure (pN k f)

/-- The front is given away. -/
theorem St.drop {a : As} (h : St w0 (a :: m) rs w) : St w0 m rs w := St.iso (l := [a]) (l' := []) h fun _ hF => hF.tail
def pulls : List Nat → List As → List As
  | [], m => m
  | k :: ks, m => match m[k]? with
    | some a => pulls ks (a :: m.eraseIdx k)
    | none => m

theorem St.sel : ∀ (ks : List Nat) {m : List As}, St w0 m rs w → St w0 (pulls ks m) rs w
  | [], _, h => h
  | k :: ks, m, h => by
    unfold pulls
    cases hk : m[k]? with
    | none => exact h
    | some a =>
      refine St.sel ks (h.perm ?_)
      have h1 := (List.getElem?_eq_some_iff.1 hk)
      obtain ⟨hlt, rfl⟩ := h1
      have h2 : m = m.take k ++ m[k] :: m.drop (k + 1) := by simp
      rw [List.eraseIdx_eq_take_drop_succ]
      conv => lhs; rw [h2]
      exact List.perm_middle
theorem St.pl (ks : List Nat) (h : St w0 m rs w) : St w0 (pulls ks m) rs w := St.sel ks h
theorem St.tk (n : Nat) (h : St w0 m rs w) : St w0 (m.take n) rs w := by
  obtain ⟨h1, hb, F, h2, h3, h4⟩ := h
  exact ⟨h1, hb, F, h2.take n, h3, h4⟩

/-- What is owned is only read from now on. -/
theorem St.selO (h : St w0 (oC c v :: m) rs w) : St w0 m (rV v c :: rs) w :=
  St.fix (l := [oC c v]) (r := rV v c) h fun _F ⟨_, _F1, _, h1, _, _, h4, _⟩ => c.mono (fun b hb => ⟨h4 b hb, rfl⟩) (c.seen h1)

/-- The row and its cells. -/
theorem St.unrow (h : St w0 (oC (cSl k f L) v :: m) rs w) : ∃ xs : List Value, (L.flatMap f).length = xs.length ∧ St w0 (oRow k v L.length xs :: (zipC (L.flatMap f) xs ++ m)) rs w := by
  obtain ⟨h1, hb, F, ⟨h0, F1, F2, ⟨xs, g1, g2⟩, g3, g4, g5, g6⟩, h3, h4⟩ := h
  have h5 := (Sep.join g2 g3 g4).up (F' := F) (fun b hb => by
    rcases hb with hb | hb
    · exact g5 b hb
    · exact g6 b hb) h0
  exact ⟨xs, g1, h1, hb, F, h5, h3, h4⟩

theorem St.rerow {xs : List Value} (hl : (L.flatMap f).length = xs.length) (h : St w0 (oRow k v L.length xs :: (zipC (L.flatMap f) xs ++ m)) rs w) : St w0 (oC (cSl k f L) v :: m) rs w :=
  St.iso (l := oRow k v L.length xs :: zipC (L.flatMap f) xs) (l' := [oC (cSl k f L) v]) h fun F hF => ⟨hF.lt, F, fun _ => False, ⟨xs, hl, hF⟩, (fun _ h => h.elim), (fun _ _ h => h), (fun _ h => h), fun _ h => h.elim⟩

theorem setCell_heap {b j : Nat} {cs : Array Value} {e : TypeId} {hd : Nat × Nat} {u : Value} (h : w.heap[b]? = some (.cells cs e hd)) : (w.setCell ⟨b, j, none⟩ u).heap[b]? = some (.cells (cs.setIfInBounds j u) e hd) := by
  simp [World.setCell, Array.getElem?_modify, h]
theorem setCell_relx {b j : Nat} {u : Value} {X : Bs} (hX : X b) : RelX X w (w.setCell ⟨b, j, none⟩ u) :=
  ⟨rfl, rfl, rfl, by simp [World.setCell], fun _ _ hk => Below.heap_setCell _ _ _ _ (fun e => hk (by simp only at e; rw [e]; exact hX))⟩

def setMany : List Value → Nat → List Value → List Value
  | cs, _, [] => cs
  | cs, o, v :: r => setMany (cs.set o v) (o + 1) r

theorem setMany_eq : ∀ (vs : List Value) (cs : List Value) (o : Nat), o + vs.length ≤ cs.length → setMany cs o vs = cs.take o ++ vs ++ cs.drop (o + vs.length)
  | [], cs, o, _ => by simp [setMany]
  | v :: r, cs, o, h => by
    simp only [List.length_cons] at h
    rw [setMany, setMany_eq r _ _ (by rw [List.length_set]; omega)]
    have h1 : (cs.set o v).take (o + 1) = cs.take o ++ [v] := by
      rw [List.take_add_one, List.take_set_of_le (Nat.le_refl _), List.getElem?_set_self (by omega)]
      rfl
    have h2 : (cs.set o v).drop (o + 1 + r.length) = cs.drop (o + (r.length + 1)) := by
      rw [List.drop_set_of_lt (by omega)]
      congr 1; omega
    rw [h1, h2]
    simp

theorem setCells_heap {b : Nat} {e : TypeId} {hd : Nat × Nat} : ∀ (vs : List Value) (o : Nat) (cs : Array Value) (w : World), w.heap[b]? = some (.cells cs e hd) → (w.setCells b o vs).heap[b]? = some (.cells (setMany cs.toList o vs).toArray e hd)
  | [], o, cs, w, h => by simpa [World.setCells, setMany] using h
  | v :: r, o, cs, w, h => by
    rw [World.setCells, setCells_heap r (o + 1) _ _ (setCell_heap h), setMany, Array.toList_setIfInBounds]
theorem setCells_relx {b : Nat} {X : Bs} (hX : X b) : ∀ (vs : List Value) (o : Nat) (w : World), RelX X w (w.setCells b o vs)
  | [], _, w => RelX.refl X w
  | _v :: r, o, _w => (setCell_relx hX).trans (setCells_relx hX r (o + 1) _)

theorem Sep.head {F : Bs} {a a' : As} (h : Sep (a :: m) F w) (hi : ∀ F, a.ok F w → ∃ F', a'.ok F' w' ∧ RelX F w w' ∧ ∀ b, F' b → F b ∨ w.heap.size ≤ b) : ∃ F', Sep (a' :: m) F' w' ∧ RelX F w w' ∧ ∀ b, F' b → F b ∨ w.heap.size ≤ b := by
  obtain ⟨h0, F1, F2, h1, h2, h3, h4, h5⟩ := h
  obtain ⟨F', k1, k2, k3⟩ := hi F1 h1
  have g2 : Sep m F2 w' := h2.loc fun b hb => k2.block b (h2.lt b hb) fun h' => h3 b h' hb
  refine ⟨fun b => F' b ∨ F2 b, ⟨fun b hb => ?_, F', F2, k1, g2, fun b hb h' => ?_, fun _ h => .inl h, fun _ h => .inr h⟩, k2.mono h4, fun b hb => ?_⟩
  · rcases hb with hb | hb
    · exact a'.lt k1 hb
    · exact g2.lt b hb
  · rcases k3 b hb with h'' | h''
    · exact h3 b h'' h'
    · have := h2.lt b h'; omega
  · rcases hb with hb | hb
    · exact (k3 b hb).imp (h4 b) id
    · exact .inl (h5 b hb)

theorem St.updHead {a a' : As} (h : St w0 (a :: m) rs w) (hi : ∀ F, a.ok F w → ∃ F', a'.ok F' w' ∧ RelX F w w' ∧ ∀ b, F' b → F b ∨ w.heap.size ≤ b) : St w0 (a' :: m) rs w' :=
  St.upd (l := [a]) (l' := [a']) h fun _ hF => hF.head hi

theorem St.alloc (h : St w0 m rs w) (cs : Array Value) (e : TypeId) : St w0 (oBox w.heap.size cs e :: m) rs (w.alloc (.cells cs e)) :=
  St.upd (l := []) (l' := [oBox w.heap.size cs e]) h fun F hF => ⟨fun b => b = w.heap.size, ⟨fun b hb => by subst hb; simp, fun b => b = w.heap.size, fun _ => False, ⟨fun b hb => by subst hb; simp, rfl, heap_alloc_new w _⟩, (fun _ h => h.elim), (fun _ _ h => h), (fun _ h => h), fun _ h => h.elim⟩, (Rel.alloc w _).x F, fun b hb => .inr (by omega)⟩

/-- A new row. -/
theorem St.allocRow (h : St w0 m rs w) {n cap : Nat} (xs sp : List Value) (cur : Array Value) (e : TypeId) (hcur : cur.toList = xs ++ sp) (hl : xs.length = n * k) (hn : n ≤ cap) (hc : cap ≤ maxLen) (hs : cur.size = cap * k) : St w0 (oRow k (Sv.v ⟨some ⟨w.heap.size, 0, none⟩, n, cap⟩) n xs :: m) rs (w.alloc (.cells cur e)) :=
  St.iso (l := [oBox w.heap.size cur e]) (l' := [oRow k (Sv.v ⟨some ⟨w.heap.size, 0, none⟩, n, cap⟩) n xs]) (h.alloc cur e) fun _ ⟨h0, F1, F2, ⟨h1, h2, h3⟩, h4⟩ =>
    ⟨h0, F1, F2, ⟨h1, hl, .inr ⟨_, 0, cap, _, e, rfl, h2, h3, hn, hc, by omega, by rw [hcur]; simp [← hl]⟩⟩, h4⟩

theorem St.drew (h : St w0 m rs w) : St w0 m rs w.drew := h.call ((Rel.refl w).drew)

end

section
variable {P : Program} {n : Nat} {ops : Array Oper} {Q : Post} {env : Env} {w : World} {w0 : Base} {rest : List Oper} {ty : TypeId} {pos : String} {af : Array Edge} {m own : List As} {rs : List Rd}
variable {T : Type} {k : Nat} {f : T → List Ce} {L : List T}

theorem St.appRow {t tx tyy e : TypeId} {size bytes : Nat} {z : Value} {s : Sv} {n n' : Nat} {xs news : List Value} {x : Value} (ht : P.underlying t = some (.slice e)) (hs : Sz P e size bytes z) (h : St w0 (oRow size s.v n xs :: m) rs w) (hsrc : Src P size tx x n' news w)
    (h63 : n + n' ≤ maxLen) (hby : (n + n') * bytes ≤ 140737488355328) :
    ∃ (s' : Sv) (w' : World), (Builtin.append_ #[t, tx] tyy #[s.v, x]).run P w = .ok s'.v w' ∧ St w0 (oRow size s'.v (n + n') (xs ++ news) :: m) rs w' := by
  obtain ⟨i, hi, hz, hsz, hbt⟩ := hs.info
  subst hsz
  have hzs := hs.2.1
  have h63i : ((n + n' : Nat) : Int) ≤ 9223372036854775807 := by simp only [maxLen] at h63; omega
  obtain ⟨F0, g0, gl, gr⟩ := h.at' (List.mem_cons_self ..)
  have hnl := hsrc.newsLen
  rcases gr with ⟨e1, rfl⟩ | ⟨b, off, cap, cur, e', e1, hb, hg, hnc, hcm, hcs, htk⟩
  · obtain ⟨ep, en, ec⟩ : s.p = none ∧ s.n = 0 ∧ s.c = 0 := by simpa [Sv.v] using e1
    have hxs : xs = [] := List.eq_nil_of_length_eq_zero (by simpa using gl)
    subst hxs
    by_cases hn' : n' = 0
    · subst hn'
      have hne : news = [] := List.eq_nil_of_length_eq_zero (by simpa using hnl)
      subst hne
      refine ⟨s, w, ?_, by simpa using h⟩
      rw [e1]
      rcases hsrc.kind with ⟨e2, hk⟩ | hk <;> simp [Builtin.append_, run_underlying ht, run_underlying hk, sizeOf, typeInfo, hi, hsrc.len, hsrc.cells]
    · have hr := run_append_grow_src (P := P) w t tx tyy e i z ht hi hz none 0 0 [] (run_firstCells_none _ _ _ _ _) x n' news hsrc (by omega) (by simpa using h63i) (by rw [hbt]; exact growslice_fits (by omega) (by simpa using hby))
      refine ⟨⟨some ⟨w.heap.size, 0, none⟩, 0 + n', grownCap w (0 + n') 0 e⟩, _, by rw [e1]; exact hr, ?_⟩
      have hd := (h.drop).drew
      have hge := grownCap_ge w (0 + n') 0 e
      have hc := grownCap_le_maxLen w (0 + n') 0 e (by omega)
      exact hd.allocRow (k := i.size) (n := 0 + n') (cap := grownCap w (0 + n') 0 e) ([] ++ news) (Builtin.zeroCells z.cells (grownCap w (0 + n') 0 e - (0 + n'))).toList _ e (by simp) (by simpa using hnl) hge hc (by
        rw [Array.size_append, size_zeroCells, hzs, List.nil_append, List.size_toArray, hnl, ← Nat.add_mul]; congr 1; omega)
  · obtain ⟨ep, en, ec⟩ : s.p = some ⟨b, off, none⟩ ∧ s.n = n ∧ s.c = cap := by simpa [Sv.v] using e1
    have hnk : n * i.size ≤ cap * i.size := Nat.mul_le_mul_right _ hnc
    by_cases hroom : n + n' ≤ cap
    · have hfit : off + n * i.size + news.length ≤ cur.size := by
        have := Nat.mul_le_mul_right i.size hroom
        rw [Nat.add_mul] at this
        omega
      have hr := run_append_room_src (P := P) w t tx tyy e i ht hi b off n cap x n' news hsrc hroom
        (fun j hj => by simp only [World.cell?, hg]; simp; omega)
        (fun j hj => by simp [World.frozen?, hg])
      refine ⟨⟨some ⟨b, off, none⟩, n + n', cap⟩, _, by rw [e1]; exact hr, ?_⟩
      refine h.updHead fun F ⟨q0, ql, qr⟩ => ?_
      rcases qr with ⟨q1, _⟩ | ⟨b2, off2, cap2, cur2, e2, q1, qb, qg, _, _, _, qtk⟩
      · rw [e1] at q1; cases q1
      · obtain ⟨⟨rfl, rfl⟩, rfl⟩ : (b = b2 ∧ off = off2) ∧ cap = cap2 := by rw [e1] at q1; simpa using q1
        rw [hg] at qg
        obtain ⟨rfl, rfl⟩ : cur = cur2 ∧ e' = e2 := by simpa using qg
        have hrel := setCells_relx (X := F) qb news (off + n * i.size) w
        refine ⟨F, ⟨fun b hb => Nat.lt_of_lt_of_le (q0 b hb) hrel.size, by rw [List.length_append, gl, hnl, Nat.add_mul], .inr ⟨b, off, cap, _, e', rfl, qb, setCells_heap news _ cur w hg, hroom, hcm, ?_, ?_⟩⟩, hrel, fun _ hb => .inl hb⟩
        · rw [setMany_eq _ _ _ (by rw [Array.length_toList]; exact hfit)]
          simp only [List.size_toArray, List.length_append, List.length_take, List.length_drop, Array.length_toList]; omega
        · rw [setMany_eq _ _ _ (by rw [Array.length_toList]; exact hfit)]
          have ha : (cur.toList.take (off + n * i.size)).length = off + n * i.size := by rw [List.length_take, Array.length_toList]; omega
          have hd1 : (cur.toList.take (off + n * i.size)).drop off = xs := by rw [List.drop_take, Nat.add_sub_cancel_left]; exact htk
          rw [List.append_assoc, List.drop_append_of_le_length (by omega), hd1, ← List.append_assoc, List.take_append_of_le_length (by rw [List.length_append, gl, hnl, Nat.add_mul]; omega)]
          rw [List.take_of_length_le (by rw [List.length_append, gl, hnl, Nat.add_mul]; omega)]
    · have hcell : ∀ j u, xs[j]? = some u → w.drew.cell? ((⟨b, off, none⟩ : Addr).add j) = some u := fun j u hj => by
        rw [← htk, List.getElem?_take] at hj
        split at hj
        · rw [List.getElem?_drop, Array.getElem?_toList] at hj
          rw [Addr.add_lit]
          have hg' : w.drew.heap[b]? = some (.cells cur e' (0, 0)) := hg
          simp [World.cell?, hg', hj]
        · cases hj
      have hr := run_append_grow_src (P := P) w t tx tyy e i z ht hi hz (some ⟨b, off, none⟩) n cap xs (run_firstCells_some _ _ _ _ _ _ _ gl hcell) x n' news hsrc (by omega) h63i (by rw [hbt]; exact growslice_fits (by omega) hby)
      refine ⟨⟨some ⟨w.heap.size, 0, none⟩, n + n', grownCap w (n + n') cap e⟩, _, by rw [e1]; exact hr, ?_⟩
      have hge := grownCap_ge w (n + n') cap e
      have hc := grownCap_le_maxLen w (n + n') cap e (by omega)
      exact ((h.drop).drew).allocRow (k := i.size) (n := n + n') (cap := grownCap w (n + n') cap e) (xs ++ news) (Builtin.zeroCells z.cells (grownCap w (n + n') cap e - (n + n'))).toList _ e (by simp) (by rw [List.length_append, gl, hnl, Nat.add_mul]) hge hc (by
        rw [Array.size_append, size_zeroCells, hzs, List.size_toArray, List.length_append, gl, hnl, ← Nat.add_mul, ← Nat.add_mul]; congr 1; omega)

/-- A row that is owned, longer by what a source yields. -/
theorem St.app {t tx tyy e : TypeId} {size bytes : Nat} {z : Value} {s : Sv} {n' : Nat} {news : List Value} {x : Value} {M : List T} (ht : P.underlying t = some (.slice e)) (hs : Sz P e size bytes z) (h : St w0 (oC (cSl size f L) s.v :: (own ++ m)) rs w) (hsrc : Src P size tx x n' news w)
    (hM : M.length = n') (hl : (M.flatMap f).length = news.length) (hz : Z w own (zipC (M.flatMap f) news)) (h63 : L.length + n' ≤ maxLen) (hby : (L.length + n') * bytes ≤ 140737488355328) :
    ∃ (s' : Sv) (w' : World), (Builtin.append_ #[t, tx] tyy #[s.v, x]).run P w = .ok s'.v w' ∧ St w0 (oC (cSl size f (L ++ M)) s'.v :: m) rs w' := by
  obtain ⟨xs, h1, h2⟩ := h.unrow
  have h2' : St w0 (oRow size s.v L.length xs :: (zipC (L.flatMap f) xs ++ (zipC (M.flatMap f) news ++ m))) rs w := by
    refine (St.iso (l := own) (l' := zipC (M.flatMap f) news) (m := oRow size s.v L.length xs :: (zipC (L.flatMap f) xs ++ m)) (h2.perm ?_) hz).perm ?_
    · exact (List.perm_append_comm_assoc ..).cons _ |>.trans List.perm_middle.symm
    · exact List.perm_middle.trans ((List.perm_append_comm_assoc ..).cons _)
  obtain ⟨s', w', hr, h3⟩ := h2'.appRow (tyy := tyy) ht hs hsrc h63 hby
  refine ⟨s', w', hr, St.rerow (xs := xs ++ news) (by rw [List.flatMap_append, List.length_append, List.length_append, h1, hl]) ?_⟩
  rw [List.flatMap_append, zipC_append h1, List.append_assoc, List.length_append, hM]
  exact h3

/-- The value of a slice literal of one element. -/
theorem run_one {t e : TypeId} {size bytes : Nat} {z v : Value} (ht : P.underlying t = some (.slice e)) (hs : Sz P e size bytes z) (hvs : v.cells.size = size) (hsm : Nat.ble size 1000 = true) :
    (Instr.buildSlice t 1 #[(0, v)]).run P w = .ok (.slice (some ⟨w.heap.size, 0, none⟩) 1 1) (w.alloc (.cells v.cells e)) := by
  obtain ⟨i, hi, hz, hsz, hbt⟩ := hs.info
  have hpos := hs.2.2
  have hsm' : size ≤ 1000 := by simpa using hsm
  have hfill : Instr.fill (fun j => some (j * i.size, i.size)) ((Array.range (1 * i.size)).map (z.cells[· % z.cells.size]!)) [(0, v)] = some v.cells := by
    have key : ∀ (l : List Value) (p : Nat) (cs : Array Value), p + l.length = cs.size → (l.zipIdx p).foldl (fun cs (q : Value × Nat) => cs.setIfInBounds q.2 q.1) cs = (cs.toList.take p ++ l).toArray := by
      intro l
      induction l with
      | nil => intro p cs hp; simp at hp; simp [hp, List.take_of_length_le]
      | cons u l ih =>
        intro p cs hp
        simp only [List.zipIdx_cons, List.foldl_cons, List.length_cons] at hp ⊢
        rw [ih (p + 1) _ (by simp; omega)]
        congr 1
        have hlt : p < cs.toList.length := by simp; omega
        rw [Array.toList_setIfInBounds, List.take_add_one, List.take_set, List.getElem?_set_self hlt, List.set_eq_of_length_le (by simp; omega)]
        simp
    have h1 := key v.cells.toList 0 ((Array.range size).map (z.cells[· % z.cells.size]!)) (by simp [hvs])
    simp only [Instr.fill, hsz, Nat.zero_mul, Nat.zero_add, Nat.one_mul, hvs, Array.size_map, Array.size_range, ne_eq, not_true_eq_false, decide_false, Bool.false_or, gt_iff_lt, Nat.lt_irrefl, Bool.false_eq_true, if_false, Option.some.injEq]
    rw [← Array.foldl_toList, Array.toList_zipIdx]
    simpa using h1
  exact run_buildSlice (P := P) w t e 1 #[(0, v)] v.cells i z ht hi hz (by simp [hsz]; omega) (by simp [hsz]; omega) hfill

/-- One element is appended to a row that the call owns: the element is laid by itself first. -/
theorem w_push {d1 d2 : Nat} {x y : Operand} {t e : TypeId} {ty2 : TypeId} {pos2 : String} {af2 : Array Edge} {size bytes : Nat} {z v : Value} {s : Sv} (a : T) (hd1 : Nat.blt d1 n = true) (hd2 : Nat.blt d2 n = true)
    (ht : P.underlying t = some (.slice e)) (hs : Sz P e size bytes z) (hx : ev env x = some v) (hvs : v.cells.size = size) (hf : (f a).length = size) (hsm : Nat.ble size 1000 = true) (hsv : ∀ u, ev ((d1, u) :: env) y = some s.v)
    (hM : St w0 (oC (cSl size f L) s.v :: (own ++ m)) rs w) (hz : ∀ w, Z w own (zipC (f a) v.cells.toList)) (hone : v.cells.toList.all (·.oneCell') = true) (h40 : L.length < 1099511627776) (hby : Nat.ble bytes 127 = true)
    (h : ∀ u (s' : Sv) w', St w0 (oC (cSl size f (L ++ [a])) s'.v :: m) rs w' → WL P n ops rest Q ((d2, s'.v) :: (d1, u) :: env) w') :
    WL P n ops (⟨some d1, .buildSlice t 1 #[(0, x)], ty, pos, af, none⟩ :: ⟨some d2, .call { callee := .builtin .append, args := #[y, .tmp d1], argTypes := #[t, t] }, ty2, pos2, af2, none⟩ :: rest) Q env w := by
  have hb := run_one (P := P) (w := w) ht hs hvs hsm
  have hby' : bytes ≤ 127 := by simpa using hby
  refine wv hd1 (v := .slice (some ⟨w.heap.size, 0, none⟩) 1 1) (w' := w.alloc (.cells v.cells e)) (fun a ha => by simp [execOp, ha.ev hx, hb]) ?_
  have hM1 := hM.call (Rel.alloc w (.cells v.cells e))
  have hbox : (w.alloc (.cells v.cells e)).heap[w.heap.size]? = some (.cells v.cells e (0, 0)) := heap_alloc_new w _
  have hsrc : Src P size t (.slice (some ⟨w.heap.size, 0, none⟩) 1 1) 1 v.cells.toList (w.alloc (.cells v.cells e)) :=
    Src.ofSlice _ ht _ _ _ _ (by simp [hvs]) (fun j u hj => by
      rw [Addr.add_lit, Nat.zero_add]
      rw [Array.getElem?_toList] at hj
      simp only [World.cell?, hbox, Option.isSome_none, Bool.false_eq_true, if_false, hj]) (fun u hu => List.all_eq_true.1 hone u hu)
  obtain ⟨s', w', hr, h3⟩ := St.app (tyy := ty2) (M := [a]) ht hs hM1 hsrc rfl (by simp [hf, hvs]) (by rw [List.flatMap_cons, List.flatMap_nil, List.append_nil]; exact hz _) (by simp only [maxLen]; omega) (by
    have := Nat.mul_le_mul (show L.length + 1 ≤ 1099511627776 by omega) hby'
    omega)
  refine wv hd2 (v := s'.v) (w' := w') (fun a ha => ?_) (h _ s' w' h3)
  have e1 := ha.ev (hsv _)
  have e2 : a.eval (.tmp d1) = .slice (some ⟨w.heap.size, 0, none⟩) 1 1 := ha.ev (x := .tmp d1) (by simp [ev, lk])
  simp [execOp, resolve, invoke, builtin, e1, e2, hr]

/-- Elements that hold no address. -/
def FlatE (f : T → List Ce) : Prop := ∀ x, ∀ c ∈ f x, ∃ u, ∃ hu : u.oneCell' = true, c = cV u hu

theorem flat_cells (hf : FlatE f) {S : Bs} : ∀ {cs : List Ce} {vs : List Value}, (∀ c ∈ cs, ∃ u, ∃ hu : u.oneCell' = true, c = cV u hu) → rdAll S w cs vs → ∀ w, Z w [] (zipC cs vs)
  | [], vs, _, _ => fun _ => zN
  | c :: cs, _, hc, ⟨v, r, rfl, h1, h2⟩ => by
    obtain ⟨u, hu, rfl⟩ := hc c (List.mem_cons_self ..)
    obtain rfl : v = u := h1
    exact fun w => zP (pV v hu) (flat_cells hf (fun c h => hc c (List.mem_cons_of_mem _ h)) h2 w)

theorem rdAll_one {S : Bs} : ∀ {cs : List Ce} {vs : List Value}, rdAll S w cs vs → ∀ u ∈ vs, u.oneCell' = true
  | [], _, h, u, hu => by have : _ = [] := h; subst this; cases hu
  | c :: cs, _, ⟨v, r, rfl, h1, h2⟩, u, hu => by
    rcases List.mem_cons.1 hu with rfl | hu
    · exact c.one h1
    · exact rdAll_one h2 u hu

/-- What a slice that is read yields. -/
theorem Cs.src {S : Bs} {t e : TypeId} {v : Value} (ht : P.underlying t = some (.slice e)) (h : (cSl k f L).rd S w v) : ∃ xs, Src P k t v L.length xs w ∧ rdAll S w (L.flatMap f) xs := by
  obtain ⟨a, cap, rfl, h1, h2, h3⟩ := h
  by_cases hL : L = []
  · subst hL
    cases a with
    | none => exact ⟨[], Src.ofNil w ht cap, rfl⟩
    | some a => exact ⟨[], Src.ofSlice w ht a _ cap [] (by simp) (fun j u hj => by simp at hj) (fun u hu => by cases hu), rfl⟩
  · obtain ⟨b, off, xs, rfl, _, hl, hx, hr⟩ := h3 hL
    exact ⟨xs, Src.ofSlice w ht _ _ cap xs hl (fun j u hj => by rw [Addr.add_lit]; exact hx j u hj) (rdAll_one hr), hr⟩

theorem exI {o : Oper} {K : Value → World → Prop} {v : Value} {w' : World} (hr : Runs P n env w o v w') (hk : K v w') : Ex P n env w o K := ⟨v, w', hr, hk⟩

/-- A list of flat elements is appended to a row that the call owns. -/
theorem x_append {K : Value → World → Prop} {d : Nat} {x y : Operand} {t e : TypeId} {size bytes : Nat} {z xv : Value} {s : Sv} {M : List T} {S : Bs} (ht : P.underlying t = some (.slice e)) (hs : Sz P e size bytes z) (hx : ev env x = some xv) (hsv : ev env y = some s.v)
    (hsrc : (cSl size f M).rd S w xv) (hfl : FlatE f) (hM : St w0 (oC (cSl size f L) s.v :: m) rs w) (h40 : L.length + M.length ≤ 1099511627776) (hby : Nat.ble bytes 127 = true)
    (h : ∀ (s' : Sv) w', St w0 (oC (cSl size f (L ++ M)) s'.v :: m) rs w' → K (s'.v) w') :
    Ex P n env w ⟨some d, .call { callee := .builtin .append, args := #[y, x], argTypes := #[t, t] }, ty, pos, af, none⟩ K := by
  obtain ⟨xs, h1, h2⟩ := Cs.src ht hsrc
  have hby' : bytes ≤ 127 := by simpa using hby
  obtain ⟨s', w', hr, h3⟩ := St.app (tyy := ty) (own := []) (M := M) ht hs hM h1 rfl (rdAll_len h2).symm (flat_cells hfl (fun c hc => by
    obtain ⟨a, _, ha⟩ := List.mem_flatMap.1 hc
    exact hfl a c ha) h2 w) (by simp only [maxLen]; omega) (by
    have := Nat.mul_le_mul h40 hby'
    omega)
  refine exI (v := s'.v) (w' := w') (fun a ha => ?_) (h s' w' h3)
  simp [execOp, resolve, invoke, builtin, ha.ev hsv, ha.ev hx, hr]

/-- Elements of another row that is owned are appended: they move. -/
theorem x_appendO {K : Value → World → Prop} {d : Nat} {x y : Operand} {t e : TypeId} {size bytes : Nat} {z : Value} {s sx : Sv} {M : List T} (ht : P.underlying t = some (.slice e)) (hs : Sz P e size bytes z) (hx : ev env x = some sx.v) (hsv : ev env y = some s.v)
    (hM : St w0 (oC (cSl size f L) s.v :: oC (cSl size f M) sx.v :: m) rs w) (h40 : L.length + M.length ≤ 1099511627776) (hby : Nat.ble bytes 127 = true)
    (h : ∀ (s' : Sv) w', St w0 (oC (cSl size f (L ++ M)) s'.v :: m) rs w' → K (s'.v) w') :
    Ex P n env w ⟨some d, .call { callee := .builtin .append, args := #[y, x], argTypes := #[t, t] }, ty, pos, af, none⟩ K := by
  have hsw := St.unrow (hM.perm (List.Perm.swap ..))
  obtain ⟨xs, hl, hM2⟩ := hsw
  have hrow := hM2.at' (List.mem_cons_self ..)
  have hM3 := hM2.drop
  have hcells : ∀ j u, xs[j]? = some u → ∃ a, sx.p = some a ∧ w.cell? (a.add j) = some u := fun j u hj => by
    obtain ⟨F, _, gl, gr⟩ := hrow
    rcases gr with ⟨e1, hn⟩ | ⟨b, off, cap, cur, e', e1, hb, hg, _, _, _, htk⟩
    · rw [hn, Nat.zero_mul] at gl
      rw [List.eq_nil_of_length_eq_zero gl] at hj
      simp at hj
    · obtain ⟨ep, _⟩ : sx.p = some ⟨b, off, none⟩ ∧ _ := by simpa [Sv.v] using e1
      rw [← htk, List.getElem?_take] at hj
      split at hj
      · rw [List.getElem?_drop, Array.getElem?_toList] at hj
        exact ⟨_, ep, by rw [Addr.add_lit]; simp [World.cell?, hg, hj]⟩
      · cases hj
  have hrd : ∃ S, rdAll S w (M.flatMap f) xs := by
    obtain ⟨_, _, F, h2, _⟩ := hM3
    obtain ⟨F1, _, h3, _⟩ := h2.split
    exact ⟨F1, zipC_seen hl h3⟩
  obtain ⟨S, hrd⟩ := hrd
  obtain ⟨F, _, gl, gr⟩ := hrow
  have hn : sx.n = M.length := by
    rcases gr with ⟨e1, hn⟩ | ⟨b, off, cap, cur, e', e1, _⟩
    · obtain ⟨_, h2, _⟩ : sx.p = none ∧ sx.n = 0 ∧ sx.c = 0 := by simpa [Sv.v] using e1
      omega
    · obtain ⟨_, h2, _⟩ : sx.p = some ⟨b, off, none⟩ ∧ sx.n = M.length ∧ sx.c = cap := by simpa [Sv.v] using e1
      exact h2
  have hsrc : Src P size t sx.v M.length xs w := by
    have e0 : sx.v = .slice sx.p M.length sx.c := by rw [← hn]; rfl
    cases hp : sx.p with
    | none =>
      have hxs : xs = [] := by
        cases xs with
        | nil => rfl
        | cons u r => obtain ⟨a, ha, _⟩ := hcells 0 u rfl; rw [hp] at ha; cases ha
      subst hxs
      have hz : M.length = 0 := by
        have := hs.2.2
        rcases Nat.mul_eq_zero.1 gl.symm with h | h <;> omega
      rw [e0, hp, hz]
      exact Src.ofNil w ht _
    | some a =>
      rw [e0, hp]
      exact Src.ofSlice w ht a _ _ xs gl (fun j u hj => by obtain ⟨a', ha, hc⟩ := hcells j u hj; rw [hp] at ha; cases ha; exact hc) (rdAll_one hrd)
  have hby' : bytes ≤ 127 := by simpa using hby
  have hM4 : St w0 (oC (cSl size f L) s.v :: (zipC (M.flatMap f) xs ++ m)) rs w := hM3.perm List.perm_middle
  obtain ⟨s', w', hr, h3⟩ := St.app (tyy := ty) (M := M) ht hs hM4 hsrc rfl hl zI (by simp only [maxLen]; omega) (by
    have := Nat.mul_le_mul h40 hby'
    omega)
  refine exI (v := s'.v) (w' := w') (fun a ha => ?_) (h s' w' h3)
  simp [execOp, resolve, invoke, builtin, ha.ev hsv, ha.ev hx, hr]

end
end Go.Proofs.YtlgmikaemfbmaaaGreat
