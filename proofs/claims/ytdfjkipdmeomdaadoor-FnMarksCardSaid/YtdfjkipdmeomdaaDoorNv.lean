/- The second layer, part V: parts of rows written anew; elements put into the middle of a row. No condition. -/
import Derived.Test.YtdfjkipdmeomdaaDoorNs
import Derived.Laws.IdiomCopy
import Derived.Lib.AppendZerosOnto
import Derived.Lib.Overlaps
namespace Go.Proofs.YtdfjkipdmeomdaaDoor
open Go.RowKit

section
variable {P : Program} {w : World} {w0 : Base} {m : List As} {rs : List Rd} {k : Nat}
theorem run_copyK (w : World) (dT sT ty elem : TypeId) (i : TypeInfo) (b o dLen dCap : Nat) (a : Addr) (sLen sCap n : Nat) (cs : List Value)
    (hu : P.underlying dT = some (.slice elem)) (hi : P.info? elem = some i) (hn : Nat.min sLen dLen = n) (hcl : cs.length = n * i.size)
    (hsrc : ∀ j v, cs[j]? = some v → w.cell? (a.add j) = some v) (hc : ∀ j, j < cs.length → (w.cell? ⟨b, o + j, none⟩).isSome = true) (hf : ∀ j, j < cs.length → w.frozen? ⟨b, o + j, none⟩ = false) (h1 : ∀ v ∈ cs, v.oneCell' = true) :
    (Builtin.copy_ #[dT, sT] ty #[.slice (some ⟨b, o, none⟩) dLen dCap, .slice (some a) sLen sCap]).run P w = .ok (goInt n) (w.setCells b o cs) := by
  have hl := run_loadCells_list (P := P) w a cs hsrc
  have hst := run_storeCells_cells (P := P) b o cs 0 w (by simpa using hc) (by simpa using hf) h1
  rw [hcl] at hl
  simp [Builtin.copy_, run_underlying hu, Builtin.lenOf, Builtin.firstCells, sizeOf, typeInfo, hi, hn, hl, hst]

/-- What is known of a row of one's own that is not nil. -/
theorem St.rowAt {s : Sv} {n : Nat} {xs : List Value} (h : St w0 m rs w) (hm : oRow k s.v n xs ∈ m) (hn : 0 < n) :
    ∃ b off cap cur e, s = ⟨some ⟨b, off, none⟩, n, cap⟩ ∧ w.heap[b]? = some (.cells cur e (0, 0)) ∧ n ≤ cap ∧ cap ≤ maxLen ∧ off + cap * k ≤ cur.size ∧ xs.length = n * k ∧ (∀ j u, xs[j]? = some u → w.cell? ⟨b, off + j, none⟩ = some u) := by
  obtain ⟨F, _, gl, gr⟩ := h.at' hm
  rcases gr with ⟨_, h0⟩ | ⟨b, off, cap, cur, e, e1, hb, hg, hnc, hcm, hcs, htk⟩
  · omega
  · obtain ⟨ep, en, ec⟩ : s.p = some ⟨b, off, none⟩ ∧ s.n = n ∧ s.c = cap := by simpa [Sv.v] using e1
    refine ⟨b, off, cap, cur, e, by cases s; simp only at ep en ec; rw [ep, en, ec], hg, hnc, hcm, hcs, gl, fun j u hj => ?_⟩
    rw [← htk, List.getElem?_take] at hj
    split at hj
    · rw [List.getElem?_drop, Array.getElem?_toList] at hj
      simp [World.cell?, hg, hj]
    · cases hj

theorem row_cells {b off n cap : Nat} {cur : Array Value} {e : TypeId} (hg : w.heap[b]? = some (.cells cur e (0, 0))) (hs : off + cap * k ≤ cur.size) (hn : n ≤ cap) : (∀ j, j < n * k → (w.cell? ⟨b, off + j, none⟩).isSome = true) ∧ ∀ j, w.frozen? ⟨b, j, none⟩ = false := by
  refine ⟨fun j hj => ?_, fun j => by simp [World.frozen?, hg]⟩
  have := Nat.mul_le_mul_right k hn
  simp only [World.cell?, hg]
  simp
  omega

/-- Two rows lie in two blocks. -/
theorem St.apart {b off n c vb voff n' c' : Nat} {xs vs : List Value} (h : St w0 (oRow k (Sv.v ⟨some ⟨b, off, none⟩, n, c⟩) n xs :: oRow k (Sv.v ⟨some ⟨vb, voff, none⟩, n', c'⟩) n' vs :: m) rs w) : vb ≠ b := by
  obtain ⟨_, _, F, ⟨_, F1, F2, ⟨_, _, g1⟩, ⟨_, G1, G2, ⟨_, _, g2⟩, _, _, g5, _⟩, hd, _, _⟩, _⟩ := h
  rcases g1 with ⟨q, _⟩ | ⟨b1, _, _, _, _, q, hb, _⟩
  · simp [Sv.v] at q
  rcases g2 with ⟨q', _⟩ | ⟨b2, _, _, _, _, q', hb', _⟩
  · simp [Sv.v] at q'
  obtain ⟨⟨rfl, _⟩, _⟩ : (b = b1 ∧ _) ∧ _ := by simpa [Sv.v] using q
  obtain ⟨⟨rfl, _⟩, _⟩ : (vb = b2 ∧ _) ∧ _ := by simpa [Sv.v] using q'
  intro e
  subst e
  exact hd _ hb (g5 _ hb')

/-- The spare places of a row are elements, too. -/
theorem St.spare {b off n cap : Nat} {xs : List Value} (h : St w0 (oRow k (Sv.v ⟨some ⟨b, off, none⟩, n, cap⟩) n xs :: m) rs w) (m' : Nat) (hc : n + m' ≤ cap) : ∃ ys : List Value, ys.length = m' * k ∧ St w0 (oRow k (Sv.v ⟨some ⟨b, off, none⟩, n + m', cap⟩) (n + m') (xs ++ ys) :: m) rs w := by
  obtain ⟨F, _, gl, gr⟩ := h.at' (List.mem_cons_self ..)
  rcases gr with ⟨q1, _⟩ | ⟨b2, off2, cap2, cur, e, q1, qb, qg, qn, qm, qs, qtk⟩
  · simp [Sv.v] at q1
  obtain ⟨⟨rfl, rfl⟩, rfl⟩ : (b = b2 ∧ off = off2) ∧ cap = cap2 := by simpa [Sv.v] using q1
  have hk := Nat.mul_le_mul_right k hc
  rw [Nat.add_mul] at hk
  have hl : ((cur.toList.drop (off + n * k)).take (m' * k)).length = m' * k := by rw [List.length_take, List.length_drop, Array.length_toList]; omega
  refine ⟨(cur.toList.drop (off + n * k)).take (m' * k), hl, h.updHead fun F ⟨q0, ql, qr⟩ => ?_⟩
  rcases qr with ⟨q1, _⟩ | ⟨b2, off2, cap2, cur2, e2, q1, qb, qg2, _, _, _, qtk2⟩
  · simp [Sv.v] at q1
  obtain ⟨⟨rfl, rfl⟩, rfl⟩ : (b = b2 ∧ off = off2) ∧ cap = cap2 := by simpa [Sv.v] using q1
  refine ⟨F, ⟨q0, by rw [List.length_append, gl, hl, Nat.add_mul], .inr ⟨b, off, cap, cur, e, rfl, qb, qg, hc, qm, qs, ?_⟩⟩, RelX.refl F w, fun _ hb => .inl hb⟩
  rw [Nat.add_mul, ← qtk, ← List.drop_drop, ← List.take_add]

/-- A part of a row is written anew. -/
theorem St.blit {b off n cap o : Nat} {xs cs : List Value} (h : St w0 (oRow k (Sv.v ⟨some ⟨b, off, none⟩, n, cap⟩) n xs :: m) rs w) (hfit : o + cs.length ≤ n * k) : St w0 (oRow k (Sv.v ⟨some ⟨b, off, none⟩, n, cap⟩) n (xs.take o ++ cs ++ xs.drop (o + cs.length)) :: m) rs (w.setCells b (off + o) cs) := by
  refine h.updHead fun F ⟨q0, ql, qr⟩ => ?_
  rcases qr with ⟨q1, _⟩ | ⟨b2, off2, cap2, cur, e, q1, qb, qg, qn, qm, qs, qtk⟩
  · simp [Sv.v] at q1
  obtain ⟨⟨rfl, rfl⟩, rfl⟩ : (b = b2 ∧ off = off2) ∧ cap = cap2 := by simpa [Sv.v] using q1
  have hrel := setCells_relx (X := F) qb cs (off + o) w
  have hk := Nat.mul_le_mul_right k qn
  have hsz : off + n * k ≤ cur.toList.length := by rw [Array.length_toList]; omega
  have e1 := setMany_eq cs cur.toList (off + o) (by omega)
  refine ⟨F, ⟨fun b hb => Nat.lt_of_lt_of_le (q0 b hb) hrel.size, by simp; omega, .inr ⟨b, off, cap, _, e, rfl, qb, setCells_heap cs _ cur w qg, qn, qm, ?_, ?_⟩⟩, hrel, fun _ hb => .inl hb⟩
  · rw [e1]
    simp only [List.size_toArray, List.length_append, List.length_take, List.length_drop, Array.length_toList] at hsz ⊢; omega
  · rw [e1]
    have t3 : (cur.toList.take (off + o)).drop off = xs.take o := by rw [List.drop_take, Nat.add_sub_cancel_left, ← qtk, List.take_take, Nat.min_eq_left (by omega)]
    have t4 : xs.drop (o + cs.length) = (cur.toList.drop (off + o + cs.length)).take (n * k - (o + cs.length)) := by rw [← qtk, List.drop_take, List.drop_drop]; congr 2; omega
    have l1 : (cur.toList.take (off + o)).length = off + o := by rw [List.length_take]; omega
    simp only
    rw [List.append_assoc, List.drop_append_of_le_length (by omega), t3, t4, ← List.append_assoc, List.take_append, List.take_of_length_le (by simp; omega)]
    congr 2
    simp
    omega
end

section
variable {P : Program} {n : Nat} {env : Env} {w : World} {d : Option Tmp} {ty : TypeId} {pos : String} {af : Array Edge} {g : Option (Nat × Bool)} {k : Nat}
/-- A slice up to a place within the capacity. -/
theorem r_slv_hi {x hi : Operand} {t e : TypeId} {bytes : Nat} {z : Value} {s : Sv} {j : Int} (ht : P.underlying t = some (.slice e)) (hs : Sz P e k bytes z)
    (hx : ev env x = some s.v) (hhi : ev env hi = some (.int .i64 j)) (h0 : 0 ≤ j ∧ j ≤ (s.c : Int)) :
    Runs P n env w ⟨d, .slice t x none (some hi) none, ty, pos, af, g⟩ (s.cut k 0 j.toNat).v w := fun b hb => by
  have hx' : b.eval x = .slice s.p s.n s.c := hb.ev hx
  simp only [execOp, hx', hb.ev hhi, Option.map_some, Option.map_none, Instr.sliceAt, Sem.run_bind, run_underlying ht, Result.andThen_ok, Instr.slice, Instr.sliceBounds, Instr.sliceBound, asIntOf, Sem.run_pure, Sem.run_ite, if_pos h0, hs.run, Nat.sub_zero, Sv.cut_eq]
theorem r_slv_lo {x lo : Operand} {t e : TypeId} {bytes : Nat} {z : Value} {s : Sv} {i : Int} (ht : P.underlying t = some (.slice e)) (hs : Sz P e k bytes z)
    (hx : ev env x = some s.v) (hlo : ev env lo = some (.int .i64 i)) (h0 : 0 ≤ i ∧ i ≤ (s.n : Int)) (hc : s.n ≤ s.c) :
    Runs P n env w ⟨d, .slice t x (some lo) none none, ty, pos, af, g⟩ (s.cut k i.toNat s.n).v w := fun b hb => by
  have e6 : (s.c - i.toNat = 0) = (s.c = i.toNat) := by
    apply propext
    omega
  have hx' : b.eval x = .slice s.p s.n s.c := hb.ev hx
  simp only [execOp, hx', hb.ev hlo, Option.map_some, Option.map_none, Instr.sliceAt, Sem.run_bind, run_underlying ht, Result.andThen_ok, Instr.slice, Instr.sliceBounds, Instr.sliceBound, asIntOf, Sem.run_pure, Sem.run_ite, if_pos h0, hs.run, Option.isSome_none, Bool.false_eq_true, if_false, e6, Sv.cut_eq]
theorem cut_lo {b off n c i n' : Nat} (h : i < c) : Sv.cut ⟨some ⟨b, off, none⟩, n, c⟩ k i n' = ⟨some ⟨b, off + i * k, none⟩, n' - i, c - i⟩ := by
  unfold Sv.cut
  simp only
  rw [if_neg (by omega)]
  simp [Addr.add_lit]
theorem cut_hi {b off n c n' : Nat} (h : 0 < c) : Sv.cut ⟨some ⟨b, off, none⟩, n, c⟩ k 0 n' = ⟨some ⟨b, off, none⟩, n', c⟩ := by
  rw [cut_lo h]; simp
theorem r_cap {x : Operand} {t e : TypeId} {s : Sv} (ht : P.underlying t = some (.slice e)) (hx : ev env x = some s.v) :
    Runs P n env w ⟨d, .call { callee := .builtin .cap, args := #[x], argTypes := #[t] }, ty, pos, af, g⟩ (.int .i64 (s.c : Int)) w := fun a ha => by
  have hx' : a.eval x = .slice s.p s.n s.c := ha.ev hx
  simp [execOp, resolve, invoke, builtin, hx', Builtin.cap_, run_underlying ht, goInt]
theorem r_ext {f : FuncId} {args : List Operand} {ats : Array TypeId} {vs : List Value} {v : Value} (hv : evs env args = some vs) (hr : (callFunc f vs.toArray).run P w = .ok (.value v) w) :
    Runs P n env w ⟨d, .call { callee := .value (.func f), args := args.toArray, argTypes := ats }, ty, pos, af, g⟩ v w := fun a ha => by
  simp only [execOp, resolve, Act.eval, Deferred.ofValue, invoke, Sem.run_bind, Sem.run_pure, Result.andThen_ok, List.map_toArray, ha.evs _ _ hv]
  simpa using hr
theorem x_copy {K : Value → World → Prop} {d : Nat} {x y : Operand} {t u : TypeId} {a b r : Value} {w' : World} (hx : ev env x = some a) (hy : ev env y = some b) (hr : (Builtin.copy_ #[t, u] ty #[a, b]).run P w = .ok r w') (h : K r w') :
    Ex P n env w ⟨some d, .call { callee := .builtin .copy, args := #[x, y], argTypes := #[t, u] }, ty, pos, af, none⟩ K := by
  refine exI (v := r) (w' := w') (fun c hc => ?_) h
  simp [execOp, resolve, invoke, builtin, hc.ev hx, hc.ev hy, hr]
theorem x_appM {K : Value → World → Prop} {d : Nat} {x y : Operand} {t u : TypeId} {a b r : Value} {w' : World} (hx : ev env x = some a) (hy : ev env y = some b) (hr : (Builtin.append_ #[t, u] ty #[a, b]).run P w = .ok r w') (h : K r w') :
    Ex P n env w ⟨some d, .call { callee := .builtin .append, args := #[x, y], argTypes := #[t, u] }, ty, pos, af, none⟩ K := by
  refine exI (v := r) (w' := w') (fun c hc => ?_) h
  simp [execOp, resolve, invoke, builtin, hc.ev hx, hc.ev hy, hr]
end
section
variable {w : World} {w0 : Base} {m : List As} {rs : List Rd} {k : Nat} {T : Type} {f : T → List Ce} {L M : List T}
theorem St.zipOne {cs : List Ce} {xs : List Value} (hl : cs.length = xs.length) (h : St w0 (zipC cs xs ++ m) rs w) : ∀ v ∈ xs, v.oneCell' = true := by
  have hrd : ∃ S, rdAll S w cs xs := by
    obtain ⟨_, _, F, h2, _⟩ := h
    obtain ⟨F1, _, h3, _⟩ := h2.split
    exact ⟨F1, zipC_seen hl h3⟩
  obtain ⟨S, hrd⟩ := hrd
  exact rdAll_one hrd
theorem flat_len (hf : ∀ x, (f x).length = k) : ∀ L : List T, (L.flatMap f).length = L.length * k
  | [] => by simp
  | x :: L => by rw [List.flatMap_cons, List.length_append, hf, flat_len hf L, List.length_cons, Nat.add_mul]; omega
theorem St.insDone {i : Nat} {xs vs : List Value} {s' : Sv} (hf : ∀ x, (f x).length = k) (hi : i ≤ L.length) (hx : (L.flatMap f).length = xs.length) (hv : (M.flatMap f).length = vs.length)
    (h : St w0 (oRow k s'.v (L.length + M.length) (xs.take (i * k) ++ vs ++ xs.drop (i * k)) :: (zipC (L.flatMap f) xs ++ (zipC (M.flatMap f) vs ++ m))) rs w) : St w0 (oC (cSl k f (L.take i ++ M ++ L.drop i)) s'.v :: m) rs w := by
  have e1 : L.flatMap f = (L.take i).flatMap f ++ (L.drop i).flatMap f := by rw [← List.flatMap_append, List.take_append_drop]
  have l1 : ((L.take i).flatMap f).length = (xs.take (i * k)).length := by
    rw [flat_len hf, List.length_take, List.length_take, Nat.min_eq_left hi, Nat.min_eq_left]
    rw [← hx, flat_len hf]; exact Nat.mul_le_mul_right k hi
  have l2 : ((L.drop i).flatMap f).length = (xs.drop (i * k)).length := by
    rw [flat_len hf, List.length_drop, List.length_drop, ← hx, flat_len hf, Nat.sub_mul]
  have e2 : zipC (L.flatMap f) xs = zipC ((L.take i).flatMap f) (xs.take (i * k)) ++ zipC ((L.drop i).flatMap f) (xs.drop (i * k)) := by
    conv => lhs; rw [e1, ← List.take_append_drop (i * k) xs]
    exact zipC_append l1
  have e3 : (L.take i ++ M ++ L.drop i).length = L.length + M.length := by simp; omega
  refine St.rerow (xs := xs.take (i * k) ++ vs ++ xs.drop (i * k)) (by rw [List.flatMap_append, List.flatMap_append, List.length_append, List.length_append, List.length_append, List.length_append, l1, hv, l2]) ?_
  rw [e3, List.flatMap_append, List.flatMap_append, zipC_append (by rw [List.length_append, List.length_append, l1, hv]), zipC_append l1]
  rw [e2] at h
  refine h.perm (List.Perm.cons _ ?_)
  rw [List.append_assoc, List.append_assoc, List.append_assoc]
  refine List.Perm.append_left _ ?_
  rw [← List.append_assoc, ← List.append_assoc]
  exact List.Perm.append_right _ List.perm_append_comm
end
end Go.Proofs.YtdfjkipdmeomdaaDoor
