/- The second layer, part L: stores, boxes, new rows, calls. No condition. -/
import Derived.Test.YtjbonmmmcnpjiaaGreatDoorNk
namespace Go.Proofs.YtjbonmmmcnpjiaaGreatDoor
open Go.RowKit

theorem Sep.sub {w : World} {l l' : List As} (hs : List.Sublist l' l) : ∀ {F : Bs}, Sep l F w → Sep l' F w := by
  induction hs with
  | slnil => exact fun h => h
  | cons a _ ih => exact fun h => ih h.tail
  | cons_cons a _ ih => exact fun h => h.cons_mono fun _ => ih

theorem flatMap_upds {T A : Type} [Inhabited T] {k : Nat} {f : T → List A} (hf : ∀ x, (f x).length = k) : ∀ (L : List T) (i j : Nat) (us : List A) (y : T), i < L.length → j + us.length ≤ k → f y = (f (el L i)).take j ++ us ++ (f (el L i)).drop (j + us.length) →
    (L.set i y).flatMap f = (L.flatMap f).take (i * k + j) ++ us ++ (L.flatMap f).drop (i * k + j + us.length)
  | [], i, j, _, _, hi, _, _ => by simp at hi
  | x :: L, 0, j, us, y, _, hj, hx => by
    have hx' : f y = (f x).take j ++ us ++ (f x).drop (j + us.length) := hx
    rw [List.set_cons_zero, List.flatMap_cons, List.flatMap_cons, hx', Nat.zero_mul, Nat.zero_add, List.take_append_of_le_length (by rw [hf]; omega), List.drop_append_of_le_length (by rw [hf]; omega)]
    simp [List.append_assoc]
  | x :: L, i + 1, j, us, y, hi, hj, hx => by
    rw [List.set_cons_succ, List.flatMap_cons, List.flatMap_cons, flatMap_upds hf L i j us y (by simpa using hi) hj hx]
    rw [show (i + 1) * k + j = k + (i * k + j) by rw [Nat.add_mul]; omega]
    rw [List.take_append, List.drop_append, hf, List.take_of_length_le (l := f x) (by rw [hf]; omega), List.drop_eq_nil_of_le (as := f x) (by rw [hf]; omega)]
    rw [Nat.add_sub_cancel_left, show k + (i * k + j) + us.length - k = i * k + j + us.length by omega]
    simp [List.append_assoc]

section
variable {w0 : Base} {w w' : World} {m l l' own : List As} {rs : List Rd} {c : Ce} {v : Value} {S : Bs}
variable {T : Type} {k : Nat} {f : T → List Ce} {L : List T}

/-- Some cells of a row are given up, and others come in. -/
theorem St.upds [Inhabited T] {i j : Nat} {y : T} {cs : List Ce} {us : List Value} {s : Sv} (hf : ∀ x, (f x).length = k) (hi : i < L.length) (hl : cs.length = us.length) (hj : j + us.length ≤ k) (hy : f y = (f (el L i)).take j ++ cs ++ (f (el L i)).drop (j + us.length))
    (hz : ∀ w, Z w own (zipC cs us)) (h : St w0 (oC (cSl k f L) s.v :: (own ++ m)) rs w) :
    ∃ (b o : Nat) (cur : Array Value) (e : TypeId) (hd : Nat × Nat), s.p = some ⟨b, o, none⟩ ∧ (w.heap[b]? = some (.cells cur e hd) ∧ Wr hd cur.size) ∧ o + i * k + j + us.length ≤ cur.size ∧ St w0 (oC (cSl k f (L.set i y)) s.v :: m) rs (w.setCells b (o + i * k + j) us) := by
  obtain ⟨xs, h1, h2⟩ := h.unrow
  have hik : i * k + k ≤ L.length * k := by rw [← Nat.succ_mul]; exact Nat.mul_le_mul_right k hi
  have hcs : (L.flatMap f).length = L.length * k := flatMap_len hf L
  have hzl : zipC ((L.set i y).flatMap f) (xs.take (i * k + j) ++ us ++ xs.drop (i * k + j + us.length)) = (zipC (L.flatMap f) xs).take (i * k + j) ++ zipC cs us ++ (zipC (L.flatMap f) xs).drop (i * k + j + us.length) := by
    rw [flatMap_upds hf L i j cs y hi (by omega) (by rw [hl]; exact hy), hl]
    rw [zipC_append (by rw [List.length_append, List.length_append, List.length_take, List.length_take]; omega), zipC_append (by rw [List.length_take, List.length_take]; omega), zipC_take, zipC_drop]
  have h3 : St w0 (oRow k s.v L.length xs :: (zipC ((L.set i y).flatMap f) (xs.take (i * k + j) ++ us ++ xs.drop (i * k + j + us.length)) ++ m)) rs w := by
    refine (St.iso (l := zipC (L.flatMap f) xs ++ own) (l' := zipC ((L.set i y).flatMap f) (xs.take (i * k + j) ++ us ++ xs.drop (i * k + j + us.length))) (m := oRow k s.v L.length xs :: m) (h2.perm ?_) fun F hF => ?_).perm ?_
    · rw [← List.append_assoc]; exact List.perm_middle.symm
    · rw [hzl]
      obtain ⟨F1, F2, g1, g2, g3, g4, g5⟩ := hF.split
      have g1' : Sep ((zipC (L.flatMap f) xs).take (i * k + j) ++ (zipC (L.flatMap f) xs).drop (i * k + j + us.length)) F1 w := Sep.sub (by
        conv => rhs; rw [← List.take_append_drop (i * k + j) (zipC (L.flatMap f) xs)]
        refine List.Sublist.append_left ?_ _
        rw [← List.drop_drop]
        exact List.drop_sublist _ _) g1
      have g6 := (Sep.join g1' (hz w F2 g2) g3).up (F' := F) (fun b hb => by
        rcases hb with hb | hb
        · exact g4 b hb
        · exact g5 b hb) hF.lt
      refine g6.perm ?_
      rw [List.append_assoc, List.append_assoc]
      exact List.Perm.append_left _ List.perm_append_comm
    · exact List.perm_middle
  obtain ⟨F0, g0, gl, gr⟩ := h3.at' (List.mem_cons_self ..)
  rcases gr with ⟨e1, hn⟩ | ⟨b, o, cap, cur, e, hd, e1, hb, ⟨hg, hwr⟩, hnc, hcm, hsz, htk⟩
  · omega
  · obtain ⟨ep, en, ec⟩ : s.p = some ⟨b, o, none⟩ ∧ s.n = L.length ∧ s.c = cap := by simpa [Sv.v] using e1
    have hnk : L.length * k ≤ cap * k := Nat.mul_le_mul_right _ hnc
    have hfit : o + i * k + j + us.length ≤ cur.size := by omega
    refine ⟨b, o, cur, e, hd, ep, ⟨hg, hwr⟩, hfit, St.rerow (xs := xs.take (i * k + j) ++ us ++ xs.drop (i * k + j + us.length)) ?_ ?_⟩
    · rw [flatMap_len hf, List.length_set, List.length_append, List.length_append, List.length_take, List.length_drop]; omega
    · rw [List.length_set]
      refine h3.updHead fun F ⟨q0, ql, qr⟩ => ?_
      rcases qr with ⟨q1, _⟩ | ⟨b2, o2, cap2, cur2, e2, hd2, q1, qb, ⟨qg, qw⟩, _, _, _, qtk⟩
      · rw [e1] at q1; cases q1
      · obtain ⟨⟨rfl, rfl⟩, rfl⟩ : (b = b2 ∧ o = o2) ∧ cap = cap2 := by rw [e1] at q1; simpa using q1
        rw [hg] at qg
        obtain ⟨rfl, rfl, rfl⟩ : cur = cur2 ∧ e = e2 ∧ hd = hd2 := by simpa using qg
        have hrel := setCells_relx (X := F) (b := b) us (o + i * k + j) w fun x h1 h2 => by
          have := qb (x - o) (by omega)
          rwa [show o + (x - o) = x by omega] at this
        refine ⟨F, ⟨fun b hb => Nat.lt_of_lt_of_le (q0 b hb) hrel.size, by rw [List.length_append, List.length_append, List.length_take, List.length_drop]; omega, .inr ⟨b, o, cap, _, e, hd, e1, qb, ⟨setCells_heap us _ cur w hg, ?_⟩, hnc, hcm, ?_, ?_⟩⟩, hrel, fun _ hb => .inl hb⟩
        · rw [setMany_eq _ _ _ (by rw [Array.length_toList]; exact hfit), show (cur.toList.take (o + i * k + j) ++ us ++ cur.toList.drop (o + i * k + j + us.length)).toArray.size = cur.size by simp only [List.size_toArray, List.length_append, List.length_take, List.length_drop, Array.length_toList]; omega]
          exact hwr
        · rw [setMany_eq _ _ _ (by rw [Array.length_toList]; exact hfit)]
          simp only [List.size_toArray, List.length_append, List.length_take, List.length_drop, Array.length_toList]; omega
        · rw [setMany_eq _ _ _ (by rw [Array.length_toList]; exact hfit), ← htk]
          have hcl : cur.toList.length = cur.size := Array.length_toList
          rw [List.take_take, List.drop_take, List.drop_drop, show min (i * k + j) (L.length * k) = i * k + j by omega]
          rw [List.append_assoc, List.drop_append_of_le_length (by rw [List.length_take]; omega), List.drop_take, show o + i * k + j - o = i * k + j by omega]
          rw [← List.append_assoc, List.take_append, List.length_append, List.length_take, List.length_drop]
          rw [List.take_of_length_le (by rw [List.length_append, List.length_take, List.length_drop]; omega)]
          congr 1
          rw [show o + i * k + j + us.length = o + (i * k + j + us.length) by omega]
          congr 1
          omega

end

section
variable {P : Program} {n : Nat} {ops : Array Oper} {Q : Post} {env : Env} {w w' : World} {w0 : Base} {rest : List Oper} {ty : TypeId} {pos : String} {af : Array Edge} {m own : List As} {rs : List Rd}
variable {T : Type} {k : Nat} {f : T → List Ce} {L : List T}

theorem run_st {t : TypeId} {size bytes : Nat} {z u : Value} {b o : Nat} {cur : Array Value} {e : TypeId} (hs : Sz P t size bytes z) (hu : u.cells.size = size) (hone : u.cells.toList.all (·.oneCell') = true) {hd : Nat × Nat} (hg : w.heap[b]? = some (.cells cur e hd)) (hw : Wr hd cur.size) (hfit : o + u.cells.toList.length ≤ cur.size) :
    (storeVar t ⟨b, o, none⟩ u).run P w = .ok () (w.setCells b o u.cells.toList) := by
  have h1 := run_storeCells_cells (P := P) b o u.cells.toList 0 w (fun j hj => by simp only [World.cell?, hg]; simp; rw [Array.length_toList] at hj hfit; omega) (fun j hj => frz hg hw (by rw [Array.length_toList] at hfit; simp only [Array.length_toList] at hj; omega)) (fun v hv => List.all_eq_true.1 hone v hv)
  simp only [Nat.add_zero] at h1
  simp [storeVar, hs.run, hu, h1]

/-- A store into an element of a row that the call owns. -/
theorem St.stE [Inhabited T] {t : TypeId} {x y : Operand} {s : Sv} {u : Value} {size bytes : Nat} {z : Value} {i j : Nat} (a : T) (cs : List Ce) (hs : Sz P t size bytes z) (hf : ∀ x, (f x).length = k) (hx : ev env x = some (.pointer (some (eaddr s.v (i * k + j))))) (hy : ev env y = some u) (hi : i < L.length)
    (hu : u.cells.size = size) (hl : cs.length = u.cells.toList.length) (hj : Nat.ble (j + u.cells.toList.length) k = true) (hone : u.cells.toList.all (·.oneCell') = true) (ha : f a = (f (el L i)).take j ++ cs ++ (f (el L i)).drop (j + u.cells.toList.length)) (hz : ∀ w, Z w own (zipC cs u.cells.toList))
    (hM : St w0 (oC (cSl k f L) s.v :: (own ++ m)) rs w) : ∃ w', RunsU P n env w ⟨none, .store t x y, ty, pos, af, none⟩ w' ∧ St w0 (oC (cSl k f (L.set i a)) s.v :: m) rs w' := by
  obtain ⟨b, o, cur, e, hd, ep, ⟨hg, hwr⟩, hfit, h3⟩ := hM.upds hf hi hl (by simpa using hj) ha hz
  refine ⟨w.setCells b (o + i * k + j) u.cells.toList, fun a ha => ?_, h3⟩
  have hx' := ha.ev hx
  have e1 : s.v = .slice (some ⟨b, o, none⟩) s.n s.c := by rw [← ep]; rfl
  rw [e1] at hx'
  simp only [eaddr, ← Nat.add_assoc] at hx'
  have h5 := run_st (P := P) (t := t) hs hu hone hg hwr hfit
  simp [execOp, hx', ha.ev hy, Instr.storeAt, Instr.sureAddr, h5]

theorem box_cell {b j : Nat} {cs : Array Value} {e : TypeId} {v : Value} (hM : St w0 m rs w) (hm : oBox b cs e ∈ m) (hc : cs[j]? = some v) : w.cell? ⟨b, j, none⟩ = some v := by
  obtain ⟨F, _, _, hg⟩ := hM.at' hm
  rw [cell_of_row w b j cs e (0, 0) hg]; exact hc

theorem r_ldB {d : Option Tmp} {g : Option (Nat × Bool)} {x : Operand} {t : TypeId} {b j : Nat} {cs : Array Value} {e : TypeId} {v : Value} {td : TypeDesc} (ht : P.underlying t = some td) (hn : noAgg td = true) (hx : ev env x = some (.pointer (some ⟨b, j, none⟩)))
    (hM : St w0 m rs w) (hm : oBox b cs e ∈ m) (hc : cs[j]? = some v) : Runs P n env w ⟨d, .load t x, ty, pos, af, g⟩ v w := r_ld ht hn hx (box_cell hM hm hc)

/-- A load of a struct out of a box. -/
theorem r_ldBS {d : Option Tmp} {g : Option (Nat × Bool)} {x : Operand} {t : TypeId} {b o : Nat} {fs : Array Field} {size bytes : Nat} {z : Value} {us : List Value} {cs : Array Value} {e : TypeId} (ht : P.underlying t = some (.struct fs)) (hs : Sz P t size bytes z) (hx : ev env x = some (.pointer (some ⟨b, o, none⟩)))
    (hl : us.length = size) (hM : St w0 m rs w) (hm : oBox b cs e ∈ m) (hc : (cs.toList.drop o).take size = us) : Runs P n env w ⟨d, .load t x, ty, pos, af, g⟩ (.agg us.toArray) w :=
  r_ldS ht hs hx hl fun j u hj => by
    rw [Addr.add_lit]
    refine box_cell hM hm ?_
    rw [← hc, List.getElem?_take] at hj
    split at hj
    · rw [List.getElem?_drop, Array.getElem?_toList] at hj; exact hj
    · cases hj

theorem x_alloc {K : Value → World → Prop} {d : Nat} {e : TypeId} {size bytes : Nat} {z : Value} (hs : Sz P e size bytes z) (hM : St w0 m rs w)
    (h : ∀ b w', Rel w w' → St w0 (oBox b z.cells e :: m) rs w' → K (.pointer (some ⟨b, 0, none⟩)) w') : Ex P n env w ⟨some d, .alloc e, ty, pos, af, none⟩ K :=
  exI (w' := w.alloc (.cells z.cells e)) (fun a ha => by
    simp [execOp, Instr.alloc, hs.zero, newVar, newRow]) (h _ _ (Rel.alloc w _) (hM.alloc _ _))

theorem x_box {K : Value → World → Prop} {d : Nat} {e : TypeId} {x : Operand} {v : Value} (hx : ev env x = some v) (hM : St w0 m rs w)
    (h : ∀ b w', Rel w w' → St w0 (oBox b v.cells e :: m) rs w' → K (.pointer (some ⟨b, 0, none⟩)) w') : Ex P n env w ⟨some d, .box e x, ty, pos, af, none⟩ K :=
  exI (w' := w.alloc (.cells v.cells e)) (fun a ha => by
    simp [execOp, ha.ev hx, Instr.box, newVar, newRow]) (h _ _ (Rel.alloc w _) (hM.alloc _ _))

/-- A store into a box. -/
theorem St.stB {t : TypeId} {x y : Operand} {b j : Nat} {cs cs' : Array Value} {e : TypeId} {u : Value} {size bytes : Nat} {z : Value} (hs : Sz P t size bytes z) (hx : ev env x = some (.pointer (some ⟨b, j, none⟩))) (hy : ev env y = some u) (hu : u.cells.size = size) (hone : u.cells.toList.all (·.oneCell') = true)
    (hj : Nat.ble (j + u.cells.toList.length) cs.size = true) (hc : cs'.toList = cs.toList.take j ++ u.cells.toList ++ cs.toList.drop (j + u.cells.toList.length)) (hM : St w0 (oBox b cs e :: m) rs w) : ∃ w', RunsU P n env w ⟨none, .store t x y, ty, pos, af, none⟩ w' ∧ St w0 (oBox b cs' e :: m) rs w' := by
  obtain ⟨_, _, _, hg⟩ := hM.at' (List.mem_cons_self ..)
  have hj' : j + u.cells.toList.length ≤ cs.size := by simpa using hj
  have h5 := run_st (P := P) (t := t) hs hu hone hg (wr0 _) hj'
  refine ⟨w.setCells b j u.cells.toList, fun a ha => by simp [execOp, ha.ev hx, ha.ev hy, Instr.storeAt, Instr.sureAddr, h5], hM.updHead fun F ⟨q0, qb, _⟩ => ?_⟩
  have hrel := setCells_relx (X := F) (b := b) u.cells.toList j w fun x h1 h2 => qb x (by omega)
  have hcs : cs'.size = cs.size := by
    rw [← Array.length_toList, hc]
    simp only [List.length_append, List.length_take, List.length_drop, Array.length_toList] at hj' ⊢
    omega
  refine ⟨F, ⟨fun b hb => Nat.lt_of_lt_of_le (q0 b hb) hrel.size, fun x hx => qb x (by omega), ?_⟩, hrel, fun _ hb => .inl hb⟩
  rw [setCells_heap _ _ _ _ hg, setMany_eq _ _ _ (by rw [Array.length_toList]; exact hj'), ← hc]

theorem zipC_rep {c0 : List Ce} {zs : List Value} (hl : c0.length = zs.length) (hz : ∀ w, Z w [] (zipC c0 zs)) : ∀ (n : Nat) (w : World), Z w [] (zipC ((List.replicate n c0).flatten) ((List.replicate n zs).flatten))
  | 0, _ => zN
  | n + 1, w => fun F hF => by
    rw [List.replicate_succ, List.flatten_cons, List.replicate_succ, List.flatten_cons, zipC_append hl]
    have h1 := hz w (fun _ => False) (fun _ h => h.elim)
    have h2 := zipC_rep hl hz n w F hF
    exact (Sep.join h1 h2 (fun _ h => h.elim)).up (fun b hb => by
      rcases hb with hb | hb
      · exact hb.elim
      · exact hb) h2.lt

theorem zero_row {size : Nat} (cs : List Value) (hc : cs.length = size) (k : Nat) : ((Array.range (k * size)).map fun j => (cs.toArray[j % size]?).getD default) = ((List.replicate k cs).flatten).toArray := by
  apply Array.ext'
  simp only [Array.toList_map, Array.toList_range]
  induction k with
  | zero => simp
  | succ k ih =>
    rw [List.replicate_succ', List.flatten_append, Nat.add_mul, Nat.one_mul, List.range_add, List.map_append, ih]
    congr 1
    simp only [List.flatten_cons, List.flatten_nil, List.append_nil, List.map_map]
    apply List.ext_getElem
    · simp [hc]
    · intro j h1 h2
      have hj : j < size := by simpa using h1
      have h3 : (k * size + j) % size = j := by rw [Nat.add_comm, Nat.add_mul_mod_self_right, Nat.mod_eq_of_lt hj]
      simp [h3, List.getElem?_eq_getElem h2]

/-- A new row as an assertion. -/
theorem St.newRow (hM : St w0 (own ++ m) rs w) {us : List Value} {len : Nat} (e : TypeId) (hf : ∀ x, (f x).length = k) (hL : L.length = len) (hl : us.length = len * k) (hz : ∀ w, Z w own (zipC (L.flatMap f) us)) (hm : len ≤ maxLen) :
    St w0 (oC (cSl k f L) (Sv.v ⟨some ⟨w.heap.size, 0, none⟩, len, len⟩) :: m) rs (w.alloc (.cells us.toArray e)) := by
  have h1 := hM.allocRow (k := k) (n := len) (cap := len) us [] us.toArray e (by simp) hl (Nat.le_refl _) hm (by simpa using hl)
  refine St.rerow (xs := us) (by rw [flatMap_len hf, hL, hl]) ?_
  rw [hL]
  exact (St.iso (l := own) (l' := zipC (L.flatMap f) us) (m := oRow k _ len us :: m) (h1.perm List.perm_middle.symm) (hz _)).perm List.perm_middle

/-- A new row of zeros. -/
theorem x_make {K : Value → World → Prop} {d : Nat} {x : Operand} {t e : TypeId} {size bytes : Nat} {z : Value} {k : Nat} (y : T) (ht : P.underlying t = some (.slice e)) (hs : Sz P e size bytes z) (hf : ∀ x, (f x).length = size) (hz : ∀ w, Z w [] (zipC (f y) z.cells.toList)) (hx : ev env x = some (.int .i64 (k : Int)))
    (hk : k ≤ 1099511627776) (hby : Nat.ble bytes 255 = true) (hM : St w0 m rs w)
    (h : ∀ (s : Sv) w', Rel w w' → St w0 (oC (cSl size f (List.replicate k y)) s.v :: m) rs w' → K s.v w') : Ex P n env w ⟨some d, .makeSlice t x x, ty, pos, af, none⟩ K := by
  obtain ⟨i, hi, hzz, hsz, hbt⟩ := hs.info
  have hby' : bytes ≤ 255 := by simpa using hby
  have hb : (bytes : Int) * (k : Int) ≤ 281474976710656 := by
    have := Nat.mul_le_mul hby' hk
    omega
  have hw : IntKind.i64.wrap (k : Int) = (k : Int) := i64_in ⟨by omega, by omega⟩
  have hfl : z.cells.toList.length = size := by rw [Array.length_toList]; exact hs.2.1
  have hrow := zero_row z.cells.toList hfl k
  have hpos := hs.2.2
  have hrun : (Instr.makeSlice t (.int .i64 (k : Int)) (.int .i64 (k : Int))).run P w = .ok (.slice (some ⟨w.heap.size, 0, none⟩) k k) (w.alloc (.cells ((List.replicate k z.cells.toList).flatten).toArray e)) := by
    by_cases hk0 : k = 0
    · subst hk0
      have hw0 : IntKind.i64.wrap 0 = 0 := i64_in ⟨by omega, by omega⟩
      simp [Instr.makeSlice, run_underlying ht, asInt, asIntOf, typeInfo, hi, hw0, hs.run, Go.newRow]
      rw [show (Array.range 0).map (fun _ => (default : Value)) = #[] from by simp]
    · have hz2 : z.cells = z.cells.toList.toArray := by simp
      have hzs : z.cells.toList.toArray.size = size := by simpa using hfl
      simp only [Instr.makeSlice, run_underlying ht, asInt, asIntOf, typeInfo, hi, hw, hbt, Sem.run_bind, Sem.run_pure, Result.andThen_ok, run_program]
      simp only [Sem.run_ite]
      generalize hzc : z.cells.toList = zl at *
      simp [hfl, Go.newRow, hs.zero, hs.run, hz2]
      rw [if_neg (by omega)]
      have h7 := hrow
      simp only [List.getElem?_toArray] at h7
      rw [h7, if_neg (by rw [Nat.mul_eq_zero]; omega)]
  refine exI (v := Sv.v ⟨some ⟨w.heap.size, 0, none⟩, k, k⟩) (w' := w.alloc (.cells ((List.replicate k z.cells.toList).flatten).toArray e)) (fun a ha => by simp [execOp, ha.ev hx, hrun, Sv.v]) (h _ _ (Rel.alloc w _) ?_)
  refine St.newRow (own := []) hM e hf (by simp) ?_ (fun w => ?_) (by simp only [maxLen]; omega)
  · rw [List.length_flatten]; simp [hs.2.1]
  · have hfm : (List.replicate k y).flatMap f = (List.replicate k (f y)).flatten := by
      rw [List.flatMap_def, List.map_replicate]
    rw [hfm]
    exact zipC_rep (by rw [hf, hfl]) hz k w

/-- An empty slice literal. -/
theorem x_empty {K : Value → World → Prop} {d : Nat} {t e : TypeId} {size bytes : Nat} {z : Value} (ht : P.underlying t = some (.slice e)) (hs : Sz P e size bytes z) (hf : ∀ x, (f x).length = size) (hM : St w0 m rs w)
    (h : ∀ (s : Sv) w', Rel w w' → St w0 (oC (cSl size f ([] : List T)) s.v :: m) rs w' → K s.v w') : Ex P n env w ⟨some d, .buildSlice t 0 #[], ty, pos, af, none⟩ K := by
  refine exI (v := Sv.v ⟨some ⟨w.heap.size, 0, none⟩, 0, 0⟩) (w' := w.alloc (.cells #[] e)) (fun a ha => ?_) (h _ _ (Rel.alloc w _) ?_)
  · simp [execOp, Instr.buildSlice, run_underlying ht, hs.run, Instr.fill, Go.newRow]
    rw [show (Array.range 0).map (fun _ => (default : Value)) = #[] from by simp]
    exact ⟨rfl, rfl⟩
  · exact St.newRow (own := []) (us := []) hM e hf rfl (by simp) (fun _ => zN) (by simp [maxLen])

def evP (env : Env) : List (Nat × Operand) → Option (List (Nat × Value))
  | [] => some []
  | (i, x) :: r => match ev env x, evP env r with
    | some v, some vs => some ((i, v) :: vs)
    | _, _ => none

theorem Has.evP {n : Nat} {a : Act} {env : Env} (h : Has n a env) : ∀ {l : List (Nat × Operand)} {vs : List (Nat × Value)}, Go.Proofs.YtjbonmmmcnpjiaaGreatDoor.evP env l = some vs → l.map (fun p => (p.1, a.eval p.2)) = vs
  | [], vs, hv => by simp [Go.Proofs.YtjbonmmmcnpjiaaGreatDoor.evP] at hv; simp [hv]
  | (i, x) :: r, vs, hv => by
    unfold Go.Proofs.YtjbonmmmcnpjiaaGreatDoor.evP at hv
    split at hv
    · rename_i v vs' h1 h2
      simp at hv
      subst hv
      simp [h.ev h1, h.evP h2]
    · cases hv

theorem r_build {d : Option Tmp} {g : Option (Nat × Bool)} {t : TypeId} {parts : List (Nat × Operand)} {vs : List (Nat × Value)} {cells : Array Value} (hp : evP env parts = some vs) (h : P.built t vs = some cells) :
    Runs P n env w ⟨d, .build t parts.toArray, ty, pos, af, g⟩ (.agg cells) w := fun a ha => by
  have h1 := ha.evP hp
  have h2 : (Instr.build t (parts.toArray.map fun p => (p.1, a.eval p.2))).run P w = .ok (.agg cells) w := run_build w t _ cells (by rw [Array.toList_map, ← h, ← h1])
  simp only [execOp, Sem.run_bind, h2, Result.andThen_ok, Sem.run_pure]

/-- A slice literal, every place written. -/
theorem x_lit {K : Value → World → Prop} {g : Option (Nat × Bool)} {d : Nat} {t e : TypeId} {size bytes : Nat} {z : Value} {parts : List (Nat × Operand)} {vs : List (Nat × Value)} (l : List T) (us : List Value) (len : Nat) (ht : P.underlying t = some (.slice e)) (hs : Sz P e size bytes z) (hf : ∀ x, (f x).length = size)
    (hp : evP env parts = some vs) (hl : l.length = len) (hul : us.length = len * size) (hpos : Nat.blt 0 len = true) (hsm : Nat.ble (len * size) 1000 = true)
    (hfill : Instr.fill (fun i => some (i * size, size)) ((Array.range (len * size)).map (z.cells[· % z.cells.size]!)) vs = some us.toArray) (hz : ∀ w, Z w own (zipC (l.flatMap f) us))
    (hM : St w0 (own ++ m) rs w) (h : ∀ (s : Sv) w', Rel w w' → St w0 (oC (cSl size f l) s.v :: m) rs w' → K s.v w') :
    Ex P n env w ⟨some d, .buildSlice t len parts.toArray, ty, pos, af, g⟩ K := by
  obtain ⟨i, hi, hzz, hsz, hbt⟩ := hs.info
  have hsm' := Nat.le_of_ble_eq_true hsm
  have hpos' : 0 < len := by simpa using hpos
  have hs0 := hs.2.2
  have hne : ¬ len * size = 0 := by
    intro e0
    rcases Nat.mul_eq_zero.1 e0 with h | h <;> omega
  refine exI (v := Sv.v ⟨some ⟨w.heap.size, 0, none⟩, len, len⟩) (w' := w.alloc (.cells us.toArray e)) (fun a ha => ?_) (h _ _ (Rel.alloc w _) (St.newRow hM e hf hl hul hz ?_))
  · have h1 := ha.evP hp
    have h2 : (parts.toArray.map fun (i, x) => (i, a.eval x)).toList = vs := by rw [Array.toList_map, ← h1]
    have h3 := run_buildSlice (P := P) w t e len (parts.toArray.map fun p => (p.1, a.eval p.2)) us.toArray i z ht hi hzz (by rw [hsz]; omega) (by rw [hsz]; exact hne) (by rw [hsz, h2]; exact hfill)
    simp only [execOp, Sem.run_bind, h3, Result.andThen_ok, Sem.run_pure]
    rfl
  · simp only [maxLen]
    have : len ≤ len * size := Nat.le_mul_of_pos_right _ hs0
    omega

end
end Go.Proofs.YtjbonmmmcnpjiaaGreatDoor
