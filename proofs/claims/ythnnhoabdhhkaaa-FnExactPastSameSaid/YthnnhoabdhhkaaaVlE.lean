/- The verification layer, part E: operations that make or write memory. No condition. -/
import Derived.Test.YthnnhoabdhhkaaaVlD
import Derived.Great.BuildSlice
namespace Go.Proofs.Ythnnhoabdhhkaaa
open Go.RowKit

section
variable {P : Program} {n : Nat} {ops : Array Oper} {Q : Post} {env : Env} {w : World} {w0 : Base} {rest : List Oper} {ty : TypeId} {pos : String} {af : Array Edge} {m : List Own} {rs : List (List Value × D)}

def ones (cs : List Value) : Bool := cs.all (·.oneCell')

theorem w_alloc {d : Nat} {e : TypeId} {size bytes : Nat} {z : Value} (hd : Nat.blt d n = true) (hs : Sz P e size bytes z) (hM : St w0 m rs w)
    (h : ∀ b w', St w0 (oBox b z.cells e :: m) rs w' → WL P n ops rest Q ((d, .pointer (some ⟨b, 0, none⟩)) :: env) w') : WL P n ops (⟨some d, .alloc e, ty, pos, af, none⟩ :: rest) Q env w :=
  wv hd (w' := w.alloc (.cells z.cells e)) (fun a ha => by
    simp [execOp, Instr.alloc, hs.zero, newVar, newRow]) (h _ _ (hM.alloc _ _))

theorem w_box {d : Nat} {e : TypeId} {x : Operand} {v : Value} (hd : Nat.blt d n = true) (hx : ev env x = some v) (hM : St w0 m rs w)
    (h : ∀ b w', St w0 (oBox b v.cells e :: m) rs w' → WL P n ops rest Q ((d, .pointer (some ⟨b, 0, none⟩)) :: env) w') : WL P n ops (⟨some d, .box e x, ty, pos, af, none⟩ :: rest) Q env w :=
  wv hd (w' := w.alloc (.cells v.cells e)) (fun a ha => by
    simp [execOp, ha.ev hx, Instr.box, newVar, newRow]) (h _ _ (hM.alloc _ _))

theorem grown_setCell {b j : Nat} {cs : Array Value} {e : TypeId} {u : Value} (h : w.heap[b]? = some (.cells cs e (0, 0))) : w.grownBy (w.setCell ⟨b, j, none⟩ u) (some b) ∧ (w.setCell ⟨b, j, none⟩ u).heap[b]? = some (.cells (cs.setIfInBounds j u) e (0, 0)) := by
  refine ⟨⟨rfl, rfl, rfl, by simp [World.setCell], fun k _ hk => Below.heap_setCell _ _ _ _ (fun e => hk (by simp [e]))⟩, ?_⟩
  simp [World.setCell, Array.getElem?_modify, h]

theorem setRow_grown {b : Nat} {cs cs' : Array Value} {e : TypeId} (h : w.heap[b]? = some (.cells cs e (0, 0))) : w.grownBy (w.setRow b cs') (some b) ∧ (w.setRow b cs').heap[b]? = some (.cells cs' e (0, 0)) := by
  refine ⟨⟨rfl, rfl, rfl, by simp [World.setRow], fun k _ hk => setRow_other w b k _ (fun e => hk (by simp [e]))⟩, ?_⟩
  exact setRow_heap w b cs cs' e _ h

/-- A whole struct goes into a box of the call's own. -/
theorem w_stB {t : TypeId} {x y : Operand} {b : Nat} {cs cs' : Array Value} {e : TypeId} {bytes k : Nat} {z : Value} (hs : Sz P t k bytes z) (hx : ev env x = some (.pointer (some ⟨b, 0, none⟩))) (hy : ev env y = some (.agg cs')) (hk : cs'.size = k) (hM : St w0 (oBox b cs e :: m) rs w) (ho : cs.size = cs'.size) (h1 : ones cs'.toList = true)
    (h : ∀ w', St w0 (oBox b cs' e :: m) rs w' → WL P n ops rest Q env w') : WL P n ops (⟨none, .store t x y, ty, pos, af, none⟩ :: rest) Q env w := by
  subst hk
  have hb : w.heap[b]? = some (.cells cs e (0, 0)) := hM.top
  obtain ⟨i, hi, _, hsz, _⟩ := hs.info
  have hall : cs'.all (·.oneCell') = true := by rw [← Array.all_toList]; exact h1
  have h2 := run_storeVar_row (P := P) w b e t cs cs' hb (by simp [hi, hsz]) ho hall
  refine wu (w' := w.setRow b cs') (fun a ha => ?_) (h _ (hM.upd (setRow_grown hb).1 (setRow_grown hb).2 fun c hc => .inl hc))
  simp [execOp, ha.ev hx, ha.ev hy, Instr.storeAt, Instr.sureAddr, h2]

/-- One cell goes into a box of the call's own. -/
theorem w_st1 {t : TypeId} {x y : Operand} {b j : Nat} {cs : Array Value} {e : TypeId} {v : Value} {bytes : Nat} {z : Value} (hs : Sz P t 1 bytes z) (hx : ev env x = some (.pointer (some ⟨b, j, none⟩))) (hy : ev env y = some v) (hj : Nat.blt j cs.size = true) (h1 : v.oneCell' = true)
    (hM : St w0 (oBox b cs e :: m) rs w)
    (h : ∀ w', St w0 (oBox b (cs.setIfInBounds j v) e :: m) rs w' → WL P n ops rest Q env w') : WL P n ops (⟨none, .store t x y, ty, pos, af, none⟩ :: rest) Q env w := by
  have hb : w.heap[b]? = some (.cells cs e (0, 0)) := hM.top
  have hj' : j < cs.size := by simpa using hj
  have hcell : (w.cell? ⟨b, j, none⟩).isSome = true := by rw [cell_of_row w b j cs e (0, 0) hb]; simp [hj']
  have hfz : w.frozen? ⟨b, j, none⟩ = false := by simp [World.frozen?, hb]
  have hvc : v.cells = #[v] := by cases v <;> first | rfl | cases h1
  have hst : (store ⟨b, j, none⟩ v).run P w = .ok () (w.setCell ⟨b, j, none⟩ v) := by
    obtain ⟨u, hu⟩ := Option.isSome_iff_exists.1 hcell
    rw [run_store P w ⟨b, j, none⟩ v _ h1]
    simp [hu, hfz]
  refine wu (w' := w.setCell ⟨b, j, none⟩ v) (fun a ha => ?_) (h _ (hM.upd (grown_setCell hb).1 (grown_setCell hb).2 fun c hc => .inl hc))
  simp [execOp, ha.ev hx, ha.ev hy, Instr.storeAt, Instr.sureAddr, storeVar, hvc, hs.run, storeCells, Addr.add_lit, hst]

/-- The value of a row that the call owns. -/
theorem Osl.form {v : Value} {e size k : Nat} {xs : List Value} (h : (oSl v e size k xs).ok w) : (∃ a cap, v = .slice a k cap ∧ k ≤ cap ∧ cap ≤ maxLen) ∧ xs.length = k * size := by
  obtain ⟨h0, h1 | ⟨g, cap, cur, rfl, _, _, h2, h3, _⟩⟩ := (h : w.ownsRow 0 e size v k xs)
  · exact ⟨⟨none, 0, by rw [h1.1, h1.2], by omega, by simp [maxLen]⟩, h0⟩
  · exact ⟨⟨_, cap, rfl, h2, h3⟩, h0⟩

theorem r_lenO {d : Option Tmp} {g : Option (Nat × Bool)} {x : Operand} {t e e' : TypeId} {v : Value} {size k : Nat} {xs : List Value} (ht : P.underlying t = some (.slice e)) (hx : ev env x = some v) (h : (oSl v e' size k xs).ok w) :
    Runs P n env w ⟨d, .call { callee := .builtin .len, args := #[x], argTypes := #[t] }, ty, pos, af, g⟩ (.int .i64 (k : Int)) w := by
  obtain ⟨⟨a, cap, rfl, _⟩, _⟩ := Osl.form h
  exact r_len ht hx

/-- The address of an element of a row that the call owns. -/
theorem r_ixO {d : Option Tmp} {g : Option (Nat × Bool)} {x y : Operand} {t e e' : TypeId} {size bytes : Nat} {z : Value} {v : Value} {k : Nat} {xs : List Value} {i : Int} (ht : P.underlying t = some (.slice e)) (hs : Sz P e size bytes z)
    (hx : ev env x = some v) (hy : ev env y = some (.int .i64 i)) (h : (oSl v e' size k xs).ok w) (h0 : 0 ≤ i ∧ i < (k : Int)) :
    Runs P n env w ⟨d, .indexAddr t x y, ty, pos, af, g⟩ (.pointer (some (eaddr v (i.toNat * size)))) w := fun a ha => by
  obtain ⟨_, h1 | ⟨gg, cap, cur, rfl, _, _, h2, h3, _⟩⟩ := (h : w.ownsRow 0 e' size v k xs)
  · omega
  · simp [execOp, ha.ev hx, ha.ev hy, Instr.indexAt, run_underlying ht, asIntOf, h0, hs.run, eaddr, Addr.add_lit]

theorem Osl.cell {v : Value} {e size k : Nat} {xs : List Value} (h : (oSl v e size k xs).ok w) {j : Nat} {u : Value} (hj : xs[j]? = some u) : w.cell? (eaddr v j) = some u := by
  have h' : w.ownsRow 0 e size v k xs := h
  rcases h'.2 with ⟨_, rfl⟩ | ⟨gg, cap, cur, rfl, _⟩
  · have := h'.1
    rw [Nat.zero_mul] at this
    rw [List.eq_nil_of_length_eq_zero this] at hj
    simp at hj
  · have := h'.cells (g := gg) rfl j u hj
    simpa [eaddr, Addr.add_lit] using this

/-- A store of one cell into a row that the call owns. -/
theorem w_stO {t : TypeId} {x y : Operand} {v u : Value} {e size k : Nat} {xs : List Value} {j : Nat} {bytes : Nat} {z : Value} (hs : Sz P t 1 bytes z) (hx : ev env x = some (.pointer (some (eaddr v j)))) (hy : ev env y = some u) (hj : j < xs.length) (h1 : u.oneCell' = true)
    (hM : St w0 (oSl v e size k xs :: m) rs w)
    (h : ∀ w', St w0 (oSl v e size k (xs.set j u) :: m) rs w' → WL P n ops rest Q env w') : WL P n ops (⟨none, .store t x y, ty, pos, af, none⟩ :: rest) Q env w := by
  have h' : w.ownsRow 0 e size v k xs := hM.top
  obtain ⟨h0, ⟨_, rfl⟩ | ⟨gg, cap, cur, rfl, hb0, hh, hk, hcm, hsz, htk⟩⟩ := h'
  · rw [Nat.zero_mul] at h0
    omega
  · have hjc : j < cur.size := by
      have := Nat.mul_le_mul_right size hk
      omega
    have hcell : w.cell? ⟨gg, j, none⟩ = some (cur[j]) := by rw [cell_of_row w gg j cur e (0, 0) hh]; simp [hjc]
    have hfz : w.frozen? ⟨gg, j, none⟩ = false := by simp [World.frozen?, hh]
    have hvc : u.cells = #[u] := by cases u <;> first | rfl | cases h1
    have hst : (store ⟨gg, j, none⟩ u).run P w = .ok () (w.setCell ⟨gg, j, none⟩ u) := by
      rw [run_store P w ⟨gg, j, none⟩ u _ h1]
      simp [hcell, hfz]
    have hg := grown_setCell (j := j) (u := u) hh
    refine wu (w' := w.setCell ⟨gg, j, none⟩ u) (fun a ha => ?_) (h _ (hM.upd hg.1 ?_ fun c hc => .inl hc))
    · have hx' := ha.ev hx
      simp only [eaddr, Nat.zero_add] at hx'
      simp [execOp, hx', ha.ev hy, Instr.storeAt, Instr.sureAddr, storeVar, hvc, hs.run, storeCells, Addr.add_lit, hst]
    · refine ⟨by simpa using h0, .inr ⟨gg, cap, _, rfl, hb0, hg.2, hk, hcm, by simpa using hsz, ?_⟩⟩
      rw [Array.toList_setIfInBounds, List.take_set, htk]

theorem app_own {t tyy e : TypeId} {size bytes : Nat} {z : Value} (ht : P.underlying t = some (.slice e)) (hs : Sz P e size bytes z) {v : Value} {k : Nat} {xs : List Value} (hown : w.ownsRow 0 e size v k xs)
    (a : Addr) (mm c : Nat) (news : List Value) (hl : news.length = mm * size) (hnews : ∀ j u, news[j]? = some u → w.cell? (a.add j) = some u) (h1 : ∀ u ∈ news, u.oneCell' = true)
    (h63 : k + mm ≤ maxLen) (hby : (k + mm) * bytes ≤ 140737488355328) :
    ∃ v' w', (Builtin.append_ #[t, t] tyy #[v, .slice (some a) mm c]).run P w = .ok v' w' ∧ w'.ownsRow 0 e size v' (k + mm) (xs ++ news) ∧ w.grownBy w' v.ownBlock ∧ ∀ b, v'.ownBlock = some b → v.ownBlock = some b ∨ w.heap.size ≤ b := by
  obtain ⟨i, hi, hz, hsz, hbt⟩ := hs.info
  have h63i : ((k + mm : Nat) : Int) ≤ 9223372036854775807 := by simp only [maxLen] at h63; omega
  rcases hown.2 with ⟨rfl, rfl⟩ | ⟨g, cap, cur, rfl, hbg, hg, hnc, hcm, hcs, htake⟩
  · have hx : xs = [] := List.eq_nil_of_length_eq_zero (by simpa using hown.1)
    subst hx
    obtain ⟨v', w', h2, h3, h4, _⟩ := run_append_own (P := P) w w.heap.size t tyy e i z size bytes ht hi hz hsz hbt hs.2.1 hs.2.2 (.slice none 0 0) 0 [] (World.ownsRow_nil _ _ _ _) a mm c news hl hnews h1 h63 hby (Nat.le_refl _)
    exact ⟨v', w', h2, ⟨h3.1, h3.2.imp id fun ⟨g, cap, cur, e1, _, r⟩ => ⟨g, cap, cur, e1, Nat.zero_le _, r⟩⟩, h4, fun b hb => .inr (h3.lt b hb).1⟩
  · obtain ⟨v', w', h2, h3, h4, _⟩ := run_append_own (P := P) w 0 t tyy e i z size bytes ht hi hz hsz hbt hs.2.1 hs.2.2 _ k xs hown a mm c news hl hnews h1 h63 hby (Nat.zero_le _)
    refine ⟨v', w', h2, h3, h4, ?_⟩
    by_cases hroom : k + mm ≤ cap
    · have hfit : k * i.size + news.length ≤ cur.size := by rw [hl, hcs, hsz, ← Nat.add_mul]; exact Nat.mul_le_mul_right _ hroom
      have hr := run_append_room (P := P) w t tyy e i ht hi g k cap cur hg a mm c news (by rw [hsz]; exact hl) hnews h1 hroom hfit
      rw [h2] at hr
      simp only [Result.ok.injEq] at hr
      rw [hr.1]
      exact fun b hb => .inl hb
    · have holds : ∀ j u, xs[j]? = some u → w.cell? ((⟨g, 0, none⟩ : Addr).add j) = some u := hown.cells (g := g) rfl
      have hr := run_append_grow (P := P) w t tyy e i z ht hi hz ⟨g, 0, none⟩ k cap xs (by rw [hsz]; exact hown.1) holds a mm c news (by rw [hsz]; exact hl) hnews (by omega) h63i (by rw [hbt]; exact growslice_fits (by omega) hby)
      rw [h2] at hr
      simp only [Result.ok.injEq] at hr
      rw [hr.1]
      exact fun b hb => .inr (by
        have : w.heap.size = b := by simpa [Value.ownBlock] using hb
        omega)

theorem app_none {t tyy e : TypeId} {size bytes : Nat} {z : Value} (ht : P.underlying t = some (.slice e)) (hs : Sz P e size bytes z) {v : Value} {k : Nat} {xs : List Value} (hown : w.ownsRow 0 e size v k xs) (c : Nat) :
    (Builtin.append_ #[t, t] tyy #[v, .slice none 0 c]).run P w = .ok v w := by
  obtain ⟨i, hi, hz, hsz, hbt⟩ := hs.info
  rcases hown.2 with ⟨rfl, rfl⟩ | ⟨g, cap, cur, rfl, hbg, hg, hnc, hcm, hcs, htake⟩
  · simp [Builtin.append_, run_underlying ht, sizeOf, typeInfo, hi, Builtin.lenOf, Builtin.firstCells]
  · simp [Builtin.append_, run_underlying ht, sizeOf, typeInfo, hi, Builtin.lenOf, Builtin.firstCells, hnc, storeCells]

/-- The value of a slice literal of one element. -/
theorem run_one {t e : TypeId} {size bytes : Nat} {z v : Value} (ht : P.underlying t = some (.slice e)) (hs : Sz P e size bytes z) (hvs : v.cells.size = size) (hsm : Nat.ble size 1000 = true) :
    (Instr.buildSlice t 1 #[(0, v)]).run P w = .ok (.slice (some ⟨w.heap.size, 0, none⟩) 1 1) (w.alloc (.cells v.cells e)) := by
  obtain ⟨i, hi, hz, hsz, hbt⟩ := hs.info
  have hpos := hs.2.2
  have hsm' : size ≤ 1000 := by simpa using hsm
  have hfill : Instr.fill (fun j => some (j * i.size, i.size)) ((Array.range (1 * i.size)).map (z.cells[· % z.cells.size]!)) [(0, v)] = some v.cells := by
    have key : ∀ (l : List Value) (p : Nat) (cs : Array Value), p + l.length = cs.size → (l.zipIdx p).foldl (fun cs (q : Value × Nat) => cs.setIfInBounds q.2 q.1) cs = (cs.toList.take p ++ l).toArray := by
      intro l
      induction l with
      | nil => intro p cs hp; simp at hp; simp [hp, List.take_of_length_le]
      | cons u l ih =>
        intro p cs hp
        simp only [List.zipIdx_cons, List.foldl_cons, List.length_cons] at hp ⊢
        rw [ih (p + 1) _ (by simp; omega)]
        congr 1
        have hlt : p < cs.toList.length := by simp; omega
        rw [Array.toList_setIfInBounds, List.take_add_one, List.take_set, List.getElem?_set_self hlt, List.set_eq_of_length_le (by simp; omega)]
        simp
    have h1 := key v.cells.toList 0 ((Array.range size).map (z.cells[· % z.cells.size]!)) (by simp [hvs])
    simp only [Instr.fill, hsz, Nat.zero_mul, Nat.zero_add, Nat.one_mul, hvs, Array.size_map, Array.size_range, ne_eq, not_true_eq_false, decide_false, Bool.false_or, gt_iff_lt, Nat.lt_irrefl, Bool.false_eq_true, if_false, Option.some.injEq]
    rw [← Array.foldl_toList, Array.toList_zipIdx]
    simpa using h1
  exact run_buildSlice (P := P) w t e 1 #[(0, v)] v.cells i z ht hi hz (by simp [hsz]; omega) (by simp [hsz]; omega) hfill

/-- One element is appended to a row that the call owns: the element is laid by itself first. -/
theorem w_push {d1 d2 : Nat} {x s : Operand} {t e : TypeId} {ty2 : TypeId} {pos2 : String} {af2 : Array Edge} {size bytes : Nat} {z v sv : Value} {k : Nat} {xs : List Value} (hd1 : Nat.blt d1 n = true) (hd2 : Nat.blt d2 n = true)
    (ht : P.underlying t = some (.slice e)) (hs : Sz P e size bytes z) (hx : ev env x = some v) (hvs : v.cells.size = size) (hv1 : ones v.cells.toList = true) (hsm : Nat.ble size 1000 = true) (hsv : ∀ u, ev ((d1, u) :: env) s = some sv)
    (hM : St w0 (oSl sv e size k xs :: m) rs w) (h63 : k + 1 ≤ maxLen) (hby : (k + 1) * bytes ≤ 140737488355328)
    (h : ∀ u v' w', St w0 (oSl v' e size (k + 1) (xs ++ v.cells.toList) :: m) rs w' → WL P n ops rest Q ((d2, v') :: (d1, u) :: env) w') :
    WL P n ops (⟨some d1, .buildSlice t 1 #[(0, x)], ty, pos, af, none⟩ :: ⟨some d2, .call { callee := .builtin .append, args := #[s, .tmp d1], argTypes := #[t, t] }, ty2, pos2, af2, none⟩ :: rest) Q env w := by
  have hb := run_one (P := P) (w := w) ht hs hvs hsm
  refine wv hd1 (v := .slice (some ⟨w.heap.size, 0, none⟩) 1 1) (w' := w.alloc (.cells v.cells e)) (fun a ha => by simp [execOp, ha.ev hx, hb]) ?_
  have hM1 := hM.alloc v.cells e
  have hM2 := hM1.swap
  have hown : (w.alloc (.cells v.cells e)).ownsRow 0 e size sv k xs := hM2.top
  have hbox : (w.alloc (.cells v.cells e)).heap[w.heap.size]? = some (.cells v.cells e (0, 0)) := hM1.top
  obtain ⟨v', w', hr, ho', hgr, hnew⟩ := app_own (P := P) (tyy := ty2) ht hs hown ⟨w.heap.size, 0, none⟩ 1 1 v.cells.toList (by simp [hvs])
    (fun j u hj => by rw [Addr.add_lit, Nat.zero_add, cell_of_row _ _ _ _ _ _ hbox]; simpa using hj) (fun u hu => List.all_eq_true.1 hv1 u hu) h63 hby
  refine wv hd2 (v := v') (w' := w') (fun a ha => ?_) ?_
  · have e1 := ha.ev (hsv _)
    have e2 : a.eval (.tmp d1) = .slice (some ⟨w.heap.size, 0, none⟩) 1 1 := ha.ev (x := .tmp d1) (by simp [ev, lk])
    simp [execOp, resolve, invoke, builtin, e1, e2, hr]
  · exact h _ v' w' (hM2.upd (o' := oSl v' e size (k + 1) (xs ++ v.cells.toList)) hgr ho' hnew).swap.drop

/-- A slice literal of one element, as a row of the call's own. -/
theorem w_one {d : Nat} {x : Operand} {t e : TypeId} {size bytes : Nat} {z v : Value} (hd : Nat.blt d n = true) (ht : P.underlying t = some (.slice e)) (hs : Sz P e size bytes z) (hx : ev env x = some v) (hvs : v.cells.size = size) (hsm : Nat.ble size 1000 = true)
    (hM : St w0 m rs w) (h : ∀ v' w', St w0 (oSl v' e size 1 v.cells.toList :: m) rs w' → WL P n ops rest Q ((d, v') :: env) w') :
    WL P n ops (⟨some d, .buildSlice t 1 #[(0, x)], ty, pos, af, none⟩ :: rest) Q env w := by
  have hb := run_one (P := P) (w := w) ht hs hvs hsm
  refine wv hd (v := .slice (some ⟨w.heap.size, 0, none⟩) 1 1) (w' := w.alloc (.cells v.cells e)) (fun a ha => by simp [execOp, ha.ev hx, hb]) (h _ _ (hM.own (Rel.alloc w _) ?_ ?_))
  · refine ⟨by simp [hvs], .inr ⟨w.heap.size, 1, v.cells, rfl, Nat.zero_le _, heap_alloc_new w _, Nat.le_refl _, by simp [maxLen], by simp [hvs], ?_⟩⟩
    rw [Nat.one_mul, List.take_of_length_le (by simp [hvs])]
  · intro b hb
    have : w.heap.size = b := by simpa [oSl, Value.ownBlock] using hb
    omega

/-- A list is appended to a row that the call owns. -/
theorem w_append {d : Nat} {x s : Operand} {t e : TypeId} {size bytes : Nat} {z xv sv : Value} {k : Nat} {xs : List Value} {ds : List D} {S : Nat → Prop} (hd : Nat.blt d n = true)
    (ht : P.underlying t = some (.slice e)) (hs : Sz P e size bytes z) (hx : ev env x = some xv) (hsv : ev env s = some sv) (hsrc : (dSl size ds).rd S w [xv])
    (hM : St w0 (oSl sv e size k xs :: m) rs w) (h1 : ∀ cs, rdE size S w ds cs → ∀ u ∈ cs, u.oneCell' = true) (h63 : k + ds.length ≤ maxLen) (hby : (k + ds.length) * bytes ≤ 140737488355328)
    (h : ∀ v' w' cs, rdE size S w ds cs → St w0 (oSl v' e size (k + ds.length) (xs ++ cs) :: m) rs w' → WL P n ops rest Q ((d, v') :: env) w') :
    WL P n ops (⟨some d, .call { callee := .builtin .append, args := #[s, x], argTypes := #[t, t] }, ty, pos, af, none⟩ :: rest) Q env w := by
  obtain ⟨a0, cap, e1, _, _, h3⟩ := hsrc
  obtain rfl : xv = .slice a0 ds.length cap := (List.cons.inj e1).1
  have hown : w.ownsRow 0 e size sv k xs := hM.top
  have whole : ∀ (news : List Value) (a : Addr), a0 = some a → (∀ j u, news[j]? = some u → w.cell? (a.add j) = some u) → rdE size S w ds news → WL P n ops (⟨some d, .call { callee := .builtin .append, args := #[s, x], argTypes := #[t, t] }, ty, pos, af, none⟩ :: rest) Q env w := by
    intro news a ea hc he
    subst ea
    obtain ⟨v', w', hr, ho', hgr, hnew⟩ := app_own (P := P) (tyy := ty) ht hs hown a ds.length cap news (rdE_length he) hc (h1 news he) h63 hby
    refine wv hd (v := v') (w' := w') (fun b hb => ?_) (h v' w' news he (hM.upd (o' := oSl v' e size (k + ds.length) (xs ++ news)) hgr ho' hnew))
    simp [execOp, resolve, invoke, builtin, hb.ev hsv, hb.ev hx, hr]
  by_cases hds : ds = []
  · subst hds
    cases a0 with
    | some a => exact whole [] a rfl (fun j u hj => by simp at hj) rfl
    | none =>
      have hr := app_none (P := P) (tyy := ty) ht hs hown cap
      refine wv hd (v := sv) (w' := w) (fun b hb => ?_) (h sv w [] rfl (by simpa using hM))
      simp [execOp, resolve, invoke, builtin, hb.ev hsv, hb.ev hx, hr]
  · obtain ⟨b, off, es, ea, _, hc, he⟩ := h3 hds
    exact whole es _ ea (fun j u hj => by rw [Addr.add_lit]; exact hc j u hj) he

end
end Go.Proofs.Ythnnhoabdhhkaaa
