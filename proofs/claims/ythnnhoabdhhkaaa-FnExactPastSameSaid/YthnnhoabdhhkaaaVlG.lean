/- The verification layer, part G: rows of flat elements that a call owns; loops with several ghosts. No condition. -/
import Derived.Test.YthnnhoabdhhkaaaVlF
namespace Go.Proofs.Ythnnhoabdhhkaaa
open Go.RowKit

/-- A row that the call owns and that holds the list L of flat elements. -/
abbrev oF {T : Type} (v : Value) (e size : Nat) (f : T → List Value) (L : List T) : Own := oSl v e size L.length (L.flatMap f)

theorem flatMap_length {T : Type} {k : Nat} {f : T → List Value} (hf : ∀ x, (f x).length = k) : ∀ L : List T, (L.flatMap f).length = L.length * k
  | [] => by simp
  | x :: L => by rw [List.flatMap_cons, List.length_append, hf, flatMap_length hf L, List.length_cons, Nat.add_mul]; omega

theorem flatMap_get {T : Type} {k : Nat} {f : T → List Value} (hf : ∀ x, (f x).length = k) (d0 : T) : ∀ (L : List T) (i j : Nat), i < L.length → j < k → (L.flatMap f)[i * k + j]? = (f (L.getD i d0))[j]?
  | [], i, j, hi, _ => by simp at hi
  | x :: L, 0, j, _, hj => by
    rw [List.flatMap_cons, Nat.zero_mul, Nat.zero_add, List.getElem?_append_left (by rw [hf]; exact hj)]
    rfl
  | x :: L, i + 1, j, hi, hj => by
    rw [List.flatMap_cons, List.getElem?_append_right (by rw [hf, Nat.add_mul]; omega), hf]
    rw [show (i + 1) * k + j - k = i * k + j by rw [Nat.add_mul]; omega]
    rw [flatMap_get hf d0 L i j (by simpa using hi) hj]
    rfl

theorem flatMap_set {T : Type} {k : Nat} {f : T → List Value} (hf : ∀ x, (f x).length = k) (d0 : T) : ∀ (L : List T) (i j : Nat) (u : Value) (x' : T), i < L.length → j < k → f x' = (f (L.getD i d0)).set j u → (L.flatMap f).set (i * k + j) u = (L.set i x').flatMap f
  | [], i, j, _, _, hi, _, _ => by simp at hi
  | x :: L, 0, j, u, x', _, hj, hx => by
    have hx' : f x' = (f x).set j u := hx
    rw [List.flatMap_cons, Nat.zero_mul, Nat.zero_add, List.set_append_left _ _ (by rw [hf]; exact hj), List.set_cons_zero, List.flatMap_cons, hx']
  | x :: L, i + 1, j, u, x', hi, hj, hx => by
    rw [List.flatMap_cons, List.set_append_right _ _ (by rw [hf, Nat.add_mul]; omega), hf, List.set_cons_succ, List.flatMap_cons]
    rw [show (i + 1) * k + j - k = i * k + j by rw [Nat.add_mul]; omega]
    rw [flatMap_set hf d0 L i j u x' (by simpa using hi) hj hx]

section
variable {P : Program} {n : Nat} {ops : Array Oper} {Q : Post} {env : Env} {w w' : World} {w0 : Base} {rest : List Oper} {ty : TypeId} {pos : String} {af : Array Edge} {m : List Own} {rs : List (List Value × D)}
variable {T : Type} {f : T → List Value} {L : List T}

theorem St.nilF (h : St w0 m rs w) (e size : Nat) (f : T → List Value) : St w0 (oF (.slice none 0 0) e size f [] :: m) rs w := h.nil e size

theorem Of.le {v : Value} {e size : Nat} (h : (oF v e size f L).ok w) : (L.length : Int) ≤ 9223372036854775807 := by
  obtain ⟨⟨a, cap, _, h1, h2⟩, _⟩ := Osl.form h
  simp only [maxLen] at h2
  omega

theorem Osl.ptr {v : Value} {e size k : Nat} {xs : List Value} (h : (oSl v e size k xs).ok w) (hk : 0 < k) : ∃ a len cap, v = .slice (some a) len cap := by
  rcases (h : w.ownsRow 0 e size v k xs).2 with ⟨_, h0⟩ | ⟨g, cap, cur, rfl, _⟩
  · omega
  · exact ⟨_, _, _, rfl⟩

theorem w_pushF {d1 d2 : Nat} {x s : Operand} {t e : TypeId} {ty2 : TypeId} {pos2 : String} {af2 : Array Edge} {size bytes : Nat} {z v sv : Value} (y : T) (hd1 : Nat.blt d1 n = true) (hd2 : Nat.blt d2 n = true)
    (ht : P.underlying t = some (.slice e)) (hs : Sz P e size bytes z) (hx : ev env x = some v) (hy : v.cells.toList = f y) (hvs : v.cells.size = size) (hv1 : ones v.cells.toList = true) (hsm : Nat.ble size 1000 = true) (hsv : ∀ u, ev ((d1, u) :: env) s = some sv)
    (hM : St w0 (oF sv e size f L :: m) rs w) (h63 : L.length + 1 ≤ maxLen) (hby : (L.length + 1) * bytes ≤ 140737488355328)
    (h : ∀ u v' w', St w0 (oF v' e size f (L ++ [y]) :: m) rs w' → WL P n ops rest Q ((d2, v') :: (d1, u) :: env) w') :
    WL P n ops (⟨some d1, .buildSlice t 1 #[(0, x)], ty, pos, af, none⟩ :: ⟨some d2, .call { callee := .builtin .append, args := #[s, .tmp d1], argTypes := #[t, t] }, ty2, pos2, af2, none⟩ :: rest) Q env w :=
  w_push hd1 hd2 ht hs hx hvs hv1 hsm hsv hM h63 hby fun u v' w' hM' => h u v' w' (by
    rw [hy] at hM'
    unfold oF
    rw [List.flatMap_append, List.length_append]
    simpa using hM')

theorem w_oneF {d : Nat} {x : Operand} {t e : TypeId} {size bytes : Nat} {z v : Value} (y : T) (hd : Nat.blt d n = true) (ht : P.underlying t = some (.slice e)) (hs : Sz P e size bytes z) (hx : ev env x = some v) (hy : v.cells.toList = f y) (hvs : v.cells.size = size) (hsm : Nat.ble size 1000 = true)
    (hM : St w0 m rs w) (h : ∀ v' w', St w0 (oF v' e size f [y] :: m) rs w' → WL P n ops rest Q ((d, v') :: env) w') :
    WL P n ops (⟨some d, .buildSlice t 1 #[(0, x)], ty, pos, af, none⟩ :: rest) Q env w :=
  w_one hd ht hs hx hvs hsm hM fun v' w' hM' => h v' w' (by
    rw [hy] at hM'
    simpa [oF] using hM')

theorem w_appendF {d : Nat} {x s : Operand} {t e : TypeId} {size bytes : Nat} {z xv sv : Value} {L2 : List T} {S : Nat → Prop} (hd : Nat.blt d n = true)
    (ht : P.underlying t = some (.slice e)) (hs : Sz P e size bytes z) (hf : ∀ x, (f x).length = size) (hx : ev env x = some xv) (hsv : ev env s = some sv) (hsrc : (dFs size f L2).rd S w [xv])
    (hM : St w0 (oF sv e size f L :: m) rs w) (h1 : ∀ x, ones (f x) = true) (h63 : L.length + L2.length ≤ maxLen) (hby : (L.length + L2.length) * bytes ≤ 140737488355328)
    (h : ∀ v' w', St w0 (oF v' e size f (L ++ L2) :: m) rs w' → WL P n ops rest Q ((d, v') :: env) w') :
    WL P n ops (⟨some d, .call { callee := .builtin .append, args := #[s, x], argTypes := #[t, t] }, ty, pos, af, none⟩ :: rest) Q env w :=
  w_append hd ht hs hx hsv hsrc hM (fun cs he u hu => by
    rw [(rdE_flat hf).1 he] at hu
    obtain ⟨y, _, hy⟩ := List.mem_flatMap.1 hu
    exact List.all_eq_true.1 (h1 y) u hy) (by simpa using h63) (by simpa using hby) fun v' w' cs he hM' => h v' w' (by
    rw [(rdE_flat hf).1 he] at hM'
    unfold oF
    rw [List.flatMap_append, List.length_append]
    simpa using hM')

/-- A store of one cell into an element of an owned row. -/
theorem w_stF {t : TypeId} {x y : Operand} {v u : Value} {e size i j : Nat} {bytes : Nat} {z : Value} (d0 x' : T) (hs : Sz P t 1 bytes z) (hf : ∀ x, (f x).length = size) (hx : ev env x = some (.pointer (some (eaddr v (i * size + j))))) (hy : ev env y = some u) (hi : i < L.length) (hj : Nat.blt j size = true)
    (h1 : u.oneCell' = true) (hx' : f x' = (f (L.getD i d0)).set j u) (hM : St w0 (oF v e size f L :: m) rs w)
    (h : ∀ w', St w0 (oF v e size f (L.set i x') :: m) rs w' → WL P n ops rest Q env w') : WL P n ops (⟨none, .store t x y, ty, pos, af, none⟩ :: rest) Q env w := by
  have hj' : j < size := by simpa using hj
  refine w_stO hs hx hy ?_ h1 hM fun w' hM' => h w' ?_
  · rw [flatMap_length hf]
    have : (i + 1) * size ≤ L.length * size := Nat.mul_le_mul_right _ hi
    rw [Nat.add_mul] at this
    omega
  · rw [flatMap_set hf d0 L i j u x' hi hj' hx'] at hM'
    unfold oF
    rw [List.length_set]
    exact hM'

/-- The same for elements of one cell. -/
theorem w_stF0 {t : TypeId} {x y : Operand} {v u : Value} {e size i : Nat} {bytes : Nat} {z : Value} (d0 x' : T) (hs : Sz P t 1 bytes z) (hf : ∀ x, (f x).length = size) (hp : Nat.blt 0 size = true) (hx : ev env x = some (.pointer (some (eaddr v (i * size))))) (hy : ev env y = some u) (hi : i < L.length)
    (h1 : u.oneCell' = true) (hx' : f x' = (f (L.getD i d0)).set 0 u) (hM : St w0 (oF v e size f L :: m) rs w)
    (h : ∀ w', St w0 (oF v e size f (L.set i x') :: m) rs w' → WL P n ops rest Q env w') : WL P n ops (⟨none, .store t x y, ty, pos, af, none⟩ :: rest) Q env w :=
  w_stF (j := 0) d0 x' hs hf (by simpa using hx) hy hi hp h1 hx' hM h

theorem Of.cell {v : Value} {e size : Nat} (h : (oF v e size f L).ok w) (hf : ∀ x, (f x).length = size) (d0 : T) {i j : Nat} {u : Value} (hi : i < L.length) (hu : (f (L.getD i d0))[j]? = some u) : w.cell? (eaddr v (i * size + j)) = some u := by
  have hj : j < size := by
    have := (List.getElem?_eq_some_iff.1 hu).1
    rwa [hf] at this
  exact Osl.cell h (by rw [flatMap_get hf d0 L i j hi hj]; exact hu)

theorem r_ldO {d : Option Tmp} {g : Option (Nat × Bool)} {x : Operand} {t : TypeId} {td : TypeDesc} {v : Value} {e size i j : Nat} {u : Value} (d0 : T) (ht : P.underlying t = some td) (hn : noAgg td = true) (hf : ∀ x, (f x).length = size) (hx : ev env x = some (.pointer (some (eaddr v (i * size + j))))) (h : (oF v e size f L).ok w) (hi : i < L.length) (hu : (f (L.getD i d0))[j]? = some u) :
    Runs P n env w ⟨d, .load t x, ty, pos, af, g⟩ u w := r_ld ht hn hx (Of.cell h hf d0 hi hu)

theorem r_ldO0 {d : Option Tmp} {g : Option (Nat × Bool)} {x : Operand} {t : TypeId} {td : TypeDesc} {v : Value} {e size i : Nat} {u : Value} (d0 : T) (ht : P.underlying t = some td) (hn : noAgg td = true) (hf : ∀ x, (f x).length = size) (hx : ev env x = some (.pointer (some (eaddr v (i * size))))) (h : (oF v e size f L).ok w) (hi : i < L.length) (hu : (f (L.getD i d0))[0]? = some u) :
    Runs P n env w ⟨d, .load t x, ty, pos, af, g⟩ u w := r_ld ht hn hx (by simpa using Of.cell h hf d0 hi hu)

theorem r_ldOS {d : Option Tmp} {g : Option (Nat × Bool)} {x : Operand} {t : TypeId} {fs : Array Field} {bytes : Nat} {z v : Value} {e size i : Nat} (d0 : T) (ht : P.underlying t = some (.struct fs)) (hs : Sz P t size bytes z) (hf : ∀ x, (f x).length = size) (hx : ev env x = some (.pointer (some (eaddr v (i * size))))) (h : (oF v e size f L).ok w) (hi : i < L.length) :
    Runs P n env w ⟨d, .load t x, ty, pos, af, g⟩ (.agg (f (L.getD i d0)).toArray) w := by
  obtain ⟨a, len, cap, rfl⟩ := Osl.ptr h (by omega)
  refine r_ldS ht hs hx (hf _) fun j u hj => ?_
  simpa [eaddr, Addr.add_lit, Nat.add_assoc] using Of.cell h hf d0 hi hj

theorem zero_row {size : Nat} (cs : List Value) (hc : cs.length = size) (k : Nat) : ((Array.range (k * size)).map fun j => (cs.toArray[j % size]?).getD default) = ((List.replicate k cs).flatten).toArray := by
  apply Array.ext'
  simp only [Array.toList_map, Array.toList_range]
  induction k with
  | zero => simp
  | succ k ih =>
    rw [List.replicate_succ', List.flatten_append, Nat.add_mul, Nat.one_mul, List.range_add, List.map_append, ih]
    congr 1
    simp only [List.flatten_cons, List.flatten_nil, List.append_nil, List.map_map]
    apply List.ext_getElem
    · simp [hc]
    · intro j h1 h2
      have hj : j < size := by simpa using h1
      have h3 : (k * size + j) % size = j := by rw [Nat.add_comm, Nat.add_mul_mod_self_right, Nat.mod_eq_of_lt hj]
      simp [h3, List.getElem?_eq_getElem h2]

/-- A new row of zeros. -/
theorem w_makeF {d : Nat} {x : Operand} {t e : TypeId} {size bytes : Nat} {z : Value} {k : Nat} (y : T) (hd : Nat.blt d n = true) (ht : P.underlying t = some (.slice e)) (hs : Sz P e size bytes z) (hz : z.cells.toList = f y) (hx : ev env x = some (.int .i64 (k : Int)))
    (hb : (bytes : Int) * (k : Int) ≤ 281474976710656) (hk : (k : Int) ≤ 9223372036854775807) (hM : St w0 m rs w)
    (h : ∀ v' w', St w0 (oF v' e size f (List.replicate k y) :: m) rs w' → WL P n ops rest Q ((d, v') :: env) w') : WL P n ops (⟨some d, .makeSlice t x x, ty, pos, af, none⟩ :: rest) Q env w := by
  obtain ⟨i, hi, hzz, hsz, hbt⟩ := hs.info
  have hw : IntKind.i64.wrap (k : Int) = (k : Int) := i64_in ⟨by omega, hk⟩
  have hfl : (f y).length = size := by rw [← hz, Array.length_toList]; exact hs.2.1
  have hrow := zero_row (f y) hfl k
  have hpos := hs.2.2
  have hrun : (Instr.makeSlice t (.int .i64 (k : Int)) (.int .i64 (k : Int))).run P w = .ok (.slice (some ⟨w.heap.size, 0, none⟩) k k) (w.alloc (.cells ((List.replicate k (f y)).flatten).toArray e)) := by
    by_cases hk0 : k = 0
    · subst hk0
      have hw0 : IntKind.i64.wrap 0 = 0 := i64_in ⟨by omega, by omega⟩
      simp [Instr.makeSlice, run_underlying ht, asInt, asIntOf, typeInfo, hi, hw0, hs.run, newRow]
      rw [show (Array.range 0).map (fun _ => (default : Value)) = #[] from by simp]
    · have hz2 : z.cells = (f y).toArray := by rw [← hz]
      have hzs : (f y).toArray.size = size := by simpa using hfl
      simp only [Instr.makeSlice, run_underlying ht, asInt, asIntOf, typeInfo, hi, hw, hbt, Sem.run_bind, Sem.run_pure, Result.andThen_ok, run_program]
      simp only [Sem.run_ite]
      simp [hfl, newRow, hs.zero, hs.run, hz2]
      rw [if_neg (by omega)]
      have h7 := hrow
      simp only [List.getElem?_toArray] at h7
      rw [h7, if_neg (by rw [Nat.mul_eq_zero]; omega)]
  refine wv hd (v := .slice (some ⟨w.heap.size, 0, none⟩) k k) (w' := w.alloc (.cells ((List.replicate k (f y)).flatten).toArray e)) (fun a ha => by simp [execOp, ha.ev hx, hrun]) (h _ _ (hM.own (Rel.alloc w _) ?_ ?_))
  · have hfm : (List.replicate k y).flatMap f = (List.replicate k (f y)).flatten := by
      rw [List.flatMap_def, List.map_replicate]
    have hlen : ((List.replicate k (f y)).flatten).length = k * size := by
      rw [List.length_flatten]; simp [hfl]
    show (w.alloc _).ownsRow 0 e size _ (List.replicate k y).length _
    rw [hfm, List.length_replicate]
    refine ⟨hlen, .inr ⟨w.heap.size, k, _, rfl, Nat.zero_le _, heap_alloc_new w _, Nat.le_refl _, by simp only [maxLen]; omega, by simpa using hlen, ?_⟩⟩
    rw [List.take_of_length_le (by simp [hlen])]
  · intro b hb
    have : w.heap.size = b := by simpa [oSl, Value.ownBlock] using hb
    omega

theorem flatMap_setS {k : Nat} (hf : ∀ x, (f x).length = k) : ∀ (L : List T) (i : Nat) (x' : T), i < L.length → (L.flatMap f).take (i * k) ++ f x' ++ (L.flatMap f).drop (i * k + k) = (L.set i x').flatMap f
  | [], i, _, hi => by simp at hi
  | x :: L, 0, x', _ => by
    rw [List.flatMap_cons, Nat.zero_mul, Nat.zero_add, List.take_zero, List.nil_append, List.drop_append_of_le_length (by rw [hf]; exact Nat.le_refl _), List.drop_eq_nil_of_le (by rw [hf]; exact Nat.le_refl _), List.nil_append, List.set_cons_zero, List.flatMap_cons]
  | x :: L, i + 1, x', hi => by
    have ih := flatMap_setS hf L i x' (by simpa using hi)
    rw [List.set_cons_succ, List.flatMap_cons, List.flatMap_cons, ← ih]
    rw [show (i + 1) * k = k + i * k by rw [Nat.add_mul]; omega]
    rw [List.take_append, List.drop_append, hf, List.take_of_length_le (by rw [hf]; omega), List.drop_eq_nil_of_le (by rw [hf]; omega)]
    simp only [List.nil_append, List.append_assoc, Nat.add_sub_cancel_left]
    rw [show k + i * k + k - k = i * k + k by omega]

/-- A whole element is stored into an owned row. -/
theorem w_stFS {t : TypeId} {x y : Operand} {v : Value} {cs : Array Value} {e size i : Nat} {bytes : Nat} {z : Value} (x' : T) (hs : Sz P t size bytes z) (hf : ∀ x, (f x).length = size) (hx : ev env x = some (.pointer (some (eaddr v (i * size))))) (hy : ev env y = some (.agg cs)) (hi : i < L.length)
    (h1 : ones cs.toList = true) (hx' : f x' = cs.toList) (hM : St w0 (oF v e size f L :: m) rs w)
    (h : ∀ w', St w0 (oF v e size f (L.set i x') :: m) rs w' → WL P n ops rest Q env w') : WL P n ops (⟨none, .store t x y, ty, pos, af, none⟩ :: rest) Q env w := by
  have h' : w.ownsRow 0 e size v L.length (L.flatMap f) := hM.top
  have hcs : cs.size = size := by rw [← Array.length_toList, ← hx', hf]
  obtain ⟨h0, ⟨_, h2⟩ | ⟨gg, cap, cur, rfl, hb0, hh, hk, hcm, hsz, htk⟩⟩ := h'
  · omega
  · have hle : (i + 1) * size ≤ cap * size := Nat.mul_le_mul_right _ (by omega)
    rw [Nat.add_mul, Nat.one_mul] at hle
    have hst := run_storeCells_at P gg (i * size) e cs.toList 0 cur w hh (by simp only [Array.length_toList]; omega) (fun u hu => List.all_eq_true.1 h1 u hu)
    simp only [Nat.add_zero] at hst
    have hg := setRow_grown (cs' := (cur.toList.take (i * size) ++ cs.toList ++ cur.toList.drop (i * size + cs.toList.length)).toArray) hh
    refine wu (w' := w.setRow gg (cur.toList.take (i * size) ++ cs.toList ++ cur.toList.drop (i * size + cs.toList.length)).toArray) (fun a ha => ?_) (h _ (hM.upd hg.1 ?_ fun c hc => .inl hc))
    · have hx' := ha.ev hx
      simp only [eaddr, Nat.zero_add] at hx'
      simp only [execOp, hx', ha.ev hy, Instr.storeAt, Instr.sureAddr, storeVar, Value.cells, hs.run, Sem.run_bind, Sem.run_pure, Result.andThen_ok, hcs, ne_eq, not_true_eq_false, if_false, hst]
    · show (w.setRow gg _).ownsRow 0 e size _ _ _
      rw [← flatMap_setS hf L i x' hi, List.length_set]
      have hlen := flatMap_length hf L
      have hle2 : (i + 1) * size ≤ L.length * size := Nat.mul_le_mul_right _ hi
      rw [Nat.add_mul, Nat.one_mul] at hle2
      refine ⟨?_, .inr ⟨gg, cap, _, rfl, hb0, hg.2, hk, hcm, ?_, ?_⟩⟩
      · simp only [List.length_append, List.length_take, List.length_drop, hlen, hf]; omega
      · simp only [List.size_toArray, List.length_append, List.length_take, List.length_drop, Array.length_toList, hcs]; omega
      · have hcl : cs.toList.length = size := by simpa using hcs
        rw [← htk, hx', hcl]
        have hcu : L.length * size ≤ cur.toList.length := by
          have := Nat.mul_le_mul_right size hk
          simp only [Array.length_toList]; omega
        simp only [List.take_append, List.take_take, List.drop_take, List.length_append, List.length_take, hcl]
        rw [show min (L.length * size) (i * size) = i * size by omega, show min (i * size) (L.length * size) = i * size by omega, show min (i * size) cur.toList.length = i * size by omega]
        rw [List.take_of_length_le (show cs.toList.length ≤ L.length * size - i * size by omega)]

/-- What is owned can be read. -/
theorem Of.arg {v : Value} {e size : Nat} (h : (oF v e size f L).ok w) (hf : ∀ x, (f x).length = size) : Arg w [v] (dFs size f L) := by
  rcases (h : w.ownsRow 0 e size v L.length (L.flatMap f)).2 with ⟨rfl, h0⟩ | ⟨g, cap, cur, rfl, _, hg, hnc, hcm, hcs, htk⟩
  · refine ⟨none, 0, by rw [List.length_map, h0], by rw [List.length_map]; omega, by simp [maxLen], fun hne => ?_⟩
    rw [List.eq_nil_of_length_eq_zero h0] at hne
    exact absurd rfl hne
  · refine ⟨_, cap, by rw [List.length_map], by rw [List.length_map]; omega, hcm, fun _ => ⟨g, 0, _, rfl, (Array.getElem?_eq_some_iff.1 hg).1, fun j u hj => ?_, (rdE_flat hf).2 rfl⟩⟩
    have := Osl.cell (w := w) (v := .slice (some ⟨g, 0, none⟩) L.length cap) (e := e) (size := size) (k := L.length) h hj
    simpa [eaddr] using this

/-- A struct result lies in a box. -/
theorem rv_box {a t b : Nat} {fs : Array Field} {size bytes : Nat} {z : Value} {cs : List Value} {e : TypeId} (ht : P.underlying t = some (.struct fs)) (hs : Sz P t size bytes z) (hl : cs.length = size) (hx : lk env a = some (.pointer (some ⟨b, 0, none⟩))) (h : (oBox b cs.toArray e).ok w) : RV P w env (.cell a t) (.agg cs.toArray) := by
  refine ⟨_, hx, ?_⟩
  have h1 := run_loadCells_list (P := P) (w := w) ⟨b, 0, none⟩ cs (fun j u hj => by rw [Addr.add_lit, Nat.zero_add]; exact box_cell h (by simpa using hj))
  rw [hl] at h1
  simp [loadVar, isAgg, run_underlying ht, hs.run, h1]

/-- A part of a flat list. -/
theorem Fs.part {k : Nat} {S : Nat → Prop} {w1 : World} {v : Value} (h : (dFs k f L).rd S w1 [v]) {lo hi : Nat} (h1 : lo ≤ hi) (h2 : hi ≤ L.length) :
    ∃ a cap, v = .slice a L.length cap ∧ hi ≤ cap ∧ (dFs k f ((L.take hi).drop lo)).rd S w1 [.slice (if cap - lo = 0 then a else a.map (·.add (lo * k))) (hi - lo) (cap - lo)] := by
  obtain ⟨a, cap, e, hc1, hc2, h3⟩ := h
  simp only [List.length_map] at e hc1
  refine ⟨a, cap, (List.cons.inj e).1, by omega, ?_⟩
  have hlen : ((L.take hi).drop lo).length = hi - lo := by simp; omega
  refine ⟨(if cap - lo = 0 then a else a.map (·.add (lo * k))), cap - lo, by rw [List.length_map, hlen], by rw [List.length_map, hlen]; omega, by omega, fun hne => ?_⟩
  have hlt : lo < hi := by
    have : ((L.take hi).drop lo) ≠ [] := by intro e; rw [e] at hne; exact hne rfl
    have : ((L.take hi).drop lo).length ≠ 0 := by intro e; exact this (List.eq_nil_of_length_eq_zero e)
    omega
  obtain ⟨b, off, es, ea, hb, hcell, he⟩ := h3 (by intro e; simp at e; subst e; simp at h2; omega)
  refine ⟨b, off + lo * k, (es.take (hi * k)).drop (lo * k), ?_, hb, fun j u hj => ?_, ?_⟩
  · rw [if_neg (by omega), ea]
    simp [Addr.add_lit]
  · rw [List.getElem?_drop, List.getElem?_take] at hj
    split at hj
    · rw [Nat.add_assoc]; exact hcell _ _ hj
    · cases hj
  · have h5 := rdE_drop lo (rdE_take hi he)
    rw [← List.map_take, ← List.map_drop] at h5
    exact h5

theorem r_slcF {d : Option Tmp} {g : Option (Nat × Bool)} {x lo hi : Operand} {t e : TypeId} {k bytes : Nat} {z v : Value} {S : Nat → Prop} {w1 : World} {i j : Int} (ht : P.underlying t = some (.slice e)) (hs : Sz P e k bytes z)
    (hx : ev env x = some v) (hlo : ev env lo = some (.int .i64 i)) (hhi : ev env hi = some (.int .i64 j)) (h : (dFs k f L).rd S w1 [v]) (h0 : 0 ≤ i ∧ i ≤ j ∧ j ≤ (L.length : Int)) :
    ∃ v', Runs P n env w ⟨d, .slice t x (some lo) (some hi) none, ty, pos, af, g⟩ v' w ∧ (dFs k f ((L.take j.toNat).drop i.toNat)).rd S w1 [v'] := by
  obtain ⟨a, cap, rfl, hc, h3⟩ := Fs.part h (lo := i.toNat) (hi := j.toNat) (by omega) (by omega)
  refine ⟨_, fun b hb => ?_, h3⟩
  have h4 : 0 ≤ j ∧ j ≤ (cap : Int) := by omega
  have h5 : 0 ≤ i ∧ i ≤ (j.toNat : Int) := by omega
  have e6 : (cap - i.toNat = 0) = (cap = i.toNat) := by
    apply propext
    omega
  simp only [execOp, hb.ev hx, hb.ev hlo, hb.ev hhi, Option.map_some, Option.map_none, Instr.sliceAt, Sem.run_bind, run_underlying ht, Result.andThen_ok, Instr.slice, Instr.sliceBounds, Instr.sliceBound, asIntOf, Sem.run_pure, Sem.run_ite, if_pos h4, if_pos h5, hs.run, Option.isSome_none, Bool.false_eq_true, if_false, e6]

theorem r_slcF_hi {d : Option Tmp} {g : Option (Nat × Bool)} {x hi : Operand} {t e : TypeId} {k bytes : Nat} {z v : Value} {S : Nat → Prop} {w1 : World} {j : Int} (ht : P.underlying t = some (.slice e)) (hs : Sz P e k bytes z)
    (hx : ev env x = some v) (hhi : ev env hi = some (.int .i64 j)) (h : (dFs k f L).rd S w1 [v]) (h0 : 0 ≤ j ∧ j ≤ (L.length : Int)) :
    ∃ v', Runs P n env w ⟨d, .slice t x none (some hi) none, ty, pos, af, g⟩ v' w ∧ (dFs k f (L.take j.toNat)).rd S w1 [v'] := by
  obtain ⟨a, cap, rfl, hc, h3⟩ := Fs.part h (lo := 0) (hi := j.toNat) (by omega) (by omega)
  refine ⟨_, fun b hb => ?_, h3⟩
  have h4 : 0 ≤ j ∧ j ≤ (cap : Int) := by omega
  simp only [execOp, hb.ev hx, hb.ev hhi, Option.map_some, Option.map_none, Instr.sliceAt, Sem.run_bind, run_underlying ht, Result.andThen_ok, Instr.slice, Instr.sliceBounds, Instr.sliceBound, asIntOf, Sem.run_pure, Sem.run_ite, if_pos h4, hs.run, Nat.sub_zero]

theorem r_slcF_lo {d : Option Tmp} {g : Option (Nat × Bool)} {x lo : Operand} {t e : TypeId} {k bytes : Nat} {z v : Value} {S : Nat → Prop} {w1 : World} {i : Int} (ht : P.underlying t = some (.slice e)) (hs : Sz P e k bytes z)
    (hx : ev env x = some v) (hlo : ev env lo = some (.int .i64 i)) (h : (dFs k f L).rd S w1 [v]) (h0 : 0 ≤ i ∧ i ≤ (L.length : Int)) :
    ∃ v', Runs P n env w ⟨d, .slice t x (some lo) none none, ty, pos, af, g⟩ v' w ∧ (dFs k f (L.drop i.toNat)).rd S w1 [v'] := by
  obtain ⟨a, cap, rfl, hc, h3⟩ := Fs.part h (lo := i.toNat) (hi := L.length) (by omega) (by omega)
  rw [List.take_length] at h3
  refine ⟨_, fun b hb => ?_, h3⟩
  have h5 : 0 ≤ i ∧ i ≤ (L.length : Int) := h0
  have e6 : (cap - i.toNat = 0) = (cap = i.toNat) := by
    apply propext
    omega
  simp only [execOp, hb.ev hx, hb.ev hlo, Option.map_some, Option.map_none, Instr.sliceAt, Sem.run_bind, run_underlying ht, Result.andThen_ok, Instr.slice, Instr.sliceBounds, Instr.sliceBound, asIntOf, Sem.run_pure, Sem.run_ite, if_pos h5, hs.run, Option.isSome_none, Bool.false_eq_true, if_false, e6]

theorem St.reL {v : Value} {e size : Nat} {L' : List T} (h : St w0 (oF v e size f L :: m) rs w) (he : L = L') : St w0 (oF v e size f L' :: m) rs w := he ▸ h

/-- An empty slice literal. -/
theorem w_emptyF {d : Nat} {t e : TypeId} {size bytes : Nat} {z : Value} (hd : Nat.blt d n = true) (ht : P.underlying t = some (.slice e)) (hs : Sz P e size bytes z) (hM : St w0 m rs w)
    (h : ∀ v' w', St w0 (oF v' e size f ([] : List T) :: m) rs w' → WL P n ops rest Q ((d, v') :: env) w') : WL P n ops (⟨some d, .buildSlice t 0 #[], ty, pos, af, none⟩ :: rest) Q env w := by
  obtain ⟨i, hi, hzz, hsz, hbt⟩ := hs.info
  refine wv hd (v := .slice (some ⟨w.heap.size, 0, none⟩) 0 0) (w' := w.alloc (.cells #[] e)) (fun a ha => ?_) (h _ _ (hM.own (Rel.alloc w _) ?_ ?_))
  · simp [execOp, Instr.buildSlice, run_underlying ht, hs.run, Instr.fill, newRow]
    rw [show (Array.range 0).map (fun _ => (default : Value)) = #[] from by simp]
  · exact ⟨by simp, .inr ⟨w.heap.size, 0, #[], rfl, Nat.zero_le _, heap_alloc_new w _, Nat.le_refl _, by simp [maxLen], by simp, by simp⟩⟩
  · intro b hb
    have : w.heap.size = b := by simpa [oSl, Value.ownBlock] using hb
    omega

/-- An owned row that a callee was lent. -/
theorem St.lentF {v : Value} {e size : Nat} {L' : List T} (h : St w0 (oF v e size f L :: m) rs w) (hr : RelX (fun b => v.ownBlock = some b) w w') (ho : (oF v e size f L').ok w') : St w0 (oF v e size f L' :: m) rs w' :=
  h.lent hr ho fun _ hc => .inl hc

theorem St.sealO {v : Value} {e size : Nat} (h : St w0 (oF v e size f L :: m) rs w) (hf : ∀ x, (f x).length = size) : St w0 m (([v], dFs size f L) :: rs) w := h.sealF hf rfl rfl

end

section
variable {P : Program} {n : Nat} {Q : Post} {env : Env} {w : World} {c : Code}

theorem wc_loop1 {α : Type} (E : α → Env) (Φ : α → World → Prop) (μ : α → Nat) (x0 : α) (hc : Cov env (E x0)) (h0 : Φ x0 w)
    (hr : ∀ x w, Φ x w → WC P n c (lp E Φ μ x Q) (E x) w) : WC P n (.loop c) Q env w := wc_loop E Φ μ x0 hc h0 hr

def lp2 {α β : Type} (E : α → β → Env) (Φ : α → β → World → Prop) (μ : α → β → Nat) (x : α) (y : β) (Q : Post) : Post :=
  lp (fun p : α × β => E p.1 p.2) (fun p => Φ p.1 p.2) (fun p => μ p.1 p.2) (x, y) Q
theorem wc_loop2 {α β : Type} (E : α → β → Env) (Φ : α → β → World → Prop) (μ : α → β → Nat) (x0 : α) (y0 : β) (hc : Cov env (E x0 y0)) (h0 : Φ x0 y0 w)
    (hr : ∀ x y w, Φ x y w → WC P n c (lp2 E Φ μ x y Q) (E x y) w) : WC P n (.loop c) Q env w :=
  wc_loop (fun p : α × β => E p.1 p.2) (fun p => Φ p.1 p.2) (fun p => μ p.1 p.2) (x0, y0) hc h0 fun p w h => hr p.1 p.2 w h

def lp3 {α β γ : Type} (E : α → β → γ → Env) (Φ : α → β → γ → World → Prop) (μ : α → β → γ → Nat) (x : α) (y : β) (z : γ) (Q : Post) : Post :=
  lp (fun p : α × β × γ => E p.1 p.2.1 p.2.2) (fun p => Φ p.1 p.2.1 p.2.2) (fun p => μ p.1 p.2.1 p.2.2) (x, y, z) Q
theorem wc_loop3 {α β γ : Type} (E : α → β → γ → Env) (Φ : α → β → γ → World → Prop) (μ : α → β → γ → Nat) (x0 : α) (y0 : β) (z0 : γ) (hc : Cov env (E x0 y0 z0)) (h0 : Φ x0 y0 z0 w)
    (hr : ∀ x y z w, Φ x y z w → WC P n c (lp3 E Φ μ x y z Q) (E x y z) w) : WC P n (.loop c) Q env w :=
  wc_loop (fun p : α × β × γ => E p.1 p.2.1 p.2.2) (fun p => Φ p.1 p.2.1 p.2.2) (fun p => μ p.1 p.2.1 p.2.2) (x0, y0, z0) hc h0 fun p w h => hr p.1 p.2.1 p.2.2 w h

def lp4 {α β γ δ : Type} (E : α → β → γ → δ → Env) (Φ : α → β → γ → δ → World → Prop) (μ : α → β → γ → δ → Nat) (x : α) (y : β) (z : γ) (t : δ) (Q : Post) : Post :=
  lp (fun p : α × β × γ × δ => E p.1 p.2.1 p.2.2.1 p.2.2.2) (fun p => Φ p.1 p.2.1 p.2.2.1 p.2.2.2) (fun p => μ p.1 p.2.1 p.2.2.1 p.2.2.2) (x, y, z, t) Q
theorem wc_loop4 {α β γ δ : Type} (E : α → β → γ → δ → Env) (Φ : α → β → γ → δ → World → Prop) (μ : α → β → γ → δ → Nat) (x0 : α) (y0 : β) (z0 : γ) (t0 : δ) (hc : Cov env (E x0 y0 z0 t0)) (h0 : Φ x0 y0 z0 t0 w)
    (hr : ∀ x y z t w, Φ x y z t w → WC P n c (lp4 E Φ μ x y z t Q) (E x y z t) w) : WC P n (.loop c) Q env w :=
  wc_loop (fun p : α × β × γ × δ => E p.1 p.2.1 p.2.2.1 p.2.2.2) (fun p => Φ p.1 p.2.1 p.2.2.1 p.2.2.2) (fun p => μ p.1 p.2.1 p.2.2.1 p.2.2.2) (x0, y0, z0, t0) hc h0 fun p w h => hr p.1 p.2.1 p.2.2.1 p.2.2.2 w h

theorem lp_end1 {α : Type} {E : α → Env} {Φ : α → World → Prop} {μ : α → Nat} {x : α} (y : α) (hm : μ y < μ x) (hc : Cov env (E y)) (h : Φ y w) : lp E Φ μ x Q .normal env w := ⟨y, hm, hc, h⟩
theorem lp_end2 {α β : Type} {E : α → β → Env} {Φ : α → β → World → Prop} {μ : α → β → Nat} {x : α} {y : β} (x' : α) (y' : β) (hm : μ x' y' < μ x y) (hc : Cov env (E x' y')) (h : Φ x' y' w) : lp2 E Φ μ x y Q .normal env w := ⟨(x', y'), hm, hc, h⟩
theorem lp_end3 {α β γ : Type} {E : α → β → γ → Env} {Φ : α → β → γ → World → Prop} {μ : α → β → γ → Nat} {x : α} {y : β} {z : γ} (x' : α) (y' : β) (z' : γ) (hm : μ x' y' z' < μ x y z) (hc : Cov env (E x' y' z')) (h : Φ x' y' z' w) : lp3 E Φ μ x y z Q .normal env w := ⟨(x', y', z'), hm, hc, h⟩
theorem lp_end4 {α β γ δ : Type} {E : α → β → γ → δ → Env} {Φ : α → β → γ → δ → World → Prop} {μ : α → β → γ → δ → Nat} {x : α} {y : β} {z : γ} {t : δ} (x' : α) (y' : β) (z' : γ) (t' : δ) (hm : μ x' y' z' t' < μ x y z t) (hc : Cov env (E x' y' z' t')) (h : Φ x' y' z' t' w) : lp4 E Φ μ x y z t Q .normal env w := ⟨(x', y', z', t'), hm, hc, h⟩

end

section
variable {P : Program} {n : Nat} {Q : Post} {env : Env} {w : World} {c : Code} {i id : Nat}

theorem sq_n (h : WC P n c Q env w) : sq P n c Q .normal env w := h
theorem sq_ret (h : Q .ret env w) : sq P n c Q .ret env w := h
theorem sq_exit (h : Q (.exit i) env w) : sq P n c Q (.exit i) env w := h
theorem bk_n (h : Q .normal env w) : bk id Q .normal env w := h
theorem bk_ret (h : Q .ret env w) : bk id Q .ret env w := h
theorem bk_here (h : Q .normal env w) : bk id Q (.exit id) env w := by simpa [bk] using h
theorem bk_exit (hn : Nat.beq i id = false) (h : Q (.exit i) env w) : bk id Q (.exit i) env w := by simp only [bk, hn, cond_false]; exact h
theorem lp1_ret {α : Type} {E : α → Env} {Φ : α → World → Prop} {μ : α → Nat} {x : α} (h : Q .ret env w) : lp E Φ μ x Q .ret env w := h
theorem lp1_exit {α : Type} {E : α → Env} {Φ : α → World → Prop} {μ : α → Nat} {x : α} (h : Q (.exit i) env w) : lp E Φ μ x Q (.exit i) env w := h
theorem lp2_ret {α β : Type} {E : α → β → Env} {Φ : α → β → World → Prop} {μ : α → β → Nat} {x : α} {y : β} (h : Q .ret env w) : lp2 E Φ μ x y Q .ret env w := h
theorem lp2_exit {α β : Type} {E : α → β → Env} {Φ : α → β → World → Prop} {μ : α → β → Nat} {x : α} {y : β} (h : Q (.exit i) env w) : lp2 E Φ μ x y Q (.exit i) env w := h
theorem lp3_ret {α β γ : Type} {E : α → β → γ → Env} {Φ : α → β → γ → World → Prop} {μ : α → β → γ → Nat} {x : α} {y : β} {z : γ} (h : Q .ret env w) : lp3 E Φ μ x y z Q .ret env w := h
theorem lp3_exit {α β γ : Type} {E : α → β → γ → Env} {Φ : α → β → γ → World → Prop} {μ : α → β → γ → Nat} {x : α} {y : β} {z : γ} (h : Q (.exit i) env w) : lp3 E Φ μ x y z Q (.exit i) env w := h
theorem lp4_ret {α β γ δ : Type} {E : α → β → γ → δ → Env} {Φ : α → β → γ → δ → World → Prop} {μ : α → β → γ → δ → Nat} {x : α} {y : β} {z : γ} {t : δ} (h : Q .ret env w) : lp4 E Φ μ x y z t Q .ret env w := h
theorem lp4_exit {α β γ δ : Type} {E : α → β → γ → δ → Env} {Φ : α → β → γ → δ → World → Prop} {μ : α → β → γ → δ → Nat} {x : α} {y : β} {z : γ} {t : δ} (h : Q (.exit i) env w) : lp4 E Φ μ x y z t Q (.exit i) env w := h
end

theorem tup2 {a b c d : Value} (h : a = c) (k : b = d) : resVal [a, b] = .tuple #[c, d] := by rw [h, k]; rfl
theorem tup3 {a b c d e f : Value} (h : a = d) (k : b = e) (l : c = f) : resVal [a, b, c] = .tuple #[d, e, f] := by rw [h, k, l]; rfl
theorem vbool {a b : Bool} (h : a = b) : Value.bool a = .bool b := by rw [h]
theorem vint {a b : Int} {k : IntKind} (h : a = b) : Value.int k a = .int k b := by rw [h]

def fI (n : Int) : List Value := [.int .i64 n]

end Go.Proofs.Ythnnhoabdhhkaaa
