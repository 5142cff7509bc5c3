/- Texts that are joined; operations as text. No condition. -/
import Derived.Test.YtjbonmmmcnpjiaaGreatDoorFt
import Derived.Test.YtjbonmmmcnpjiaaGreatDoorMk
import Derived.Test.YtjbonmmmcnpjiaaGreatDoorT3
import Derived.Lib.ReplaceLaws
namespace Go.Proofs.YtjbonmmmcnpjiaaGreatDoor
section
variable {T : Type} [Inhabited T]
theorem text_loop {F : Nat → ByteArray → Option (Lr ByteArray ByteArray)} (l : List T) (t : T → List UInt8) (sep : List UInt8) (m : Nat) (hsep : sep.length ≤ 1) (ht : ∀ x ∈ l, (t x).length ≤ m)
    (hs : ∀ x k s, k < l.length → el l k = x → x ∈ l → s.length ≤ (m + 1) * l.length → (0 < k → (∀ x ∈ l, t x ≠ []) → s ≠ []) → (k = 0 → s = []) → F k (baOf s) = some (.go (baOf (s ++ ((if k = 0 then [] else sep) ++ t x))))) :
    eachN F (fun s => s) l.length 0 ⟨#[]⟩ = some (baOf (Lib.join (l.map t) sep)) := by
  have h := each_run (e := fun s => s) (F := F) l (fun r k s => k + r.length = l.length ∧ ∃ u, s = baOf u ∧ u.length ≤ (m + 1) * k ∧ (k = 0 → u = []) ∧ (0 < k → (∀ x ∈ l, t x ≠ []) → u ≠ []))
    (fun r k s => s ++ baOf (if k = 0 then Lib.join (r.map t) sep else Lib.joinTail sep (r.map t)))
    (fun s => by
      have : baOf (if l.length = 0 then Lib.join (([] : List T).map t) sep else Lib.joinTail sep (([] : List T).map t)) = ⟨#[]⟩ := by split <;> rfl
      rw [this]; exact fun _ => ByteArray.append_empty)
    (fun x r k s hk hx ⟨hl, u, e, hu, hz, hn⟩ => by
      have hm : x ∈ l := hx ▸ el_mem hk
      have hkl : (m + 1) * k ≤ (m + 1) * l.length := Nat.mul_le_mul_left _ (by omega)
      have hst := hs x k u hk hx hm (by omega) hn hz
      have hxl := ht x hm
      refine .inl ⟨_, e ▸ hst, ⟨by rw [List.length_cons] at hl; omega, _, rfl, ?_, by omega, fun _ hne h0 => hne x hm ?_⟩, ?_⟩
      · rw [List.length_append, List.length_append, Nat.mul_succ]; split <;> (try simp only [List.length_nil]) <;> omega
      · have := congrArg List.length h0
        rw [List.length_append, List.length_append] at this
        exact List.eq_nil_of_length_eq_zero (by simp only [List.length_nil] at this; omega)
      · rw [e, if_neg (Nat.succ_ne_zero k), baOf_app, baOf_app]
        congr 1
        by_cases h0 : k = 0
        · rw [if_pos h0, if_pos h0, List.map_cons, Lib.join_cons]; simp
        · rw [if_neg h0, if_neg h0, List.map_cons]; simp [Lib.joinTail])
    ⟨#[]⟩ ⟨by omega, [], rfl, by simp, fun _ => rfl, fun h => absurd h (Nat.lt_irrefl 0)⟩
  rw [h, if_pos rfl]
  congr 1
theorem list_loop {U : Type} {F : Nat → List U → Option (Lr (List U) (List U))} (l : List T) (u : T → U)
    (hs : ∀ x k s, k < l.length → el l k = x → x ∈ l → s.length = k → F k s = some (.go (s ++ [u x]))) : eachN F (fun s => s) l.length 0 [] = some (l.map u) := by
  have h := each_run (e := fun s => s) (F := F) l (fun _ k s => s.length = k) (fun r _ s => s ++ r.map u) (fun s _ => by simp)
    (fun x r k s hk hx hl => .inl ⟨_, hs x k s hk hx (hx ▸ el_mem hk) hl, by simp [hl], by simp⟩) [] rfl
  exact h
theorem lens_le {m : Nat} : ∀ {L : List (List UInt8)}, (∀ x ∈ L, x.length ≤ m) → Lib.lens L ≤ m * L.length
  | [], _ => by simp [Lib.lens]
  | x :: L, h => by
    have h1 := lens_le (m := m) fun y hy => h y (List.mem_cons_of_mem _ hy)
    have h2 := h x List.mem_cons_self
    simp only [Lib.lens, List.map_cons, List.sum_cons, List.length_cons, Nat.mul_succ] at h1 ⊢
    omega
theorem join_len {m : Nat} {L : List (List UInt8)} {sep : List UInt8} (hsep : sep.length ≤ 1) (h : ∀ x ∈ L, x.length ≤ m) : (Lib.join L sep).length ≤ (m + 1) * L.length := by
  cases L with
  | nil => simp [Lib.join_nil]
  | cons x r =>
    have h1 := lens_le h
    have h2 : sep.length * r.length ≤ 1 * r.length := Nat.mul_le_mul_right _ hsep
    rw [Lib.join_length, Nat.add_mul]
    simp only [List.length_cons] at h1 ⊢
    omega
theorem toL_baOf (a : List UInt8) : (baOf a).data.toList = a := by simp [baOf]
omit [Inhabited T] in
theorem join_eq (l : List T) (t : T → List UInt8) (sep : List UInt8) (m : Nat) (hsep : sep.length ≤ 1) (ht : ∀ x ∈ l, (t x).length ≤ m) (hl : (m + 1) * l.length ≤ 1099511627776) :
    x_Join (l.map fun x => baOf (t x)) (baOf sep) = some (baOf (Lib.join (l.map t) sep)) := by
  have e : (l.map fun x => baOf (t x)).map (·.data.toList) = l.map t := by rw [List.map_map]; exact List.map_congr_left fun x _ => toL_baOf _
  have h1 := join_len (m := m) (L := l.map t) hsep (fun y hy => by obtain ⟨x, hx, rfl⟩ := List.mem_map.1 hy; exact ht x hx)
  have h2 : 1 * l.length ≤ (m + 1) * l.length := Nat.mul_le_mul_right _ (by omega)
  rw [List.length_map] at h1
  unfold x_Join jn
  rw [e, toL_baOf, xg_of ⟨by rw [List.length_map]; omega, by omega⟩]
  rfl
end
theorem dd_pow : ∀ (k u : Nat), u < 10 ^ (k + 1) → (Lib.decDigits u).length ≤ k + 1
  | 0, u, h => by rw [Lib.decDigits, dif_pos (by simpa using h)]; simp
  | k + 1, u, h => by
    rw [Lib.decDigits]
    split
    · simp
    · have := dd_pow k (u / 10) (by rw [Nat.pow_succ] at h; omega)
      rw [List.length_append, List.length_singleton]
      omega
theorem numT_10 (n : Int) : (numT n).length ≤ 10 := by
  unfold numT
  split
  · exact dd_pow 9 n.toNat (by omega)
  · simp
def dotL (l : List Int) : List UInt8 := Lib.join (l.map numT) [46]
theorem dotL_len (l : List Int) : (dotL l).length ≤ 11 * l.length := by
  have h := join_len (m := 10) (L := l.map numT) (sep := [46]) (Nat.le_refl 1) (fun y hy => by obtain ⟨x, _, rfl⟩ := List.mem_map.1 hy; exact numT_10 x)
  rw [List.length_map] at h
  exact h
theorem i_dotted (l : List Int) (hl : l.length ≤ 1000000) : x_impl_dotted l = some (baOf (dotL l)) := by
  unfold x_impl_dotted
  rw [list_loop l (fun n => baOf (numT n)) (fun x k s hk hx hm hs => by
    unfold x_impl_dotted_f0 x_impl_dotted_b0
    rw [hx, i_NumText, Option.bind_some, xg_of (by omega)]), Option.bind_some]
  have e := join_eq l numT [46] 10 (Nat.le_refl 1) (fun x _ => numT_10 x) (by omega)
  rw [show (⟨#[46]⟩ : ByteArray) = baOf [46] from rfl, e]
  rfl
def signT (l : List Int) : List UInt8 := if l.all okSign then (if l = [] then [45] else dotL l) else []
theorem len0 {T : Type} {l : List T} : ((l.length : Int) = 0) ↔ l = [] := by cases l <;> simp <;> omega
theorem i_SignText (l : List Int) (hl : l.length ≤ 1000000) : x_impl_SignText l = some (baOf (signT l)) := by
  unfold x_impl_SignText signT
  rw [i_SignsOk, Option.bind_some, i_dotted l hl]
  cases l.all okSign with
  | false => rfl
  | true =>
    simp only [len0]
    by_cases h : l = []
    · rw [cd_t h, if_pos h]; rfl
    · rw [cd_f h, if_neg h]; rfl
theorem s_SignText (l : List Int) (hl : l.length ≤ 1000000) : x_spec_SignText l = some (baOf (signT l)) := by
  unfold x_spec_SignText signT
  rw [s_SignsOk, Option.bind_some]
  rw [text_loop l numT [46] 10 (Nat.le_refl 1) (fun x _ => numT_10 x) (fun x k s hk hx hm hs _ hz => by
    unfold x_spec_SignText_f0 x_spec_SignText_b0
    have h10 := numT_10 x
    rw [hx, s_NumText, Option.bind_some, Option.bind_some, show (⟨#[46]⟩ : ByteArray) = baOf [46] from rfl]
    by_cases h : (0 : Int) < (k : Int)
    · rw [cd_t h, if_neg (by omega), xg_of (by rw [baOf_size, baOf_size]; simp only [List.length_singleton]; omega), baOf_app, xg_of (by rw [baOf_size, baOf_size, List.length_append]; simp only [List.length_singleton]; omega), baOf_app, List.append_assoc]
    · rw [cd_f h, if_pos (by omega), xg_of (by rw [baOf_size, baOf_size]; omega), baOf_app]; rfl)]
  cases l.all okSign with
  | false => rfl
  | true =>
    simp only [len0]
    by_cases h : l = []
    · rw [cd_t h, if_pos h]; rfl
    · rw [cd_f h, if_neg h]; rfl
def partT (p : DPart) : List UInt8 := if p.kind = 1 then 107 :: numT p.n else if p.kind = 3 then 100 :: numT p.n else 112 :: dotL p.signs
theorem partT_len {p : DPart} (h : p.signs.length ≤ 200) : (partT p).length ≤ 2201 := by
  have h1 := numT_10 p.n
  have h2 := dotL_len p.signs
  unfold partT
  split
  · rw [List.length_cons]; omega
  · split <;> rw [List.length_cons] <;> omega
theorem partT_ne (p : DPart) : partT p ≠ [] := by
  unfold partT
  split
  · simp
  · split <;> simp
def opT (o : List DPart) : List UInt8 := if okOp o then (if nrm o = [] then [45] else Lib.join ((nrm o).map partT) [32]) else []
theorem nrm_mem {o : List DPart} (h : okOp o = true) : (nrm o).length ≤ 600 ∧ ∀ p ∈ nrm o, p.signs.length ≤ 200 ∧ tight p := by
  have hp := okOp_parts (okOp_nrm h)
  exact ⟨okParts_len hp, fun p hm => ⟨(okPart_len (okParts_mem hp hm)).1, tight_nrm (okParts_signs (okOp_parts h)) p hm⟩⟩
theorem part_lens : ∀ (o : List DPart), Lib.lens (o.map partT) ≤ 12 * o.length + 11 * sumL szDPart o
  | [] => by simp [Lib.lens, sumL]
  | p :: o => by
    have h := part_lens o
    have h1 := numT_10 p.n
    have h2 := dotL_len p.signs
    have h3 : (partT p).length ≤ 12 + 11 * p.signs.length := by
      unfold partT
      split
      · rw [List.length_cons]; omega
      · split <;> rw [List.length_cons] <;> omega
    have h4 := szDPart_eq p
    simp only [Lib.lens, List.map_cons, List.sum_cons, List.length_cons, sumL] at h ⊢
    omega
theorem opT_len (o : List DPart) : (opT o).length ≤ 20000 := by
  unfold opT
  by_cases h : okOp o = true
  · rw [if_pos h]
    have h1 := okOp_sz (okOp_nrm h)
    rw [lenL_eq] at h1
    have h2 := part_lens (nrm o)
    split
    · simp
    · cases hc : nrm o with
      | nil => simp [Lib.join_nil]
      | cons x r =>
        rw [hc] at h1 h2
        rw [List.map_cons] at h2 ⊢
        rw [Lib.join_length]
        simp only [List.length_map, List.length_cons, List.length_nil] at h1 h2 ⊢
        omega
  · rw [if_neg h]; simp
theorem i_OpText (o : List DPart) : x_impl_OpText o = some (baOf (opT o)) := by
  unfold x_impl_OpText opT
  rw [i_OpOk, Option.bind_some, i_OpNorm]
  by_cases h : okOp o = true
  · obtain ⟨h1, h2⟩ := nrm_mem h
    rw [h, Bool.not_true, cond_false, if_pos rfl, Option.bind_some, if_pos rfl]
    rw [list_loop (nrm o) (fun p => baOf (partT p)) (fun x k s hk hx hm hs => by
      unfold x_impl_OpText_f0 x_impl_OpText_b0
      have h10 := numT_10 x.n
      have hsg := (h2 x hm).1
      have hd := dotL_len x.signs
      rw [hx, i_NumText, i_dotted _ (by omega), Option.bind_some, Option.bind_some, Option.bind_some]
      rw [show (⟨#[107]⟩ : ByteArray) = baOf [107] from rfl, show (⟨#[100]⟩ : ByteArray) = baOf [100] from rfl, show (⟨#[112]⟩ : ByteArray) = baOf [112] from rfl]
      unfold partT
      by_cases c1 : x.kind = 1
      · rw [cd_t c1, if_pos c1, xg_of (by rw [baOf_size, baOf_size]; simp only [List.length_singleton]; omega), xg_of (by omega), baOf_app]; rfl
      · rw [cd_f c1, if_neg c1]
        by_cases c3 : x.kind = 3
        · rw [cd_t c3, if_pos c3, xg_of (by rw [baOf_size, baOf_size]; simp only [List.length_singleton]; omega), xg_of (by omega), baOf_app]; rfl
        · rw [cd_f c3, if_neg c3, xg_of (by rw [baOf_size, baOf_size]; simp only [List.length_singleton]; omega), xg_of (by omega), baOf_app]; rfl), Option.bind_some]
    simp only [List.length_map, len0]
    by_cases hn : nrm o = []
    · rw [cd_t hn, if_pos hn]; rfl
    · rw [cd_f hn, if_neg hn]
      have e := join_eq (nrm o) partT [32] 2201 (Nat.le_refl 1) (fun x hx => partT_len (h2 x hx).1) (by omega)
      rw [show (⟨#[32]⟩ : ByteArray) = baOf [32] from rfl, e]
      rfl
  · rw [Bool.not_eq_true] at h; rw [h]; rfl
theorem baOf_nil (s : List UInt8) : (baOf s = (⟨#[]⟩ : ByteArray)) ↔ s = [] := ⟨fun h => by have := congrArg (fun b : ByteArray => b.data.toList) h; simpa [baOf] using this, fun h => by rw [h]; rfl⟩
theorem s_OpText (o : List DPart) : x_spec_OpText o = some (baOf (opT o)) := by
  unfold x_spec_OpText opT
  rw [s_OpOk, Option.bind_some, s_OpNorm]
  by_cases h : okOp o = true
  · obtain ⟨h1, h2⟩ := nrm_mem h
    rw [h, Bool.not_true, cond_false, if_pos rfl, Option.bind_some, if_pos rfl]
    rw [text_loop (nrm o) partT [32] 2201 (Nat.le_refl 1) (fun x hx => partT_len (h2 x hx).1) (fun x k s hk hx hm hs hne hz => by
      unfold x_spec_OpText_f0 x_spec_OpText_b0
      have h10 := numT_10 x.n
      obtain ⟨hsg, ht⟩ := h2 x hm
      have hd := dotL_len x.signs
      have hst : x.kind = 2 → signT x.signs = dotL x.signs := fun h2 => by
        rcases ht with t | t | t
        · omega
        · unfold signT; rw [if_pos t.2.2.2, if_neg t.2.2.1]
        · omega
      have hk3 : x.kind = 1 ∨ x.kind = 2 ∨ x.kind = 3 := by rcases ht with t | t | t <;> simp [t.1]
      rw [hx, s_NumText, s_SignText _ (by omega)]
      rw [show (⟨#[107]⟩ : ByteArray) = baOf [107] from rfl, show (⟨#[100]⟩ : ByteArray) = baOf [100] from rfl, show (⟨#[112]⟩ : ByteArray) = baOf [112] from rfl, show (⟨#[32]⟩ : ByteArray) = baOf [32] from rfl]
      unfold partT
      have e1 : (1 : Int) = 1 := rfl
      by_cases h0 : k = 0
      · have hs0 := hz h0
        subst hs0
        rw [if_pos h0, show (decide (baOf [] = (⟨#[]⟩ : ByteArray))) = true from decide_eq_true rfl]
        simp only [Bool.not_true, cond_false, Option.bind_some]
        rcases hk3 with c | c | c
        · rw [c]
          rw [cd_t rfl, if_pos rfl, xg_of (by simp only [baOf_size, List.length_singleton, List.length_nil]; omega), baOf_app, xg_of (by simp only [baOf_size, List.length_append, List.length_singleton, List.length_nil]; omega), baOf_app]; rfl
        · rw [hst c, c]
          rw [cd_f (by decide), cd_t rfl, if_neg (by decide), if_neg (by decide), xg_of (by simp only [baOf_size, List.length_singleton, List.length_nil]; omega), baOf_app, xg_of (by simp only [baOf_size, List.length_append, List.length_singleton, List.length_nil]; omega), baOf_app]; rfl
        · rw [c]
          rw [cd_f (by decide), cd_f (by decide), if_neg (by decide), if_pos rfl, xg_of (by simp only [baOf_size, List.length_singleton, List.length_nil]; omega), baOf_app, xg_of (by simp only [baOf_size, List.length_append, List.length_singleton, List.length_nil]; omega), baOf_app]; rfl
      · have hsn := hne (by omega) (fun y _ => partT_ne y)
        rw [if_neg h0, decide_eq_false (fun e => hsn ((baOf_nil s).1 e))]
        simp only [Bool.not_false, cond_true, Option.bind_some]
        rw [xg_of (by simp only [baOf_size, List.length_singleton]; omega)]
        simp only [baOf_app]
        rcases hk3 with c | c | c
        · rw [c]
          rw [cd_t rfl, if_pos rfl, xg_of (by simp only [baOf_size, List.length_append, List.length_singleton]; omega), xg_of (by simp only [baOf_size, List.length_append, List.length_singleton]; omega)]; simp
        · rw [hst c, c]
          rw [cd_f (by decide), cd_t rfl, if_neg (by decide), if_neg (by decide), xg_of (by simp only [baOf_size, List.length_append, List.length_singleton]; omega), xg_of (by simp only [baOf_size, List.length_append, List.length_singleton]; omega)]; simp
        · rw [c]
          rw [cd_f (by decide), cd_f (by decide), if_neg (by decide), if_pos rfl, xg_of (by simp only [baOf_size, List.length_append, List.length_singleton]; omega), xg_of (by simp only [baOf_size, List.length_append, List.length_singleton]; omega)]; simp), Option.bind_some]
    by_cases hn : nrm o = []
    · rw [if_pos hn, hn]; rfl
    · rw [if_neg hn]
      have hj : Lib.join ((nrm o).map partT) [32] ≠ [] := by
        cases hc : nrm o with
        | nil => exact absurd hc hn
        | cons x r =>
          rw [List.map_cons, Lib.join_cons]
          intro h0
          exact partT_ne x (List.append_eq_nil_iff.1 h0).1
      rw [decide_eq_false (fun e => hj ((baOf_nil _).1 e))]
      rfl
  · rw [Bool.not_eq_true] at h; rw [h]; rfl
def c32 (x : UInt8) : UInt8 := if x = 32 then 44 else x
def wordT (o : List DPart) : List UInt8 := (opT o).map c32
theorem repl_byte (a b : UInt8) : ∀ (s : List UInt8), Lib.replaceK [a] [b] (Lib.count s [a]) s = s.map fun x => if x = a then b else x
  | [] => rfl
  | x :: l => by
    have ih := repl_byte a b l
    have hne : ([a] : List UInt8) ≠ [] := by simp
    rw [List.map_cons, ← ih]
    by_cases hx : x = a
    · subst hx
      have h0 : Lib.index (x :: l) [x] = ((0 : Nat) : Int) := by unfold Lib.index; simp [List.isPrefixOf]
      rw [if_pos rfl, Lib.count_hit hne h0, Nat.add_comm, Lib.replaceK_hit _ _ _ _ _ h0]
      rfl
    · have hp : ([a] : List UInt8).isPrefixOf (x :: l) = false := by simp [List.isPrefixOf]; exact fun h => hx h.symm
      rw [if_neg hx]
      by_cases hi : Lib.index l [a] = -1
      · have h0 : Lib.index (x :: l) [a] = -1 := by unfold Lib.index; rw [hp, hi]; rfl
        rw [Lib.count_miss h0, Lib.count_miss hi]; rfl
      · have hge := Lib.index_ge l [a]
        obtain ⟨i, hI⟩ : ∃ i : Nat, Lib.index l [a] = i := ⟨(Lib.index l [a]).toNat, by omega⟩
        have h0 : Lib.index (x :: l) [a] = ((i + 1 : Nat) : Int) := by
          unfold Lib.index
          rw [hp, hI]
          have : ((i : Int) == -1) = false := by rw [beq_eq_false_iff_ne]; omega
          rw [this]
          simp
        rw [Lib.count_hit hne h0, Lib.count_hit hne hI, Nat.add_comm 1, Nat.add_comm 1, Lib.replaceK_hit _ _ _ _ _ h0, Lib.replaceK_hit _ _ _ _ _ hI]
        rw [show i + 1 + ([a] : List UInt8).length = (i + ([a] : List UInt8).length) + 1 from by simp, List.drop_succ_cons, List.take_succ_cons]
        rfl
theorem repl_all (s : List UInt8) : Lib.replaceAll s [32] [44] = s.map c32 := by
  unfold Lib.replaceAll Lib.replace Lib.replaceNum
  rw [if_neg (by decide), if_pos (Or.inl (by decide)), repl_byte]
  rfl
theorem i_opWord (o : List DPart) : x_impl_opWord o = some (baOf (wordT o)) := by
  unfold x_impl_opWord
  have hl := opT_len o
  have hc := Lib.countB_le (baOf [32]) (Nat.le_refl 1) (baOf (opT o)).size (baOf (opT o)) (Nat.le_refl _)
  rw [baOf_size] at hc
  rw [i_OpText, Option.bind_some, show (⟨#[32]⟩ : ByteArray) = baOf [32] from rfl, show (⟨#[44]⟩ : ByteArray) = baOf [44] from rfl]
  unfold x_ReplaceAll rpl
  rw [xg_of ⟨by rw [baOf_size]; omega, Nat.le_refl 1, by rw [baOf_size, show (baOf [44]).size = 1 from rfl]; omega⟩, toL_baOf, toL_baOf, toL_baOf, repl_all]
  rfl
theorem s_l19Op (o : List DPart) : x_spec_l19Op o = some (baOf (wordT o)) := by
  unfold x_spec_l19Op
  have hl := opT_len o
  rw [s_OpText, Option.bind_some, xg_of (by rw [baOf_size]; omega), toL_baOf]
  have h := each_run (e := fun s => s) (F := x_spec_l19Op_f0) (opT o) (fun r k s => s = ((opT o).take k).map c32 ++ r ∧ (opT o).drop k = r) (fun _ _ _ => (opT o).map c32)
    (fun s ⟨h, _⟩ => by rw [h, List.take_length, List.append_nil])
    (fun x r k s hk hx ⟨hs, hd⟩ => by
      have hlen : (((opT o).take k).map c32).length = k := by rw [List.length_map, List.length_take]; omega
      have hel : el s k = x := by rw [hs]; have := el_mid (((opT o).take k).map c32) x r; rw [hlen] at this; exact this
      have hsl : k < s.length := by rw [hs, List.length_append, hlen, List.length_cons]; omega
      have htk : ((opT o).take (k + 1)).map c32 = ((opT o).take k).map c32 ++ [c32 x] := by
        rw [List.take_add_one, List.map_append, List.getElem?_eq_getElem hk, ← el_eq hk, hx]; rfl
      have hdr : (opT o).drop (k + 1) = r := by rw [← List.drop_drop, hd]; rfl
      refine .inl ⟨((opT o).take (k + 1)).map c32 ++ r, ?_, ⟨rfl, hdr⟩, rfl⟩
      unfold x_spec_l19Op_f0 x_spec_l19Op_b0
      rw [xg_of ⟨by omega, by omega⟩, hel, htk]
      by_cases h32 : x = 32
      · rw [h32, cd_t (by decide), xg_of ⟨by omega, by omega⟩, xg_of ⟨by omega, by omega⟩, hs, List.set_append_right _ _ (by omega), hlen, Nat.sub_self, List.set_cons_zero, List.append_assoc]; rfl
      · rw [cd_f (fun e => h32 (UInt8.toNat_inj.1 (by show x.toNat = 32; omega))), hs, List.append_assoc]
        unfold c32
        rw [if_neg h32]; rfl)
    (opT o) ⟨by simp, rfl⟩
  rw [h]
  rfl
end Go.Proofs.YtjbonmmmcnpjiaaGreatDoor
