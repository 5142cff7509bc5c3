/- The verification layer, part H: an argument that can be read as data is a datum of the layer. No condition. -/
import Derived.Test.YthnnhoabdhhkaaaVlG
import Derived.ChangeArms
import Derived.ProofKit
namespace Go.Proofs.Ythnnhoabdhhkaaa
open Go.RowKit

/-- Whatever reads as data of type t reads as a 'dT y'. -/
def Opens (P : Program) (t : TypeId) {T : Type} (dT : T → D) (k : Nat) : Prop :=
  ∀ {H : Type} (enc : TypeId × Value → H) (w : World) (base : Nat) (spare : Nat → Bool) (held : Bool) (fuel : Nat) (cs : List Value) (x : DataW H × List MemPlace),
    DataW.trod enc P w base spare held fuel t cs = some x → cs.length = k ∧ ∃ y : T, (dT y).rd (fun b => b < w.heap.size) w cs

theorem opens_int {P : Program} {t : TypeId} (ht : P.underlying t = some (.int .i64)) : Opens P t (fun n : Int => dFl (fI n)) 1 := fun enc w base spare held fuel cs x h => by
  obtain ⟨n, rfl, _⟩ := DataW.trod_int ht h
  exact ⟨rfl, n, rfl⟩

theorem opens_bool {P : Program} {t : TypeId} (ht : P.underlying t = some .bool) : Opens P t (fun b : Bool => dFl [.bool b]) 1 := fun enc w base spare held fuel cs x h => by
  obtain ⟨b, rfl, _⟩ := DataW.trod_bool ht h
  exact ⟨rfl, b, rfl⟩

theorem opens_str {P : Program} {t : TypeId} (ht : P.underlying t = some .string) : Opens P t (fun s : ByteArray => dFl [.string s]) 1 := fun enc w base spare held fuel cs x h => by
  obtain ⟨s, rfl, _⟩ := DataW.trod_string ht h
  exact ⟨rfl, s, rfl⟩

theorem cells?_get {w : World} {base : Nat} {a : Addr} : ∀ {n : Nat} {cs : List Value}, w.cells? base a n = some cs → cs.length = n ∧ ∀ j u, cs[j]? = some u → w.cell? (a.add j) = some u := by
  intro n cs h
  unfold World.cells? at h
  split at h
  · have key : ∀ (l : List Nat) (cs : List Value), l.mapM (fun i => w.cell? (a.add i)) = some cs → cs.length = l.length ∧ ∀ (j : Nat) u, cs[j]? = some u → ∃ i, l[j]? = some i ∧ w.cell? (a.add i) = some u := by
      intro l
      induction l with
      | nil => intro cs h; simp at h; subst h; simp
      | cons i l ih =>
        intro cs h
        simp only [List.mapM_cons, bind, Option.bind_eq_some_iff] at h
        obtain ⟨u, hu, vs, hvs, hc⟩ := h
        simp only [pure, Option.some.injEq] at hc
        subst hc
        have h1 := ih vs hvs
        refine ⟨by simp [h1.1], fun j v hj => ?_⟩
        cases j with
        | zero => simp at hj; subst hj; exact ⟨i, rfl, hu⟩
        | succ j => simpa using h1.2 j v (by simpa using hj)
    have h1 := key _ _ h
    refine ⟨by simpa using h1.1, fun j u hj => ?_⟩
    obtain ⟨i, hi, hc⟩ := h1.2 j u hj
    have hlt := (List.getElem?_eq_some_iff.1 hi).1
    have : i = j := by
      have := (List.getElem?_eq_some_iff.1 hi).2
      simpa using this.symm
    subst this
    exact hc
  · cases h

theorem opens_slice {P : Program} {t e : TypeId} {T : Type} {dT : T → D} {k : Nat} (ht : P.underlying t = some (.slice e)) (hk : P.cellsOf e = k) (h0 : 0 < k) (he : Opens P e dT k) : Opens P t (fun l : List T => dSl k (l.map dT)) 1 := by
  intro H enc w base spare held fuel cs x h
  rcases DataW.trod_slice ht h with ⟨rfl, _⟩ | ⟨a, len, cap, elems, rest, n, _, rfl, _, hb, hl, hm, hlen, hel, _, _⟩
  · exact ⟨rfl, [], none, 0, rfl, Nat.le_refl _, by simp [maxLen], fun hne => absurd rfl hne⟩
  · refine ⟨rfl, ?_⟩
    have each : ∀ i, i < len → ∃ (y : T) (ci : List Value), w.cells? base (a.add (i * k)) k = some ci ∧ ci.length = k ∧ (dT y).rd (fun b => b < w.heap.size) w ci := by
      intro i hi
      have h1 := hel i hi
      rw [hk, List.getElem?_eq_getElem (by omega)] at h1
      obtain ⟨ci, hc, htr⟩ := Option.bind_eq_some_iff.1 h1
      obtain ⟨hlc, y, hy⟩ := he enc w base spare held n ci _ htr
      exact ⟨y, ci, hc, hlc, hy⟩
    have hspot : 0 < len → a.spot = none ∧ a.block < w.heap.size := fun hpos => by
      obtain ⟨y, ci, hc, hlc, _⟩ := each 0 hpos
      have h2 := (cells?_get hc).2 0 ci[0] (List.getElem?_eq_getElem (by omega))
      simp only [Nat.zero_mul] at h2
      have e0 : (a.add 0).add 0 = a := by simp [Addr.add]
      rw [e0] at h2
      refine ⟨World.cell?_spot h2, World.block_lt_of_cell? w a h2⟩
    have build : ∀ m, m ≤ len → ∃ (l : List T) (es : List Value), l.length = m ∧ rdE k (fun b => b < w.heap.size) w (l.map dT) es ∧ ∀ j u, es[j]? = some u → w.cell? ⟨a.block, a.off + j, none⟩ = some u := by
      intro m
      induction m with
      | zero => intro _; exact ⟨[], [], rfl, rfl, fun j u hj => by simp at hj⟩
      | succ m ih =>
        intro hm'
        obtain ⟨l, es, hll, hrd, hc⟩ := ih (by omega)
        obtain ⟨y, ci, hci, hlc, hy⟩ := each m (by omega)
        have hes : es.length = m * k := by rw [rdE_length hrd, List.length_map, hll]
        refine ⟨l ++ [y], es ++ ci, by simp [hll], ?_, fun j u hj => ?_⟩
        · rw [List.map_append]
          exact rdE_append hrd ⟨ci, [], by simp, hlc, hy, rfl⟩
        · by_cases hj' : j < es.length
          · rw [List.getElem?_append_left hj'] at hj
            exact hc j u hj
          · rw [List.getElem?_append_right (by omega)] at hj
            have h2 := (cells?_get hci).2 (j - es.length) u hj
            have hsp := (hspot (by omega)).1
            obtain ⟨b, o, sp⟩ := a
            simp only at hsp
            subst hsp
            rw [Addr.add_lit, Addr.add_lit] at h2
            rw [show o + j = o + m * k + (j - es.length) by omega]
            exact h2
    obtain ⟨l, es, hll, hrd, hc⟩ := build len (Nat.le_refl _)
    refine ⟨l, some a, cap, by rw [List.length_map, hll], by rw [List.length_map, hll]; exact hl, hm, fun hne => ?_⟩
    have hpos : 0 < len := by
      rcases Nat.eq_zero_or_pos len with h | h
      · subst h; rw [List.eq_nil_of_length_eq_zero hll] at hne; exact absurd rfl hne
      · exact h
    obtain ⟨hs1, hs2⟩ := hspot hpos
    obtain ⟨b, o, sp⟩ := a
    simp only at hs1 hs2
    subst hs1
    exact ⟨b, o, es, rfl, hs2, hc, hrd⟩

theorem opens_ints {P : Program} {t e : TypeId} (ht : P.underlying t = some (.slice e)) (he : P.underlying e = some (.int .i64)) (hk : P.cellsOf e = 1) : Opens P t (fun l : List Int => dFs 1 fI l) 1 :=
  opens_slice ht hk (by decide) (opens_int he)

/-- A struct of three integers. -/
theorem opens_int3 {P : Program} {t : TypeId} {T : Type} {f : T → List Value} {f0 f1 f2 : Field} (mk : Int → Int → Int → T) (hmk : ∀ a b c, f (mk a b c) = [.int .i64 a, .int .i64 b, .int .i64 c]) (ht : P.underlying t = some (.struct #[f0, f1, f2])) (hc : P.cellsOf t = 3)
    (o0 : f0.offset = 0) (o1 : f1.offset = 1) (o2 : f2.offset = 2) (t0 : P.underlying f0.type = some (.int .i64)) (t1 : P.underlying f1.type = some (.int .i64)) (t2 : P.underlying f2.type = some (.int .i64))
    (c0 : P.cellsOf f0.type = 1) (c1 : P.cellsOf f1.type = 1) (c2 : P.cellsOf f2.type = 1) : Opens P t (fun y : T => dFl (f y)) 3 := by
  intro H enc w base spare held fuel cs x h
  obtain ⟨xs, n, _, _, hl, hlen, hf⟩ := DataW.trod_struct ht h
  rw [hc] at hl
  match cs, hl with
  | [v0, v1, v2], _ =>
    refine ⟨rfl, ?_⟩
    have g0 := hf 0 f0 rfl
    have g1 := hf 1 f1 rfl
    have g2 := hf 2 f2 rfl
    have hl3 : xs.length = 3 := hlen
    rw [List.getElem?_eq_getElem (by omega)] at g0 g1 g2
    obtain ⟨a, e0, _⟩ := DataW.trod_int t0 g0
    obtain ⟨b, e1, _⟩ := DataW.trod_int t1 g1
    obtain ⟨c, e2, _⟩ := DataW.trod_int t2 g2
    rw [o0, c0] at e0; rw [o1, c1] at e1; rw [o2, c2] at e2
    simp at e0 e1 e2
    subst e0; subst e1; subst e2
    exact ⟨mk a b c, (hmk a b c).symm⟩

end Go.Proofs.Ythnnhoabdhhkaaa
