/- An argument that can be read as data is a datum of the second layer. No condition. -/
import Derived.Test.YtjbonmmmcnpjiaaGreatDoorMl
import Derived.Test.YtjbonmmmcnpjiaaGreatDoorNo
import Derived.ChangeArms
import Derived.ProofKit
namespace Go.Proofs.YtjbonmmmcnpjiaaGreatDoor
open Go.RowKit

/-- Whatever reads as data of type t reads as an 'f y' that is small. -/
def Opens (P : Program) (t : TypeId) {T : Type} (f : T → List Ce) (p : T → Prop) (k : Nat) : Prop :=
  ∀ {H : Type} (enc : TypeId × Value → H) (w : World) (base : Nat) (spare : Nat → Bool) (held : Bool) (fuel : Nat) (cs : List Value) (x : DataW H × List MemPlace),
    DataW.trod enc P w base spare held fuel t cs = some x → cs.length = k ∧ ∃ y : T, p y ∧ rdAll (al w) w (f y) cs

theorem rd_fld {S : Bs} {w : World} {cs : List Value} {o c : Nat} {ds es : List Ce} (h1 : rdAll S w ds ((cs.drop o).take c)) (h2 : rdAll S w es (cs.drop (o + c))) : rdAll S w (ds ++ es) (cs.drop o) := by
  have h := rdAll_append h1 h2
  rw [← List.drop_drop, List.take_append_drop] at h
  exact h
theorem rd_fin {S : Bs} {w : World} {cs : List Value} {o : Nat} (h : cs.length ≤ o) : rdAll S w [] (cs.drop o) := List.drop_eq_nil_of_le h

theorem opens_int {P : Program} {t : TypeId} (ht : P.underlying t = some (.int .i64)) : Opens P t (fun n : Int => [cI n]) wfI 1 := fun enc w base spare held fuel cs x h => by
  obtain ⟨n, rfl, _, hw⟩ := DataW.trod_int ht h
  refine ⟨rfl, n, ?_, ⟨_, _, rfl, rfl, rfl⟩⟩
  have h1 : IntKind.i64.min = -9223372036854775808 := rfl
  have h2 : IntKind.i64.max = 9223372036854775807 := rfl
  have hr : -9223372036854775808 ≤ n ∧ n ≤ 9223372036854775807 := by simpa [Lit.wf, h1, h2] using hw
  exact hr

theorem opens_bool {P : Program} {t : TypeId} (ht : P.underlying t = some .bool) : Opens P t (fun n : Bool => [cB n]) wfB 1 := fun enc w base spare held fuel cs x h => by
  obtain ⟨b, rfl, _⟩ := DataW.trod_bool ht h
  exact ⟨rfl, b, trivial, ⟨_, _, rfl, rfl, rfl⟩⟩

theorem opens_str {P : Program} {t : TypeId} (ht : P.underlying t = some .string) : Opens P t (fun s : ByteArray => [cT s]) wfT 1 := fun enc w base spare held fuel cs x h => by
  obtain ⟨s, rfl, _, hs⟩ := DataW.trod_string ht h
  simp only [maxLen] at hs
  exact ⟨rfl, s, hs, ⟨_, _, rfl, rfl, rfl⟩⟩

theorem opens_u8 {P : Program} {t : TypeId} (ht : P.underlying t = some (.int .u8)) : Opens P t (fun n : UInt8 => [cY n]) wfY 1 := fun enc w base spare held fuel cs x h => by
  obtain ⟨n, rfl, _, hw⟩ := DataW.trod_int ht h
  have h1 : IntKind.u8.min = 0 := rfl
  have h2 : IntKind.u8.max = 255 := rfl
  have hr : 0 ≤ n ∧ n ≤ 255 := by simpa [Lit.wf, h1, h2] using hw
  refine ⟨rfl, UInt8.ofNat n.toNat, trivial, ⟨_, _, rfl, ?_, rfl⟩⟩
  show Value.int .u8 n = _
  have : (UInt8.ofNat n.toNat).toNat = n.toNat := by
    rw [UInt8.toNat_ofNat', Nat.mod_eq_of_lt (by omega)]
  rw [this, Int.toNat_of_nonneg hr.1]
theorem cells?_get {w : World} {base : Nat} {a : Addr} : ∀ {n : Nat} {cs : List Value}, w.cells? base a n = some cs → cs.length = n ∧ ∀ j u, cs[j]? = some u → w.cell? (a.add j) = some u := by
  intro n cs h
  unfold World.cells? at h
  split at h
  · have key : ∀ (l : List Nat) (cs : List Value), l.mapM (fun i => w.cell? (a.add i)) = some cs → cs.length = l.length ∧ ∀ (j : Nat) u, cs[j]? = some u → ∃ i, l[j]? = some i ∧ w.cell? (a.add i) = some u := by
      intro l
      induction l with
      | nil => intro cs h; simp at h; subst h; simp
      | cons i l ih =>
        intro cs h
        simp only [List.mapM_cons, bind, Option.bind_eq_some_iff] at h
        obtain ⟨u, hu, vs, hvs, hc⟩ := h
        simp only [pure, Option.some.injEq] at hc
        subst hc
        have h1 := ih vs hvs
        refine ⟨by simp [h1.1], fun j v hj => ?_⟩
        cases j with
        | zero => simp at hj; subst hj; exact ⟨i, rfl, hu⟩
        | succ j => simpa using h1.2 j v (by simpa using hj)
    have h1 := key _ _ h
    refine ⟨by simpa using h1.1, fun j u hj => ?_⟩
    obtain ⟨i, hi, hc⟩ := h1.2 j u hj
    have hlt := (List.getElem?_eq_some_iff.1 hi).1
    have : i = j := by
      have := (List.getElem?_eq_some_iff.1 hi).2
      simpa using this.symm
    subst this
    exact hc
  · cases h

theorem opens_slice {P : Program} {t e : TypeId} {T : Type} {f : T → List Ce} {p : T → Prop} {k : Nat} (ht : P.underlying t = some (.slice e)) (hk : P.cellsOf e = k) (h0 : 0 < k) (he : Opens P e f p k) : Opens P t (fun l : List T => [cSl k f l]) (wfL p) 1 := by
  intro H enc w base spare held fuel cs x h
  rcases DataW.trod_slice ht h with ⟨rfl, _⟩ | ⟨a, len, cap, elems, rest, n, _, rfl, _, hb, hl, hm, hlen, hel, _, _⟩
  · exact ⟨rfl, [], ⟨by simp, fun _ h => by cases h⟩, ⟨_, _, rfl, ⟨none, 0, rfl, Nat.le_refl _, by simp [maxLen], fun hne => absurd rfl hne⟩, rfl⟩⟩
  · refine ⟨rfl, ?_⟩
    have each : ∀ i, i < len → ∃ (y : T) (ci : List Value), w.cells? base (a.add (i * k)) k = some ci ∧ ci.length = k ∧ p y ∧ rdAll (al w) w (f y) ci := by
      intro i hi
      have h1 := hel i hi
      rw [hk, List.getElem?_eq_getElem (by omega)] at h1
      obtain ⟨ci, hc, htr⟩ := Option.bind_eq_some_iff.1 h1
      obtain ⟨hlc, y, hy⟩ := he enc w base spare held n ci _ htr
      exact ⟨y, ci, hc, hlc, hy⟩
    have hspot : 0 < len → a.spot = none ∧ a.block < w.heap.size := fun hpos => by
      obtain ⟨y, ci, hc, hlc, _⟩ := each 0 hpos
      have h2 := (cells?_get hc).2 0 ci[0] (List.getElem?_eq_getElem (by omega))
      simp only [Nat.zero_mul] at h2
      have e0 : (a.add 0).add 0 = a := by simp [Addr.add]
      rw [e0] at h2
      refine ⟨World.cell?_spot h2, World.block_lt_of_cell? w a h2⟩
    have build : ∀ m, m ≤ len → ∃ (l : List T) (es : List Value), l.length = m ∧ (∀ y ∈ l, p y) ∧ es.length = m * k ∧ rdAll (al w) w (l.flatMap f) es ∧ ∀ j u, es[j]? = some u → w.cell? ⟨a.block, a.off + j, none⟩ = some u := by
      intro m
      induction m with
      | zero => intro _; exact ⟨[], [], rfl, (fun _ h => by cases h), by simp, rfl, fun j u hj => by simp at hj⟩
      | succ m ih =>
        intro hm'
        obtain ⟨l, es, hll, hpl, hes, hrd, hc⟩ := ih (by omega)
        obtain ⟨y, ci, hci, hlc, hpy, hy⟩ := each m (by omega)
        refine ⟨l ++ [y], es ++ ci, by simp [hll], fun z hz => ?_, by rw [List.length_append, hes, hlc, Nat.add_mul, Nat.one_mul], ?_, fun j u hj => ?_⟩
        · rcases List.mem_append.1 hz with hz | hz
          · exact hpl z hz
          · rw [List.mem_singleton.1 hz]; exact hpy
        · rw [List.flatMap_append]
          refine rdAll_append hrd ?_
          simpa using hy
        · by_cases hj' : j < es.length
          · rw [List.getElem?_append_left hj'] at hj
            exact hc j u hj
          · rw [List.getElem?_append_right (by omega)] at hj
            have h2 := (cells?_get hci).2 (j - es.length) u hj
            have hsp := (hspot (by omega)).1
            obtain ⟨b, o, sp⟩ := a
            simp only at hsp
            subst hsp
            rw [Addr.add_lit, Addr.add_lit] at h2
            rw [show o + j = o + m * k + (j - es.length) by omega]
            exact h2
    obtain ⟨l, es, hll, hpl, hes, hrd, hc⟩ := build len (Nat.le_refl _)
    refine ⟨l, ⟨by rw [hll]; simp only [maxLen] at hm; omega, hpl⟩, ⟨_, _, rfl, ⟨some a, cap, by rw [hll], by rw [hll]; exact hl, hm, fun hne => ?_⟩, rfl⟩⟩
    have hpos : 0 < len := by
      rcases Nat.eq_zero_or_pos len with h | h
      · subst h; rw [List.eq_nil_of_length_eq_zero hll] at hne; exact absurd rfl hne
      · exact h
    obtain ⟨hs1, hs2⟩ := hspot hpos
    obtain ⟨b, o, sp⟩ := a
    simp only at hs1 hs2
    subst hs1
    exact ⟨b, o, es, rfl, fun _ _ => hs2, by rw [hll]; exact hes, hc, hrd⟩

theorem rd_sv {k : Nat} {T : Type} {f : T → List Ce} {L : List T} {S : Bs} {w : World} {v : Value} (h : (cSl k f L).rd S w v) : ∃ s : Sv, v = s.v := by
  obtain ⟨a, cap, e, _⟩ := h
  exact ⟨⟨a, L.length, cap⟩, e⟩
end Go.Proofs.YtjbonmmmcnpjiaaGreatDoor
