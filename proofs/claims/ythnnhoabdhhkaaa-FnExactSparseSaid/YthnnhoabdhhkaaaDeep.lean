/- Lists whose elements hold lists: parts. No condition. -/
import Derived.Test.YthnnhoabdhhkaaaVlJ
import Derived.Test.YthnnhoabdhhkaaaMathB
import Derived.Test.YthnnhoabdhhkaaaMathM
import Derived.Test.YthnnhoabdhhkaaaMathP
namespace Go.Proofs.Ythnnhoabdhhkaaa
open Go.RowKit

structure PV where
  kind : Int
  n : Int
  sv : Sv
  sl : List Int
def pv0 : PV := ⟨0, 0, ⟨none, 0, 0⟩, []⟩
def PV.a (p : PV) : Pt := ⟨p.kind, p.n, p.sl⟩
def fP (p : PV) : List Value := [.int .i64 p.kind, .int .i64 p.n, p.sv.v]
def iP (p : PV) : List (List Value × D) := [([p.sv.v], dFs 1 fI p.sl)]
/-- What a list of parts says. -/
def pa (l : List PV) : List Pt := l.map PV.a

theorem pa_len (l : List PV) : (pa l).length = l.length := List.length_map ..
theorem pa_get (l : List PV) (i : Nat) : (pa l).getD i pv0.a = (l.getD i pv0).a := by
  unfold pa
  simp only [List.getD_eq_getElem?_getD, List.getElem?_map]
  cases l[i]? <;> rfl
theorem pa_take (l : List PV) (i : Nat) : pa (l.take i) = (pa l).take i := by unfold pa; rw [List.map_take]
theorem pa_mem {l : List PV} {i : Nat} (h : i < l.length) : (l.getD i pv0).a ∈ pa l := List.mem_map.2 ⟨_, mem_getD h, rfl⟩
theorem pa_sum (g : Pt → Int) (l : List PV) (i : Nat) (h : i < l.length) : sumBy g (pa (l.take (i + 1))) = sumBy g (pa (l.take i)) + g (l.getD i pv0).a := by
  rw [pa_take, pa_take, sumBy_take g (pa l) i pv0.a (by rw [pa_len]; exact h), pa_get]

theorem parts_step {o : List PV} {k : Nat} (hk : k < o.length) (h : (pa (o.take k)).all partOk = true) (hp : partOk (o.getD k pv0).a = true) : (pa (o.take (k + 1))).all partOk = true := by
  rw [pa_take, all_take _ _ _ pv0.a (by rw [pa_len]; exact hk), ← pa_take, h, pa_get, hp]; rfl
theorem parts_no {o : List PV} {k : Nat} (hk : k < o.length) (hp : partOk (o.getD k pv0).a = false) : partsOk (pa o) = false := by
  unfold partsOk
  rw [all_false (pa o) k pv0.a partOk (by rw [pa_len]; exact hk) (by rw [pa_get]; exact hp)]; rfl
theorem parts_end {o : List PV} {k : Nat} (hk : o.length ≤ k) (h : (pa (o.take k)).all partOk = true) : partsOk (pa o) = decide ((o.length : Int) ≤ 600) := by
  rw [List.take_of_length_le hk] at h
  unfold partsOk
  rw [h, pa_len]; rfl
theorem sz_yes {o : List PV} {g : Pt → Int} {k : Nat} (h : partsOk (pa o) = true) (hk : o.length ≤ k) : sumBy g (pa (o.take k)) = if partsOk (pa o) then sumBy g (pa o) else 0 := by
  rw [List.take_of_length_le hk, h]; rfl
theorem szk_yes {o : List PV} {g : Pt → Int} {k : Nat} (h : opOk (pa o) = true) (hk : o.length ≤ k) : sumBy g (pa (o.take k)) = if opOk (pa o) then sumBy g (pa o) else 0 := by
  rw [List.take_of_length_le hk, h]; rfl

theorem pa_full {o : List PV} {k : Nat} (hk : o.length ≤ k) : pa (o.take k) = pa o := by rw [List.take_of_length_le hk]
theorem pa_set_step {L a : List PV} {k : Nat} {y : PV} (hl : L.length = a.length) (hk : k < a.length) (h : pa (L.take k) = pa (a.take k)) (hy : y.a = (a.getD k pv0).a) : pa ((L.set k y).take (k + 1)) = pa (a.take (k + 1)) := by
  rw [take_snoc _ k pv0 (by rw [List.length_set]; omega), take_snoc a k pv0 hk, List.take_set_of_le (Nat.le_refl _)]
  unfold pa at h ⊢
  rw [List.map_append, List.map_append, h]
  congr 1
  simp only [List.map_cons, List.map_nil]
  rw [List.getD_eq_getElem?_getD, List.getElem?_set_self (by omega), Option.getD_some, hy]
theorem pa_eq_step {a b : List PV} {k : Nat} (ha : k < a.length) (hb : k < b.length) (h : pa (a.take k) = pa (b.take k)) (he : (a.getD k pv0).a = (b.getD k pv0).a) : pa (a.take (k + 1)) = pa (b.take (k + 1)) := by
  rw [take_snoc a k pv0 ha, take_snoc b k pv0 hb]
  unfold pa at h ⊢
  rw [List.map_append, List.map_append, h]
  exact congrArg (fun x => _ ++ [x]) he
theorem pa_ne_len {a b : List PV} (h : ¬ (a.length : Int) = (b.length : Int)) : false = decide (pa a = pa b) := (decide_eq_false fun e => h (by rw [← pa_len a, ← pa_len b, e])).symm
theorem pa_ne_get {a b : List PV} {k : Nat} (h : ¬ (a.getD k pv0).a = (b.getD k pv0).a) : false = decide (pa a = pa b) := (decide_eq_false fun e => h (by rw [← pa_get, ← pa_get, e])).symm
theorem pa_eq_end {a b : List PV} {k : Nat} (ha : a.length ≤ k) (hb : b.length ≤ k) (h : pa (a.take k) = pa (b.take k)) : true = decide (pa a = pa b) := by
  rw [pa_full ha, pa_full hb] at h
  exact (decide_eq_true h).symm
theorem ptEq_1 {a b : PV} (h : ¬ a.kind = b.kind) : false = decide (a.a = b.a) := (decide_eq_false fun e => h (Pt.eq_iff.1 e).1).symm
theorem ptEq_2 {a b : PV} (h : ¬ a.n = b.n) : false = decide (a.a = b.a) := (decide_eq_false fun e => h (Pt.eq_iff.1 e).2.1).symm
theorem ptEq_3 {a b : PV} (h : ¬ a.sl = b.sl) : false = decide (a.a = b.a) := (decide_eq_false fun e => h (Pt.eq_iff.1 e).2.2).symm
theorem ptEq_y {a b : PV} (h1 : a.kind = b.kind) (h2 : a.n = b.n) (h3 : a.sl = b.sl) : true = decide (a.a = b.a) := (decide_eq_true (Pt.eq_iff.2 ⟨h1, h2, h3⟩)).symm
theorem all_step {T : Type} {p : T → Prop} {a : List T} {k : Nat} (d0 : T) (hk : k < a.length) (h : ∀ x ∈ a.take k, p x) (hp : p (a.getD k d0)) : ∀ x ∈ a.take (k + 1), p x := by
  rw [take_snoc a k d0 hk]
  intro x hx
  rcases List.mem_append.1 hx with hx | hx
  · exact h x hx
  · rw [List.mem_singleton.1 hx]; exact hp
theorem all_full {T : Type} {p : T → Prop} {a : List T} {k : Nat} (hk : a.length ≤ k) (h : ∀ x ∈ a.take k, p x) : ∀ x ∈ a, p x := by
  rwa [List.take_of_length_le hk] at h

end Go.Proofs.Ythnnhoabdhhkaaa
