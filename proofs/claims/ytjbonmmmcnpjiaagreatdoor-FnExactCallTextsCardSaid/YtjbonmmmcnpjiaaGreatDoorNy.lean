/- Two functions of the library: texts joined; all places replaced. No condition. -/
import Derived.Test.YtjbonmmmcnpjiaaGreatDoorNw
import Derived.Test.YtjbonmmmcnpjiaaGreatDoorTy3
import Derived.Test.YtjbonmmmcnpjiaaGreatDoorSh
namespace Go.Proofs.YtjbonmmmcnpjiaaGreatDoor
open Go.RowKit
theorem rd_texts {S : Bs} {w : World} : ∀ (L : List ByteArray) (xs : List Value), rdAll S w (L.flatMap fT) xs → xs = L.map fun y => Value.string y
  | [], xs, h => h
  | y :: L, xs, h => by
    obtain ⟨v, r, e, h1, h2⟩ := h
    rw [e, rd_texts L r h2, h1]; rfl
def jn (l : List ByteArray) (sep : ByteArray) : ByteArray := ⟨(Lib.join (l.map (·.data.toList)) sep.data.toList).toArray⟩
noncomputable def x_Join (l : List ByteArray) (sep : ByteArray) : Option ByteArray := xg (l.length ≤ 1099511627776 ∧ (Lib.join (l.map (·.data.toList)) sep.data.toList).length ≤ 140737488355328) <| some (jn l sep)
theorem ct_Join (w : World) (X S : Bs) (l : List ByteArray) (s_l : Sv) (sep : ByteArray) (hS : SX X S w) (a_l : (cSl 1 fT l).rd S w s_l.v) (oL : Sep [] X w) {r : ByteArray} (hx : x_Join l sep = some r) :
    Ret Tryz.prog 170 [s_l.v, (.string sep)] w (KV X S w (.string r)) := by
  unfold x_Join at hx
  obtain ⟨hg, hx⟩ := xg_some hx
  obtain rfl := Option.some.inj hx
  have key : Calls Tryz.prog 170 #[s_l.v, .string sep] w fun e w' => e = .returned (.string (jn l sep)) ∧ Rel w w' := by
    obtain ⟨a, cap, e, h1, h2, h3⟩ := a_l
    rw [e]
    cases l with
    | nil => exact (Tryz.strings_Join_none a cap sep w).mono fun e w' ⟨he, hw⟩ => ⟨he, hw ▸ Rel.refl w⟩
    | cons x r =>
      obtain ⟨b, off, xs, rfl, hSb, hl, hc, hr⟩ := h3 (by simp)
      have hxs := rd_texts _ _ hr
      have hb : b < w.heap.size := (hS _ (hSb 0 (by simp))).1
      exact (Tryz.strings_Join b off cap (x :: r) sep w (fun j y hj => hc j _ (by rw [hxs, List.getElem?_map, hj]; rfl)) hb (by omega) h1 hg.2).mono fun e w' ⟨he, hw⟩ => ⟨he, hw⟩
  refine ⟨⟨_, Tryz.func170, by kernel_rfl, by kernel_rfl⟩, key.mono ?_⟩
  rintro e w' ⟨rfl, hw⟩
  exact ⟨_, rfl, (), rfl, ((St.enter oL hS).call hw).gives⟩
/-- The library's longest length stands in its cell. -/
def rMax : Rd := ⟨fun S w => S (1, 0) ∧ ∃ m, w.cell? ⟨1, 0, none⟩ = some (.int .i64 m), fun hs h ⟨h1, m, h2⟩ => ⟨hs _ h1, m, h.cell h1 h2⟩⟩
def rpl (s old new : ByteArray) : ByteArray := ⟨(Lib.replaceAll s.data.toList old.data.toList new.data.toList).toArray⟩
noncomputable def x_ReplaceAll (s old new : ByteArray) : Option ByteArray := xg (s.size < 4294967281 ∧ 1 ≤ old.size ∧ s.size + Lib.countB s old * new.size ≤ 140737488355328) <| some (rpl s old new)
theorem ct_ReplaceAll (w : World) (X S : Bs) (s old new : ByteArray) (hS : SX X S w) (hU : rMax.ok S w) (oL : Sep [] X w) {r : ByteArray} (hx : x_ReplaceAll s old new = some r) :
    Ret Tryz.prog 133 [(.string s), (.string old), (.string new)] w (KV X S w (.string r)) := by
  unfold x_ReplaceAll at hx
  obtain ⟨hg, hx⟩ := xg_some hx
  obtain rfl := Option.some.inj hx
  obtain ⟨_, m, hm⟩ := hU
  refine ⟨⟨_, Tryz.func133, by kernel_rfl, by kernel_rfl⟩, (Tryz.strings_ReplaceAll s old new m w hg.1 hm hg.2.1 hg.2.2).mono ?_⟩
  rintro e w' ⟨rfl, hw⟩
  exact ⟨_, rfl, (), rfl, ((St.enter oL hS).call hw).gives⟩
end Go.Proofs.YtjbonmmmcnpjiaaGreatDoor
