/- The library's table of powers of ten as a thing that is read; strconv.Itoa. No condition. -/
import Derived.Test.YtjbonmmmcnpjiaaGreatDoorNs
import Derived.Test.YtjbonmmmcnpjiaaGreatDoorSh
namespace Go.Proofs.YtjbonmmmcnpjiaaGreatDoor
open Go.RowKit
theorem tabG : Tryz.prog.globalNamed "internal/strconv.uint64pow10" = some 0 := by kernel_rfl
theorem Lc.whole {F : Bs} {w w' : World} (h : Lc F w w') {b : Nat} (hF : ∀ j, F (b, j)) (hb : b < w.heap.size) : w'.heap[b]? = w.heap[b]? := (h.block b hb).same fun i hx => hx (hF i)
/-- The table lies as the program's text lays it. -/
def rTab : Rd := ⟨fun S w => (∀ j, S (0, j)) ∧ 0 < w.heap.size ∧ Lib.TabIs Tryz.prog w "internal/strconv.uint64pow10" .u64 Lib.pow10Tab, fun {S S' w w'} hs h ⟨h1, h3, h2⟩ => ⟨fun j => hs _ (h1 j), Nat.lt_of_lt_of_le h3 h.size, by
  unfold Lib.TabIs World.var? at h2 ⊢
  rw [tabG] at h2 ⊢
  simp only [Option.bind_some] at h2 ⊢
  rw [h.whole h1 h3]
  exact h2⟩⟩
theorem grow_rel (w : World) (k : Nat) (os : Array Obj) : Rel w (Sort.grow (w.drewN k) os) :=
  ⟨rfl, rfl, rfl, by simp [Sort.grow], fun b hb => by
    simp only [Sort.grow, World.heap_drewN]
    exact Array.getElem?_append_left hb⟩
noncomputable def x_Itoa (n : Int) : Option ByteArray := xg (inI n) <| some ⟨(Lib.itoa n).toArray⟩
theorem ct_Itoa (w : World) (X S : Bs) (n : Int) (hS : ∀ b, S b → b.1 < w.heap.size ∧ ¬ X b) (hT : rTab.ok S w) (oL : Sep [] X w) {r : ByteArray} (hx : x_Itoa n = some r) :
    Ret Tryz.prog 65 [(.int .i64 n)] w (fun u w' => ∃ _ : Unit, u = (.string r) ∧ Gives X S w [] [] w') := by
  unfold x_Itoa at hx
  obtain ⟨hg, hx⟩ := xg_some hx
  obtain rfl := Option.some.inj hx
  refine ⟨⟨_, Tryz.func65, by kernel_rfl, by kernel_rfl⟩, (Tryz.strconv_Itoa n hg.1 hg.2 w hT.2.2).mono ?_⟩
  rintro e w' ⟨rfl, k, os, rfl⟩
  exact ⟨_, rfl, (), rfl, ((St.enter oL hS).call (grow_rel w k os)).gives⟩
end Go.Proofs.YtjbonmmmcnpjiaaGreatDoor
