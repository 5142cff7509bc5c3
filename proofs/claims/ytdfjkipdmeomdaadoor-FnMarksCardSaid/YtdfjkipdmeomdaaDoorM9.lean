/- Drawn changes. No condition. -/
import Derived.Test.YtdfjkipdmeomdaaDoorMq
namespace Go.Proofs.YtdfjkipdmeomdaaDoor

def DrI (N : Int) (s : List DPart × Int × Int × List UInt8 × Int × Int) : Prop := cur ⟨s.2.2.2.1, s.2.2.2.2.1, s.2.2.2.2.2⟩ ∧ (0 ≤ s.2.1 ∧ s.2.1 ≤ 200) ∧ 0 ≤ s.2.2.1 ∧ (∀ p ∈ s.1, okPart p = true) ∧ s.1.length ≤ 40 ∧ fromOf s.1 + s.2.1 = N ∧ putsOf s.1 + s.2.2.1 = 12
def DrO (N : Int) (y : List DPart × List UInt8 × Int × Int) : Prop := cur ⟨y.2.1, y.2.2.1, y.2.2.2⟩ ∧ (∀ p ∈ y.1, okPart p = true) ∧ y.1.length ≤ 42 ∧ fromOf y.1 = N ∧ putsOf y.1 ≤ 12
theorem app_from (o : List DPart) (p : DPart) : fromOf (o ++ [p]) = fromOf o + pFrom p := by
  have : fromOf (o ++ [p]) = fromOf o + fromOf [p] := sumI_app _ _ _
  rw [this]; show _ + (pFrom p + 0) = _; omega
theorem app_puts (o : List DPart) (p : DPart) : putsOf (o ++ [p]) = putsOf o + pPut p := by
  have : putsOf (o ++ [p]) = putsOf o + putsOf [p] := sumI_app _ _ _
  rw [this]; show _ + (pPut p + 0) = _; omega
theorem app_oks {o : List DPart} {p : DPart} (h : ∀ q ∈ o, okPart q = true) (hp : okPart p = true) : ∀ q ∈ o ++ [p], okPart q = true := fun q hq => by
  rcases List.mem_append.1 hq with hq | hq
  · exact h q hq
  · rw [List.mem_singleton.1 hq]; exact hp
theorem dr_tail {N : Int} {o : List DPart} {p : DPart} {left room : Int} {b : List UInt8} {i h : Int} (ho : ∀ q ∈ o, okPart q = true) (hl : o.length ≤ 40) (hp : okPart p = true) (h0 : 0 ≤ left) (h1 : left ≤ 200) (h2 : 0 ≤ room) (e1 : fromOf o + pFrom p + left = N) (e2 : putsOf o + pPut p + room = 12) (hc : cur ⟨b, i, h⟩) :
    (∃ s', (xg (o.length < 1099511627776) <| bif decide ((40 : Int) < ((o ++ [p]).length : Int)) then (xg ((o ++ [p]).length < 1099511627776) <| some (Lr.out ((o ++ [p]) ++ [(⟨1, left, []⟩ : DPart)], b, i, h))) else (some (Lr.go (o ++ [p], left, room, b, i, h))) : Option (Lr (List DPart × Int × Int × List UInt8 × Int × Int) (List DPart × List UInt8 × Int × Int))) = some (.go s') ∧ DrI N s' ∧ 41 - s'.1.length < 41 - o.length) ∨
    ∃ y, (xg (o.length < 1099511627776) <| bif decide ((40 : Int) < ((o ++ [p]).length : Int)) then (xg ((o ++ [p]).length < 1099511627776) <| some (Lr.out ((o ++ [p]) ++ [(⟨1, left, []⟩ : DPart)], b, i, h))) else (some (Lr.go (o ++ [p], left, room, b, i, h))) : Option (Lr (List DPart × Int × Int × List UInt8 × Int × Int) (List DPart × List UInt8 × Int × Int))) = some (.out y) ∧ DrO N y := by
  have hk : okPart ⟨1, left, []⟩ = true := by unfold okPart; simp [h0, h1]
  have kf : pFrom ⟨1, left, []⟩ = left := by simp [pFrom, pKeep, pDrop]
  have kp : pPut ⟨1, left, []⟩ = 0 := by simp [pPut]
  have e : (o ++ [p]).length = o.length + 1 := by simp
  rw [xg_of (by omega)]
  by_cases hc2 : (40 : Int) < ((o ++ [p]).length : Int)
  · rw [cd_t hc2, xg_of (by omega)]
    refine .inr ⟨_, rfl, hc, app_oks (app_oks ho hp) hk, ?_, ?_, ?_⟩
    · simp only [List.length_append, List.length_singleton]; omega
    · simp only; rw [app_from, app_from, kf]; omega
    · simp only; rw [app_puts, app_puts, kp]; omega
  · rw [cd_f hc2]
    refine .inl ⟨_, rfl, ⟨hc, ⟨h0, h1⟩, h2, app_oks ho hp, ?_, ?_, ?_⟩, ?_⟩
    · simp only; omega
    · simp only; rw [app_from]; omega
    · simp only; rw [app_puts]; omega
    · simp only; omega
theorem s_Draw0 (c : DL01Cur) (N : Int) (h : cur c) (h0 : 0 ≤ N) (h1 : N ≤ 200) : ∃ o d, x_spec_l02Draw c N = some (o, d) ∧ (∀ p ∈ o, okPart p = true) ∧ o.length ≤ 42 ∧ fromOf o = N ∧ putsOf o ≤ 12 ∧ cur d := by
  unfold x_spec_l02Draw
  obtain ⟨y, g1, g2⟩ := iter_ex (f := x_spec_l02Draw_f0) (DrI N) (fun s => 41 - s.1.length) (DrO N) (fun s hP => by
    obtain ⟨o, left, room, b, i, k⟩ := s
    obtain ⟨p1, p2, p3, p4, p5, p6, p7⟩ := hP
    simp only at p1 p2 p3 p4 p5 p6 p7 ⊢
    unfold x_spec_l02Draw_f0 x_spec_l02Draw_b0
    simp only
    obtain ⟨t, d, q1, q2⟩ : ∃ (t : Bool) (d : DL01Cur), (bif decide ((0 : Int) < left) then (some (true, b, i, k)) else (Option.bind (x_spec_l01Once (⟨b, i, k⟩ : DL01Cur) 3) fun r411 => some (r411.1, r411.2.b, r411.2.i, r411.2.h))) = some (t, d.b, d.i, d.h) ∧ cur d ∧ (t = false → left = 0) := by
      by_cases hl : 0 < left
      · rw [cd_t hl]; exact ⟨true, ⟨b, i, k⟩, rfl, p1, fun h => by cases h⟩
      · obtain ⟨t, d, r1, r2⟩ := s_Once ⟨b, i, k⟩ 3 p1
        rw [cd_f hl, r1]; exact ⟨t, d, rfl, r2, fun _ => by omega⟩
    rw [q1, Option.bind_some]
    simp only
    cases t with
    | false =>
      rw [cd_F]
      have := q2.2 rfl
      exact .inr ⟨_, rfl, q2.1, p4, by simp only; omega, by simp only; omega, by simp only; omega⟩
    | true =>
      rw [cd_T]
      obtain ⟨m, e, r1, r2, r3⟩ := s_Below d 4 q2.1
      rw [show x_spec_l01Below (⟨d.b, d.i, d.h⟩ : DL01Cur) 4 = some (m, e) from r1, Option.bind_some]
      simp only
      by_cases m0 : m = 0
      · obtain ⟨l, f, u1, u2, u3, u4⟩ := s_Signs e 3 r3 (by omega) (by omega)
        have pn : 0 ≤ putsOf o := sumI_nn fun x hx => (bd_part (p4 x hx)).2.1.1
        rw [cd_t m0, u1, Option.bind_some]
        simp only
        by_cases hr : room < (l.length : Int)
        · rw [cd_t hr, xg_I (by omega) (by omega)]
          exact dr_tail p4 p5 (by unfold okPart; simp) p2.1 p2.2 (by omega) (by simp [pFrom, pKeep, pDrop]; omega) (by simp [pPut]; omega) u4
        · rw [cd_f hr, xg_I (by omega) (by omega)]
          exact dr_tail p4 p5 (by unfold okPart; simp [u3]; omega) p2.1 p2.2 (by omega) (by simp [pFrom, pKeep, pDrop]; omega) (by simp [pPut]; omega) u4
      · rw [cd_f m0]
        by_cases m1 : m = 1
        · obtain ⟨n, f, u1, u2, u3⟩ := s_Below e (left + 1) r3
          rw [cd_t m1, xg_I (by omega) (by omega), u1, Option.bind_some]
          simp only
          by_cases hn : (4 : Int) < n
          · rw [cd_t hn, xg_I (by omega) (by omega)]
            exact dr_tail p4 p5 (by unfold okPart; simp) (by omega) (by omega) (by omega) (by simp [pFrom, pKeep, pDrop]; omega) (by simp [pPut]; omega) u3
          · rw [cd_f hn, xg_I (by omega) (by omega)]
            exact dr_tail p4 p5 (by unfold okPart; simp; omega) (by omega) (by omega) (by omega) (by simp [pFrom, pKeep, pDrop]; omega) (by simp [pPut]; omega) u3
        · obtain ⟨n, f, u1, u2, u3⟩ := s_Below e (left + 1) r3
          rw [cd_f m1, xg_I (by omega) (by omega), u1, Option.bind_some]
          simp only
          rw [xg_I (by omega) (by omega)]
          exact dr_tail p4 p5 (by unfold okPart; simp; omega) (by omega) (by omega) (by omega) (by simp [pFrom, pKeep, pDrop]; omega) (by simp [pPut]; omega) u3) ([], N, 12, c.b, c.i, c.h) ⟨h, ⟨h0, by simp only; omega⟩, by simp, fun _ hq => (by cases hq), by simp, by show fromOf [] + N = N; show 0 + N = N; omega, by show putsOf [] + 12 = 12; rfl⟩
  obtain ⟨z1, z2, z3, z4, z5⟩ := g2
  rw [g1]
  exact ⟨_, _, rfl, z2, z3, z4, z5, z1⟩
theorem s_Draw (c : DL01Cur) (N : Int) (h : cur c) (h0 : 0 ≤ N) (h1 : N ≤ 188) : ∃ o d, x_spec_l02Draw c N = some (o, d) ∧ okOp o = true ∧ fromOf o = N ∧ putsOf o ≤ 12 ∧ toOf o ≤ N + 12 ∧ cur d := by
  obtain ⟨o, d, g1, z2, z3, z4, z5, z1⟩ := s_Draw0 c N h h0 (by omega)
  have a1 := sum_from o
  have a2 := sum_to o
  have a3 : 0 ≤ dropsOf o := sumI_nn fun x hx => (bd_part (z2 x hx)).2.2.1.1
  have ok : okOp o = true := by
    unfold okOp okParts
    rw [List.all_eq_true.2 z2]
    simp only [Bool.and_true, Bool.and_eq_true, decide_eq_true_eq]
    omega
  exact ⟨o, d, g1, ok, z4, z5, by omega, z1⟩
theorem s_MakeOps (code : List UInt8) (hl : code.length ≤ 1048580) : ∃ t a b, x_spec_MakeOps code = some (t, a, b) ∧ okText t = true ∧ t.length ≤ 10 ∧ okOp a = true ∧ fromOf a = t.length ∧ putsOf a ≤ 12 ∧ okOp b = true ∧ fromOf b = t.length ∧ putsOf b ≤ 12 := by
  unfold x_spec_MakeOps
  obtain ⟨c, h2, h3, _⟩ := s_New code hl
  rw [h2, Option.bind_some]
  obtain ⟨t, d, k1, k2, k3, k4⟩ := s_Signs c 10 h3 (by omega) (by omega)
  rw [k1, Option.bind_some]
  simp only
  obtain ⟨a, e, g1, g2, g3, g4, g5, g6⟩ := s_Draw d t.length k4 (by omega) (by omega)
  rw [g1, Option.bind_some]
  simp only
  obtain ⟨b, f, f1, f2, f3, f4, f5, f6⟩ := s_Draw e t.length g6 (by omega) (by omega)
  rw [f1]
  exact ⟨_, _, _, rfl, drawn_text (by omega) k3, by omega, g2, g3, g4, f2, f3, f4⟩
end Go.Proofs.YtdfjkipdmeomdaaDoor
