/- Draws: numbers, signs, texts. No condition. -/
import Derived.Test.YtdfjkipdmeomdaaDoorMh
import Derived.Test.YtdfjkipdmeomdaaDoorGW
namespace Go.Proofs.YtdfjkipdmeomdaaDoor

theorem drawn_text {l : List Int} (h : (l.length : Int) ≤ 200) (h2 : l.all okSign = true) : okText l = true := by
  unfold okText
  rw [h2]; simp; omega
theorem iw_small {n : Int} (h : -9223372036854775808 ≤ n) (k : n ≤ 9223372036854775807) : iw n = n := by
  unfold iw IntKind.wrap
  simp only [IntKind.signed, IntKind.bits]
  have h1 : (BitVec.ofInt 64 n).toInt = n := by
    rw [BitVec.toInt_ofInt, Int.bmod_def]; omega
  first | exact h1 | (simp; omega) | skip
theorem new_loop (code : List UInt8) (h : Int) (h0 : 0 ≤ h) (h1 : h ≤ 1073741823) : ∃ y, iter (x_spec_l01New_f0 code) (h, 0) = some y ∧ 0 ≤ y ∧ y ≤ 1073741823 := by
  refine iter_ex (f := x_spec_l01New_f0 code) (fun s => (0 ≤ s.1 ∧ s.1 ≤ 1073741823) ∧ 0 ≤ s.2 ∧ s.2 ≤ 4000) (fun s => (4000 - s.2).toNat) (fun y => 0 ≤ y ∧ y ≤ 1073741823) (fun s hP => ?_) (h, 0) ⟨⟨h0, h1⟩, by simp, by simp⟩
  obtain ⟨a, i⟩ := s
  obtain ⟨⟨g0, g1⟩, g2, g3⟩ := hP
  simp only at g0 g1 g2 g3 ⊢
  unfold x_spec_l01New_f0 x_spec_l01New_b0
  simp only
  by_cases hc : i < (code.length : Int) ∧ i < 4000
  · rw [cd_t hc.1, Option.bind_some, decide_eq_true hc.2, cd_T, xg_of ⟨by omega, by omega⟩]
    have hb := bAnd_range (iw (iw (iw (a * 43) + ((el code i.toNat).toNat : Int)) + 7)) 1073741823 (by decide)
    exact .inl ⟨_, rfl, ⟨hb, by simp only; rw [iw_small (by omega) (by omega)]; omega, by simp only; rw [iw_small (by omega) (by omega)]; omega⟩, by simp only; rw [iw_small (by omega) (by omega)]; omega⟩
  · have : (bif decide (i < (code.length : Int)) then some (decide (i < 4000)) else some false) = some false := by
      by_cases h1 : i < (code.length : Int)
      · rw [cd_t h1, decide_eq_false (fun h2 => hc ⟨h1, h2⟩)]
      · rw [cd_f h1]
    rw [this]
    exact .inr ⟨_, rfl, g0, g1⟩
/-- A cursor that a draw has made. -/
def cur (c : DL01Cur) : Prop := 0 ≤ c.i ∧ c.i ≤ c.b.length ∧ c.b.length ≤ 1048580
theorem s_New (code : List UInt8) (hl : code.length ≤ 1048580) : ∃ c, x_spec_l01New code = some c ∧ cur c ∧ 0 ≤ c.h ∧ c.h ≤ 1073741823 := by
  unfold x_spec_l01New
  rw [iw_small (by omega) (by omega)]
  obtain ⟨y, h1, h2⟩ := new_loop code (1621 + (code.length : Int)) (by omega) (by omega)
  rw [h1]
  exact ⟨_, rfl, ⟨by simp, by simp, hl⟩, h2⟩
theorem cur_h {c : DL01Cur} (h : cur c) (n : Int) : cur ⟨c.b, c.i, n⟩ := h
theorem s_Byte (c : DL01Cur) (h : cur c) : ∃ n d, x_spec_l01Byte c = some (n, d) ∧ (0 ≤ n ∧ n ≤ 255) ∧ cur d := by
  unfold x_spec_l01Byte
  rw [xg_of (by decide), xg_of (by decide)]
  obtain ⟨h1, h2, h3⟩ := h
  by_cases hc : c.i < (c.b.length : Int)
  · rw [cd_t hc, xg_of ⟨h1, hc⟩, iw_small (n := c.i + 1) (by omega) (by omega)]
    exact ⟨_, _, rfl, bAnd_range _ 255 (by decide), by simp only; omega, by simp only; omega, h3⟩
  · rw [cd_f hc]
    exact ⟨_, _, rfl, bAnd_range _ 255 (by decide), h1, h2, h3⟩
theorem s_Below (c : DL01Cur) (n : Int) (h : cur c) : ∃ m d, x_spec_l01Below c n = some (m, d) ∧ (0 ≤ m ∧ (m = 0 ∨ m < n)) ∧ cur d := by
  unfold x_spec_l01Below
  by_cases h0 : n ≤ 0
  · rw [cd_t h0]; exact ⟨_, _, rfl, by omega, h⟩
  rw [cd_f h0]
  by_cases h1 : n ≤ 256
  · obtain ⟨m, d, h2, h3, h4⟩ := s_Byte c h
    rw [cd_t h1, h2, Option.bind_some, xg_of ⟨h3.1, by omega⟩]
    have h5 := Int.emod_nonneg m (show n ≠ 0 by omega)
    have h6 := Int.emod_lt_of_pos m (show 0 < n by omega)
    exact ⟨_, _, rfl, ⟨h5, .inr h6⟩, h4⟩
  · obtain ⟨m1, d1, a1, b1, c1⟩ := s_Byte c h
    obtain ⟨m2, d2, a2, b2, c2⟩ := s_Byte d1 c1
    obtain ⟨m3, d3, a3, b3, c3⟩ := s_Byte d2 c2
    obtain ⟨m4, d4, a4, b4, c4⟩ := s_Byte d3 c3
    rw [cd_f h1, a1, Option.bind_some, a2, Option.bind_some, a3, Option.bind_some, a4, Option.bind_some, xg_I (by omega) (by omega), xg_I (by omega) (by omega), xg_I (by omega) (by omega), xg_I (by omega) (by omega), xg_I (by omega) (by omega), xg_I (by omega) (by omega), xg_of ⟨by omega, by omega⟩]
    have h5 := Int.emod_nonneg (m1 * 16777216 + m2 * 65536 + m3 * 256 + m4) (show n ≠ 0 by omega)
    have h6 := Int.emod_lt_of_pos (m1 * 16777216 + m2 * 65536 + m3 * 256 + m4) (show 0 < n by omega)
    exact ⟨_, _, rfl, ⟨h5, .inr h6⟩, c4⟩
theorem s_Once (c : DL01Cur) (n : Int) (h : cur c) : ∃ m d, x_spec_l01Once c n = some (m, d) ∧ cur d := by
  unfold x_spec_l01Once
  obtain ⟨m, d, h1, _, h3⟩ := s_Below c n h
  rw [h1]
  exact ⟨_, _, rfl, h3⟩
theorem s_Pick (c : DL01Cur) (l : List Int) (h : cur c) (hl : 0 < l.length) : ∃ m d, x_spec_l01Pick c l = some (m, d) ∧ m ∈ l ∧ cur d := by
  unfold x_spec_l01Pick
  obtain ⟨m, d, h1, h2, h3⟩ := s_Below c l.length h
  rw [h1, Option.bind_some, xg_of ⟨h2.1, by omega⟩]
  exact ⟨_, _, rfl, el_mem (by omega), h3⟩
theorem s_Sign (c : DL01Cur) (h : cur c) : ∃ m d, x_spec_l01Sign c = some (m, d) ∧ okSign m = true ∧ cur d := by
  unfold x_spec_l01Sign
  obtain ⟨b, d, h1, h2⟩ := s_Once c 8 h
  rw [h1, Option.bind_some]
  simp only
  cases b with
  | true =>
    obtain ⟨m, e, h3, h4, h5⟩ := s_Pick d [0, 127, 128, 2047, 2048, 55295, 57344, 65535, 65536, 1114111, 10, 32] h2 (by decide)
    rw [cd_T, h3, Option.bind_some]
    refine ⟨_, _, rfl, ?_, h5⟩
    have : ∀ x ∈ [0, 127, 128, 2047, 2048, 55295, 57344, 65535, 65536, 1114111, 10, 32], okSign x = true := by decide
    exact this m h4
  | false =>
    obtain ⟨m, e, h3, h4, h5⟩ := s_Below d 6 h2
    rw [cd_F, h3, Option.bind_some, xg_I (by omega) (by omega)]
    refine ⟨_, _, rfl, ?_, h5⟩
    unfold okSign
    simp only [decide_eq_true_eq]; omega
theorem s_Signs (c : DL01Cur) (most : Int) (h : cur c) (h0 : 0 ≤ most) (h1 : most ≤ 100000) : ∃ l d, x_spec_l01Signs c most = some (l, d) ∧ (l.length : Int) ≤ most ∧ l.all okSign = true ∧ cur d := by
  unfold x_spec_l01Signs
  obtain ⟨m, e, h2, h3, h4⟩ := s_Below c (most + 1) h
  rw [xg_I (by omega) (by omega), h2, Option.bind_some]
  obtain ⟨y, h5, h6, h7, h8⟩ := iter_ex (f := x_spec_l01Signs_f0) (fun s => 0 ≤ s.2.1 ∧ (s.1.length : Int) + s.2.1 ≤ most ∧ s.1.all okSign = true ∧ cur ⟨s.2.2.1, s.2.2.2.1, s.2.2.2.2⟩) (fun s => s.2.1.toNat) (fun y => (y.1.length : Int) ≤ most ∧ y.1.all okSign = true ∧ cur ⟨y.2.1, y.2.2.1, y.2.2.2⟩) (fun s hP => by
    obtain ⟨l, n, b, i, k⟩ := s
    obtain ⟨g1, g2, g3, g4⟩ := hP
    simp only at g1 g2 g3 g4 ⊢
    unfold x_spec_l01Signs_f0 x_spec_l01Signs_b0
    simp only
    by_cases hn : 0 < n
    · obtain ⟨x, d, k1, k2, k3⟩ := s_Sign _ g4
      rw [cd_t hn, k1, Option.bind_some, xg_of (by omega), xg_I (by omega) (by omega)]
      refine .inl ⟨_, rfl, ⟨by simp only; omega, by simp; omega, ?_, k3⟩, by simp only; omega⟩
      simp only [List.all_append, g3, List.all_cons, k2, List.all_nil]; rfl
    · rw [cd_f hn]
      exact .inr ⟨_, rfl, by simp only; omega, g3, g4⟩) ([], m, e.b, e.i, e.h) ⟨h3.1, by simp only [List.length_nil]; omega, rfl, h4⟩
  rw [h5]
  exact ⟨_, _, rfl, h6, h7, h8⟩
end Go.Proofs.YtdfjkipdmeomdaaDoor
