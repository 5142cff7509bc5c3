/- Documents read from bytes: what both readers give. No condition. -/
import Derived.Test.YtmcakofnolmhpaaDd
namespace Go.Proofs.Ytmcakofnolmhpaa

theorem i_op {b : List UInt8} (hb : b.length ≤ 1048576) {r : DReader} (h : r.b = b ∧ 0 ≤ r.at_ ∧ r.at_ ≤ b.length) : ∃ o r', x_impl_reader_op r = some (o, r') ∧ Out b r.at_ r.bad (opI b r.at_) (szO b) o r'.b r'.at_ r'.bad := by
  obtain ⟨n, r1, q1, q2⟩ := i_num hb h
  have hn := q2.sz
  unfold x_impl_reader_op
  rw [q1, Option.bind_some]
  obtain ⟨y, s, h1, h2, h3, h4⟩ := loop_gen (F := x_impl_reader_op_f0 (n, r1)) b (fun s => n - s.2.1) (fun s => s.2.2.2.1) (fun s => s.2.2.2.2) (fun s => s.2.2.1) (fun s => s.1) (fun s => 0 ≤ s.2.1 ∧ s.2.1 ≤ n) (fun s y => y = (s.1, s.2.2.1, s.2.2.2.1, s.2.2.2.2)) (partI b) (szP b) (partI_str b) (fun s hI e1 a0 a1 hl => by
    obtain ⟨o, i, l, a, bad⟩ := s
    simp only at hI e1 a0 a1 hl ⊢
    subst e1
    obtain ⟨hn0, hn1⟩ := hn
    unfold x_impl_reader_op_f0 x_impl_reader_op_b0
    simp only
    refine ⟨fun hg => ?_, fun hg => ?_⟩
    · obtain ⟨c, r', p1, p2⟩ := i_num hb (r := ⟨l, a, bad⟩) ⟨rfl, a0, a1⟩
      obtain ⟨hc0, hc1⟩ := p2.sz
      rw [cd_t (by omega), Option.bind_some, hg.2, Bool.not_false, cd_T]
      rw [hg.2] at p1 p2
      rw [p1, Option.bind_some, xg_of ⟨by omega, by omega⟩]
      by_cases hk : c % 4 = 2
      · obtain ⟨m, r2, m1, m2⟩ := i_nums hb (r := r') ⟨p2.eb, p2.lo, p2.hi⟩ (c := c / 4) ⟨by omega, by omega⟩
        rw [cd_t hk, xg_of ⟨by omega, by omega, by omega⟩, m1, Option.bind_some, xg_of (by omega), xg_I (by omega) (by omega)]
        refine ⟨_, ⟨c % 4, 0, m⟩, rfl, ⟨by simp only; omega, by simp only; omega⟩, by simp only; omega, rfl, ?_⟩
        have hbody : Out l r'.at_ r'.bad (bodyI l c r'.at_) (fun z : Int × List Int => (z.2.length : Int) ≤ l.length + 1) (0, m) r2.b r2.at_ r2.bad := by
          unfold bodyI
          rw [if_pos hk]
          exact Out.map (fun l => ((0 : Int), l)) m2 fun z => z.1
        exact Out.map mkP (Out.seq p2 hbody) fun z => z.2
      · rw [cd_f hk, xg_of ⟨by omega, by omega, by omega⟩, xg_of (by omega), xg_I (by omega) (by omega)]
        refine ⟨_, ⟨c % 4, c / 4, []⟩, rfl, ⟨by simp only; omega, by simp only; omega⟩, by simp only; omega, rfl, ?_⟩
        have hbody : Out l r'.at_ r'.bad (bodyI l c r'.at_) (fun z : Int × List Int => (z.2.length : Int) ≤ l.length + 1) (c / 4, []) l r'.at_ r'.bad := by
          unfold bodyI
          rw [if_neg hk]
          exact Out.ret p2.lo p2.hi (by simp; omega)
        have := Out.map mkP (R := szP l) (Out.seq p2 hbody) fun z => z.2
        simp only [p2.eb]
        exact this
    · by_cases hi : i < n
      · cases bad with
        | false => exact absurd ⟨by omega, rfl⟩ hg
        | true => rw [cd_t hi, Option.bind_some, Bool.not_true, cd_F]; exact ⟨_, rfl, rfl⟩
      · rw [cd_f hi, Option.bind_some, cd_F]; exact ⟨_, rfl, rfl⟩) ([], 0, r1.b, r1.at_, r1.bad) ⟨by simp, hn.1⟩ q2.eb q2.lo q2.hi (by have := hn.1; simp only; omega) rfl
  rw [h1, Option.bind_some, h2]
  simp only [Int.sub_zero] at h4
  refine ⟨_, _, rfl, ?_⟩
  exact Out.map Prod.snd (Out.seq (q := fun n => many (partI b) n.toNat) q2 h4) fun z => z.2
theorem s_op {b : List UInt8} (hb : b.length ≤ 1048576) {r : DL21Rd} (h : r.b = b ∧ 0 ≤ r.at_ ∧ r.at_ ≤ b.length) : ∃ o r', x_spec_l21Op r = some (o, r') ∧ Out b r.at_ r.bad (opS b r.at_) (szO b) o r'.b r'.at_ r'.bad := by
  obtain ⟨n, r1, q1, q2⟩ := s_count hb h (m := 600) (by omega)
  obtain ⟨hn, _⟩ := q2.sz
  unfold x_spec_l21Op
  rw [q1, Option.bind_some]
  obtain ⟨y, s, h1, h2, h3, h4⟩ := loop_gen (F := x_spec_l21Op_f0) b (fun s => s.2.1) (fun s => s.2.2.2.1) (fun s => s.2.2.2.2) (fun s => s.2.2.1) (fun s => s.1) (fun s => -1 ≤ s.2.1 ∧ s.2.1 ≤ n) (fun s y => y = (s.1, s.2.2.1, s.2.2.2.1, s.2.2.2.2)) (partS b) (szP b) (partS_str b) (fun s hI e1 a0 a1 hl => by
    obtain ⟨o, i, l, a, bad⟩ := s
    simp only at hI e1 a0 a1 hl ⊢
    subst e1
    obtain ⟨hn0, hn1⟩ := hn
    unfold x_spec_l21Op_f0 x_spec_l21Op_b0
    simp only
    refine ⟨fun hg => ?_, fun hg => ?_⟩
    · obtain ⟨c, r', p1, p2⟩ := s_get hb (r := ⟨l, a, bad⟩) ⟨rfl, a0, a1⟩
      obtain ⟨hc0, hc1⟩ := p2.sz
      rw [cd_t hg.1, Option.bind_some, hg.2, Bool.not_false, cd_T]
      rw [hg.2] at p1 p2
      rw [p1, Option.bind_some, xg_of ⟨by omega, by omega⟩, xg_of ⟨by omega, by omega, by omega⟩]
      by_cases hbig : 200 < c / 4
      · rw [cd_t hbig, xg_of (by omega), xg_I (by omega) (by omega)]
        refine ⟨_, ⟨c % 4, c / 4, []⟩, rfl, ⟨by simp only; omega, by simp only; omega⟩, rfl, rfl, ?_⟩
        have hbody : Out l r'.at_ r'.bad (bodyS l c r'.at_) (fun z : Int × List Int => (z.2.length : Int) ≤ l.length + 1) (c / 4, []) l r'.at_ true := by
          unfold bodyS
          rw [if_pos hbig]
          exact Out.stop p2.lo p2.hi (by simp; omega)
        have := Out.map mkP (R := szP l) (Out.seq p2 hbody) fun z => z.2
        simp only [p2.eb]
        exact this
      · rw [cd_f hbig]
        by_cases hk : c % 4 = 2
        · obtain ⟨m, r2, m1, m2⟩ := s_signs hb (r := r') ⟨p2.eb, p2.lo, p2.hi⟩ (c := c / 4) ⟨by omega, by omega⟩
          rw [cd_t hk, m1, Option.bind_some, xg_of (by omega), xg_I (by omega) (by omega)]
          refine ⟨_, ⟨c % 4, 0, m⟩, rfl, ⟨by simp only; omega, by simp only; omega⟩, rfl, rfl, ?_⟩
          have hbody : Out l r'.at_ r'.bad (bodyS l c r'.at_) (fun z : Int × List Int => (z.2.length : Int) ≤ l.length + 1) (0, m) r2.b r2.at_ r2.bad := by
            unfold bodyS bodyI
            rw [if_neg hbig, if_pos hk]
            exact Out.map (fun l => ((0 : Int), l)) m2 fun z => z.1
          exact Out.map mkP (Out.seq p2 hbody) fun z => z.2
        · rw [cd_f hk, xg_of (by omega), xg_I (by omega) (by omega)]
          refine ⟨_, ⟨c % 4, c / 4, []⟩, rfl, ⟨by simp only; omega, by simp only; omega⟩, rfl, rfl, ?_⟩
          have hbody : Out l r'.at_ r'.bad (bodyS l c r'.at_) (fun z : Int × List Int => (z.2.length : Int) ≤ l.length + 1) (c / 4, []) l r'.at_ r'.bad := by
            unfold bodyS bodyI
            rw [if_neg hbig, if_neg hk]
            exact Out.ret p2.lo p2.hi (by simp; omega)
          have := Out.map mkP (R := szP l) (Out.seq p2 hbody) fun z => z.2
          simp only [p2.eb]
          exact this
    · by_cases hi : 0 < i
      · cases bad with
        | false => exact absurd ⟨hi, rfl⟩ hg
        | true => rw [cd_t hi, Option.bind_some, Bool.not_true, cd_F]; exact ⟨_, rfl, rfl⟩
      · rw [cd_f hi, Option.bind_some, cd_F]; exact ⟨_, rfl, rfl⟩) ([], n, r1.b, r1.at_, r1.bad) ⟨by have := hn.1; simp only; omega, Int.le_refl _⟩ q2.eb q2.lo q2.hi hn.1 rfl
  rw [h1, Option.bind_some, h2]
  refine ⟨_, _, rfl, ?_⟩
  exact Out.map Prod.snd (Out.seq (q := fun n => many (partS b) n.toNat) q2 h4) fun z => z.2

-- Entries, and who has been seen
theorem i_ents {b : List UInt8} (hb : b.length ≤ 1048576) {c : Int} {r : DReader} (r0 : DReader) (h : r.b = b ∧ 0 ≤ r.at_ ∧ r.at_ ≤ b.length) (hc : 0 ≤ c ∧ c ≤ 1114111000) :
    ∃ y : List UInt8 × Int × Bool × List DEntry, iter (x_impl_BytesDoc_f0 (c, r0) b) (0, r.b, r.at_, r.bad, []) = some y ∧ Out b r.at_ r.bad (many (entI b) c.toNat r.at_) (fun l => (l.length : Int) ≤ b.length + 1 ∧ ∀ e ∈ l, szE b e) y.2.2.2 y.1 y.2.1 y.2.2.1 := by
  obtain ⟨y, s, h1, h2, h3, h4⟩ := loop_gen (F := x_impl_BytesDoc_f0 (c, r0) b) b (fun s => c - s.1) (fun s => s.2.2.1) (fun s => s.2.2.2.1) (fun s => s.2.1) (fun s => s.2.2.2.2) (fun s => 0 ≤ s.1 ∧ s.1 ≤ c) (fun s y => y = (s.2.1, s.2.2.1, s.2.2.2.1, s.2.2.2.2)) (entI b) (szE b) (entI_str b) (fun s hI e1 a0 a1 hl => by
    obtain ⟨i, l, a, bad, o⟩ := s
    simp only at hI e1 a0 a1 hl ⊢
    subst e1
    unfold x_impl_BytesDoc_f0 x_impl_BytesDoc_b0
    simp only
    refine ⟨fun hg => ?_, fun hg => ?_⟩
    · obtain ⟨x1, s1, p1, p2⟩ := i_num hb (r := ⟨l, a, bad⟩) ⟨rfl, a0, a1⟩
      obtain ⟨x2, s2, p3, p4⟩ := i_num hb (r := s1) ⟨p2.eb, p2.lo, p2.hi⟩
      obtain ⟨x3, s3, p5, p6⟩ := i_op hb (r := s2) ⟨p4.eb, p4.lo, p4.hi⟩
      rw [cd_t (by omega), Option.bind_some, hg.2, Bool.not_false, cd_T]
      rw [hg.2] at p1 p2
      rw [p1, Option.bind_some, p3, Option.bind_some, p5, Option.bind_some, xg_of (by omega), xg_I (by omega) (by omega)]
      exact ⟨_, ⟨x1, x2, x3⟩, rfl, ⟨by simp only; omega, by simp only; omega⟩, by simp only; omega, rfl, Out.map mkE (Out.seq (q := fun _ => opI l) (Out.seq (q := fun _ => gM l) p2 p4) p6) fun z => z.2⟩
    · by_cases hi : i < c
      · cases bad with
        | false => exact absurd ⟨by omega, rfl⟩ hg
        | true => rw [cd_t hi, Option.bind_some, Bool.not_true, cd_F]; exact ⟨_, rfl, rfl⟩
      · rw [cd_f hi, Option.bind_some, cd_F]; exact ⟨_, rfl, rfl⟩) (0, r.b, r.at_, r.bad, []) ⟨by simp, hc.1⟩ h.1 h.2.1 h.2.2 (by simp only; omega) rfl
  simp only [Int.sub_zero] at h4
  exact ⟨y, h1, by rw [h2]; exact h4⟩
theorem i_seens {b : List UInt8} (hb : b.length ≤ 1048576) {c : Int} {r : DReader} (r0 : DReader) (h : r.b = b ∧ 0 ≤ r.at_ ∧ r.at_ ≤ b.length) (hc : 0 ≤ c ∧ c ≤ 1114111000) :
    ∃ y : List UInt8 × Int × Bool × List DSeen, iter (x_impl_BytesDoc_f1 (c, r0) b) (0, r.b, r.at_, r.bad, []) = some y ∧ Out b r.at_ r.bad (many (seenP b) c.toNat r.at_) (fun l => (l.length : Int) ≤ b.length + 1 ∧ ∀ e ∈ l, True) y.2.2.2 y.1 y.2.1 y.2.2.1 := by
  obtain ⟨y, s, h1, h2, h3, h4⟩ := loop_gen (F := x_impl_BytesDoc_f1 (c, r0) b) b (fun s => c - s.1) (fun s => s.2.2.1) (fun s => s.2.2.2.1) (fun s => s.2.1) (fun s => s.2.2.2.2) (fun s => 0 ≤ s.1 ∧ s.1 ≤ c) (fun s y => y = (s.2.1, s.2.2.1, s.2.2.2.1, s.2.2.2.2)) (seenP b) (fun _ => True) (seenP_str b) (fun s hI e1 a0 a1 hl => by
    obtain ⟨i, l, a, bad, o⟩ := s
    simp only at hI e1 a0 a1 hl ⊢
    subst e1
    unfold x_impl_BytesDoc_f1 x_impl_BytesDoc_b1
    simp only
    refine ⟨fun hg => ?_, fun hg => ?_⟩
    · obtain ⟨x1, s1, p1, p2⟩ := i_num hb (r := ⟨l, a, bad⟩) ⟨rfl, a0, a1⟩
      obtain ⟨x2, s2, p3, p4⟩ := i_num hb (r := s1) ⟨p2.eb, p2.lo, p2.hi⟩
      obtain ⟨x3, s3, p5, p6⟩ := i_num hb (r := s2) ⟨p4.eb, p4.lo, p4.hi⟩
      rw [cd_t (by omega), Option.bind_some, hg.2, Bool.not_false, cd_T]
      rw [hg.2] at p1 p2
      rw [p1, Option.bind_some, p3, Option.bind_some, p5, Option.bind_some, xg_of (by omega), xg_I (by omega) (by omega)]
      exact ⟨_, ⟨x1, x2, x3⟩, rfl, ⟨by simp only; omega, by simp only; omega⟩, by simp only; omega, rfl, Out.map mkS (Out.seq (q := fun _ => gM l) (Out.seq (q := fun _ => gM l) p2 p4) p6) fun _ => trivial⟩
    · by_cases hi : i < c
      · cases bad with
        | false => exact absurd ⟨by omega, rfl⟩ hg
        | true => rw [cd_t hi, Option.bind_some, Bool.not_true, cd_F]; exact ⟨_, rfl, rfl⟩
      · rw [cd_f hi, Option.bind_some, cd_F]; exact ⟨_, rfl, rfl⟩) (0, r.b, r.at_, r.bad, []) ⟨by simp, hc.1⟩ h.1 h.2.1 h.2.2 (by simp only; omega) rfl
  simp only [Int.sub_zero] at h4
  exact ⟨y, h1, by rw [h2]; exact h4⟩
theorem s_ents {b : List UInt8} (hb : b.length ≤ 1048576) {c : Int} {r : DL21Rd} (h : r.b = b ∧ 0 ≤ r.at_ ∧ r.at_ ≤ b.length) (hc : 0 ≤ c ∧ c ≤ 1114111000) :
    ∃ y : List UInt8 × Int × Bool × List DEntry, iter (x_spec_BytesDoc_f0 b) (c, r.b, r.at_, r.bad, []) = some y ∧ Out b r.at_ r.bad (many (entS b) c.toNat r.at_) (fun l => (l.length : Int) ≤ b.length + 1 ∧ ∀ e ∈ l, szE b e) y.2.2.2 y.1 y.2.1 y.2.2.1 := by
  obtain ⟨y, s, h1, h2, h3, h4⟩ := loop_gen (F := x_spec_BytesDoc_f0 b) b (fun s => s.1) (fun s => s.2.2.1) (fun s => s.2.2.2.1) (fun s => s.2.1) (fun s => s.2.2.2.2) (fun s => -1 ≤ s.1 ∧ s.1 ≤ c) (fun s y => y = (s.2.1, s.2.2.1, s.2.2.2.1, s.2.2.2.2)) (entS b) (szE b) (entS_str b) (fun s hI e1 a0 a1 hl => by
    obtain ⟨i, l, a, bad, o⟩ := s
    simp only at hI e1 a0 a1 hl ⊢
    subst e1
    unfold x_spec_BytesDoc_f0 x_spec_BytesDoc_b0
    simp only
    refine ⟨fun hg => ?_, fun hg => ?_⟩
    · obtain ⟨x1, s1, p1, p2⟩ := s_get hb (r := ⟨l, a, bad⟩) ⟨rfl, a0, a1⟩
      obtain ⟨x2, s2, p3, p4⟩ := s_get hb (r := s1) ⟨p2.eb, p2.lo, p2.hi⟩
      obtain ⟨x3, s3, p5, p6⟩ := s_op hb (r := s2) ⟨p4.eb, p4.lo, p4.hi⟩
      rw [cd_t hg.1, Option.bind_some, hg.2, Bool.not_false, cd_T]
      rw [hg.2] at p1 p2
      rw [p1, Option.bind_some, p3, Option.bind_some, p5, Option.bind_some, xg_of (by omega), xg_I (by omega) (by omega)]
      exact ⟨_, ⟨x1, x2, x3⟩, rfl, ⟨by simp only; omega, by simp only; omega⟩, rfl, rfl, Out.map mkE (Out.seq (q := fun _ => opS l) (Out.seq (q := fun _ => gM l) p2 p4) p6) fun z => z.2⟩
    · by_cases hi : 0 < i
      · cases bad with
        | false => exact absurd ⟨hi, rfl⟩ hg
        | true => rw [cd_t hi, Option.bind_some, Bool.not_true, cd_F]; exact ⟨_, rfl, rfl⟩
      · rw [cd_f hi, Option.bind_some, cd_F]; exact ⟨_, rfl, rfl⟩) (c, r.b, r.at_, r.bad, []) ⟨by simp only; omega, Int.le_refl _⟩ h.1 h.2.1 h.2.2 hc.1 rfl
  exact ⟨y, h1, by rw [h2]; exact h4⟩
theorem s_seens {b : List UInt8} (hb : b.length ≤ 1048576) {c : Int} {r : DL21Rd} (h : r.b = b ∧ 0 ≤ r.at_ ∧ r.at_ ≤ b.length) (hc : 0 ≤ c ∧ c ≤ 1114111000) :
    ∃ y : List UInt8 × Int × Bool × List DSeen, iter (x_spec_BytesDoc_f1 b) (c, r.b, r.at_, r.bad, []) = some y ∧ Out b r.at_ r.bad (many (seenP b) c.toNat r.at_) (fun l => (l.length : Int) ≤ b.length + 1 ∧ ∀ e ∈ l, True) y.2.2.2 y.1 y.2.1 y.2.2.1 := by
  obtain ⟨y, s, h1, h2, h3, h4⟩ := loop_gen (F := x_spec_BytesDoc_f1 b) b (fun s => s.1) (fun s => s.2.2.1) (fun s => s.2.2.2.1) (fun s => s.2.1) (fun s => s.2.2.2.2) (fun s => -1 ≤ s.1 ∧ s.1 ≤ c) (fun s y => y = (s.2.1, s.2.2.1, s.2.2.2.1, s.2.2.2.2)) (seenP b) (fun _ => True) (seenP_str b) (fun s hI e1 a0 a1 hl => by
    obtain ⟨i, l, a, bad, o⟩ := s
    simp only at hI e1 a0 a1 hl ⊢
    subst e1
    unfold x_spec_BytesDoc_f1 x_spec_BytesDoc_b1
    simp only
    refine ⟨fun hg => ?_, fun hg => ?_⟩
    · obtain ⟨x1, s1, p1, p2⟩ := s_get hb (r := ⟨l, a, bad⟩) ⟨rfl, a0, a1⟩
      obtain ⟨x2, s2, p3, p4⟩ := s_get hb (r := s1) ⟨p2.eb, p2.lo, p2.hi⟩
      obtain ⟨x3, s3, p5, p6⟩ := s_get hb (r := s2) ⟨p4.eb, p4.lo, p4.hi⟩
      rw [cd_t hg.1, Option.bind_some, hg.2, Bool.not_false, cd_T]
      rw [hg.2] at p1 p2
      rw [p1, Option.bind_some, p3, Option.bind_some, p5, Option.bind_some, xg_of (by omega), xg_I (by omega) (by omega)]
      exact ⟨_, ⟨x1, x2, x3⟩, rfl, ⟨by simp only; omega, by simp only; omega⟩, rfl, rfl, Out.map mkS (Out.seq (q := fun _ => gM l) (Out.seq (q := fun _ => gM l) p2 p4) p6) fun _ => trivial⟩
    · by_cases hi : 0 < i
      · cases bad with
        | false => exact absurd ⟨hi, rfl⟩ hg
        | true => rw [cd_t hi, Option.bind_some, Bool.not_true, cd_F]; exact ⟨_, rfl, rfl⟩
      · rw [cd_f hi, Option.bind_some, cd_F]; exact ⟨_, rfl, rfl⟩) (c, r.b, r.at_, r.bad, []) ⟨by simp only; omega, Int.le_refl _⟩ h.1 h.2.1 h.2.2 hc.1 rfl
  exact ⟨y, h1, by rw [h2]; exact h4⟩
end Go.Proofs.Ytmcakofnolmhpaa
