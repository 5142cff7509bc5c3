/- Numbers as bytes, and documents as bytes. No condition. -/
import Derived.Test.YtlgmikaemfbmaaaGreatMx
import Derived.Test.YtlgmikaemfbmaaaGreatD2
import Derived.Test.YtlgmikaemfbmaaaGreatD3
namespace Go.Proofs.YtlgmikaemfbmaaaGreat

def ini (n : Nat) : List UInt8 := if n < 128 then [] else y8 ((n : Int) % 128 + 128) :: ini (n / 128)
termination_by n
decreasing_by omega
def top (n : Nat) : Nat := if n < 128 then n else top (n / 128)
termination_by n
decreasing_by omega
def enc (n : Int) : List UInt8 := ini n.toNat ++ [y8 (top n.toNat : Nat)]
def pn (n : Int) : Prop := 0 ≤ n ∧ n ≤ 1114111000
theorem ini_len : ∀ (k n : Nat), n < 128 ^ (k + 1) → (ini n).length ≤ k
  | 0, n, h => by rw [ini, if_pos (by simpa using h)]; simp
  | k + 1, n, h => by
    rw [ini]
    split
    · simp
    · have := ini_len k (n / 128) (by rw [Nat.pow_succ] at h; omega)
      simp only [List.length_cons]; omega
theorem enc_len {n : Int} (h : pn n) : (enc n).length ≤ 5 := by
  have := ini_len 4 n.toNat (by have := h.2; have := h.1; show n.toNat < 34359738368; omega)
  unfold enc; simp; omega
theorem i_num_loop (b : List UInt8) (n : Nat) (hb : (b.length : Int) + n ≤ 1000000000000) : iter x_impl_PutNum_f0 ((n : Int), b) = some ((top n : Int), b ++ ini n) := by
  have h := iter_go (f := x_impl_PutNum_f0) (fun s => 0 ≤ s.1 ∧ (s.2.length : Int) + s.1 ≤ 1000000000000) (fun s => s.1.toNat) (fun s => ((top s.1.toNat : Int), s.2 ++ ini s.1.toNat)) (fun s hP => by
    obtain ⟨m, o⟩ := s
    obtain ⟨h1, h2⟩ := hP
    simp only at h1 h2 ⊢
    obtain ⟨m, rfl⟩ := Int.eq_ofNat_of_zero_le h1
    unfold x_impl_PutNum_f0 x_impl_PutNum_b0
    simp only
    by_cases hm : (128 : Int) ≤ m
    · rw [cd_t hm, xg_of ⟨by omega, by omega⟩, xg_I (by omega) (by omega), xg_of (by omega), xg_of ⟨by omega, by omega, by omega⟩]
      refine .inl ⟨_, rfl, ⟨by simp only; omega, by simp only [List.length_append, List.length_singleton]; omega⟩, by simp only; omega, ?_⟩
      simp only
      rw [show ((m : Int) / 128).toNat = m / 128 by omega, Int.toNat_natCast]
      conv => lhs; rw [top, ini, if_neg (by omega), if_neg (by omega)]
      simp
    · rw [cd_f hm]
      refine .inr ?_
      rw [Int.toNat_natCast, top, ini, if_pos (by omega), if_pos (by omega)]; simp) ((n : Int), b) ⟨by simp only; omega, hb⟩
  simpa using h
theorem i_PutNum {b : List UInt8} {n : Int} (hb : b.length ≤ 100000000000) (hn : pn n) : x_impl_PutNum b n = some (b ++ enc n, true) := by
  obtain ⟨h1, h2⟩ := hn
  obtain ⟨m, rfl⟩ := Int.eq_ofNat_of_zero_le h1
  have l1 := ini_len 4 m (by show m < 34359738368; omega)
  unfold x_impl_PutNum enc
  rw [i_within, Option.bind_some, decide_eq_true ⟨h1, h2⟩, Bool.not_true, cd_F, xg_of (by omega), List.nil_append, i_num_loop b m (by omega), Option.bind_some, xg_of (by simp only [List.length_append]; omega)]
  simp
def encs (l : List Int) : List UInt8 := l.flatMap enc
def pns (l : List Int) : Prop := ∀ n ∈ l, pn n
theorem encs_len : ∀ {l : List Int}, pns l → (encs l).length ≤ 5 * l.length
  | [], _ => by simp [encs]
  | x :: l, h => by
    have h1 := enc_len (h x (by simp))
    have h2 := encs_len (l := l) fun n hn => h n (by simp [hn])
    unfold encs at *
    simp only [List.flatMap_cons, List.length_append, List.length_cons]; omega
theorem pns_cons {x : Int} {l : List Int} (h : pn x) (k : pns l) : pns (x :: l) := fun n hn => by
  rcases List.mem_cons.1 hn with rfl | hn
  · exact h
  · exact k n hn
theorem pns_app {a b : List Int} (h : pns a) (k : pns b) : pns (a ++ b) := fun n hn => (List.mem_append.1 hn).elim (h n) (k n)
theorem pns_nil : pns [] := fun _ h => by cases h
theorem encs_cons (x : Int) (l : List Int) : encs (x :: l) = enc x ++ encs l := rfl
theorem encs_app (a b : List Int) : encs (a ++ b) = encs a ++ encs b := by unfold encs; rw [List.flatMap_append]
theorem i_putNums {b : List UInt8} {l : List Int} (hb : (b.length : Int) + 5 * l.length ≤ 100000000000) (hl : pns l) : x_impl_putNums b l = some (b ++ encs l, true) := by
  unfold x_impl_putNums
  rw [xg_of (by omega), List.nil_append, each_run (F := x_impl_putNums_f0 l) (e := fun (s : List UInt8) => (Sum.inl s : Sum (List UInt8) Unit)) l (fun r _ s => pns r ∧ (s.length : Int) + 5 * r.length ≤ 100000000000) (fun r _ s => Sum.inl (s ++ encs r)) (fun s _ => by simp [encs]) (fun x r k s hk hx hP => by
    have hp := hP.1 x (by simp)
    have h5 := enc_len hp
    have h6 := hP.2
    simp only [List.length_cons] at h6
    unfold x_impl_putNums_f0 x_impl_putNums_b0
    rw [hx, i_PutNum (by omega) hp, Option.bind_some]
    exact .inl ⟨_, rfl, ⟨fun n hn => hP.1 n (by simp [hn]), by rw [List.length_append]; omega⟩, by rw [encs_cons, List.append_assoc]⟩) b ⟨hl, hb⟩]
  rfl
-- Operations
def partN (p : DPart) : List Int := (4 * (p.n + p.signs.length) + p.kind) :: p.signs
def opN (o : List DPart) : List Int := (o.length : Int) :: o.flatMap partN
theorem sign_pn {n : Int} (h : okSign n = true) : pn n := by
  unfold okSign at h
  simp only [decide_eq_true_eq] at h
  exact ⟨by omega, by omega⟩
theorem partN_ok {p : DPart} (h : okPart p = true) : pns (partN p) ∧ (partN p).length ≤ 201 := by
  have b := okPart_len h
  rcases okPart_cases h with ⟨k1, k2, k3, k4⟩ | ⟨k1, k2, k3, k4⟩ | ⟨k1, k2, k3, k4⟩
  · exact ⟨pns_cons ⟨by omega, by omega⟩ (by rw [k4]; exact pns_nil), by simp [partN, k4]⟩
  · exact ⟨pns_cons ⟨by omega, by omega⟩ (fun n hn => sign_pn (List.all_eq_true.1 k4 n hn)), by simp [partN]; omega⟩
  · exact ⟨pns_cons ⟨by omega, by omega⟩ (by rw [k4]; exact pns_nil), by simp [partN, k4]⟩
theorem partsN_ok : ∀ {o : List DPart}, (∀ p ∈ o, okPart p = true) → pns (o.flatMap partN) ∧ (o.flatMap partN).length ≤ 201 * o.length
  | [], _ => ⟨pns_nil, by simp⟩
  | p :: o, h => by
    have h1 := partN_ok (h p (by simp))
    have h2 := partsN_ok (o := o) fun q hq => h q (by simp [hq])
    rw [List.flatMap_cons]
    refine ⟨pns_app h1.1 h2.1, ?_⟩
    simp only [List.length_append, List.length_cons]; omega
theorem opN_ok {o : List DPart} (h : okOp o = true) : pns (opN o) ∧ (opN o).length ≤ 120601 := by
  have hl := okParts_len (okOp_parts h)
  have g := partsN_ok (o := o) fun p hp => okParts_mem (okOp_parts h) hp
  exact ⟨pns_cons ⟨by omega, by omega⟩ g.1, by simp only [opN, List.length_cons]; omega⟩
theorem i_PutOp {b : List UInt8} {o : List DPart} (hb : b.length ≤ 10000000000) (ho : okOp o = true) : x_impl_PutOp b o = some (b ++ encs (opN (nrm o)), true) := by
  have hn := okOp_nrm ho
  have hl := okParts_len (okOp_parts hn)
  have g := opN_ok hn
  unfold x_impl_PutOp
  rw [i_OpOk, ho, Option.bind_some, Bool.not_true, cd_F, i_OpNorm, if_pos ho, Option.bind_some]
  rw [each_run (F := x_impl_PutOp_f0 (nrm o)) (e := fun (s : List Int) => s) (nrm o) (fun r _ s => (∀ p ∈ r, okPart p = true) ∧ s.length + 201 * r.length ≤ 1000000) (fun r _ s => s ++ r.flatMap partN) (fun s _ => by simp) (fun x r k s hk hx hP => by
    have hp := hP.1 x (by simp)
    have h5 := okPart_len hp
    have h6 := hP.2
    simp only [List.length_cons] at h6
    have hk2 : -9 ≤ x.kind ∧ x.kind ≤ 9 := by rcases okPart_cases hp with ⟨k1, _⟩ | ⟨k1, _⟩ | ⟨k1, _⟩ <;> omega
    unfold x_impl_PutOp_f0 x_impl_PutOp_b0
    rw [hx, i_size hp, Option.bind_some, xg_I (by omega) (by omega), xg_I (by omega) (by omega), xg_of (by simp only [List.length_singleton]; omega), xg_of (by simp only [List.length_append, List.length_singleton]; omega)]
    refine .inl ⟨_, rfl, ⟨fun q hq => hP.1 q (by simp [hq]), by simp only [List.length_append, List.length_singleton]; omega⟩, ?_⟩
    rw [List.flatMap_cons]
    simp [partN]) [((nrm o).length : Int)] ⟨fun p hp => okParts_mem (okOp_parts hn) hp, by simp only [List.length_singleton]; omega⟩, Option.bind_some]
  have e : [((nrm o).length : Int)] ++ (nrm o).flatMap partN = opN (nrm o) := rfl
  rw [e, i_putNums (by omega) g.1]; rfl
-- Documents
theorem seen_pn : ∀ (l : List DSeen) (q : Option Int) (H : Int), H ≤ 1000000000 → seenL H l q = true → ∀ s ∈ l, pn s.client ∧ pn s.seq ∧ pn s.rev
  | [], _, _, _, _, s, hs => by cases hs
  | x :: l, q, H, hH, h, s, hs => by
    unfold seenL at h
    simp only [Bool.and_eq_true, decide_eq_true_eq] at h
    rcases List.mem_cons.1 hs with rfl | hs
    · exact ⟨⟨by omega, by omega⟩, ⟨by omega, by omega⟩, by omega, by omega⟩
    · exact seen_pn l _ H hH h.2 s hs
def entN (e : DEntry) : List Int := [e.client, e.seq] ++ opN (nrm e.o)
def seenN (s : DSeen) : List Int := [s.client, s.seq, s.rev]
def headN (d : DDoc) : List Int := ([d.from_, (d.text.length : Int)] ++ d.text) ++ [(d.list.length : Int)]
def docN (d : DDoc) : List Int := headN d ++ (d.list.flatMap entN ++ ((d.seen.length : Int) :: d.seen.flatMap seenN))
theorem entN_ok {e : DEntry} (h : okEntry e = true) : okOp e.o = true ∧ pns (entN e) ∧ (entN e).length ≤ 120603 ∧ pn e.client ∧ pn e.seq := by
  unfold okEntry at h
  simp only [Bool.and_eq_true, decide_eq_true_eq] at h
  have ho := (isNorm_ok h.2).1
  have g := opN_ok (okOp_nrm ho)
  have c : pn e.client := ⟨by omega, by omega⟩
  have q : pn e.seq := ⟨by omega, by omega⟩
  exact ⟨ho, pns_cons c (pns_cons q g.1), by simp only [entN, List.length_append, List.length_cons, List.length_nil]; omega, c, q⟩
theorem headN_ok {d : DDoc} (h : okDoc d = true) : pns (headN d) ∧ (headN d).length ≤ 203 := by
  obtain ⟨h1, h2, h3, _, _⟩ := okDoc_all h
  have hl := okText_len h2
  have hs := okText_signs h2
  refine ⟨pns_app (pns_app (pns_cons ⟨by omega, by omega⟩ (pns_cons ⟨by omega, by omega⟩ pns_nil)) fun n hn => sign_pn (List.all_eq_true.1 hs n hn)) (pns_cons ⟨by omega, by omega⟩ pns_nil), ?_⟩
  simp [headN]; omega
theorem seensN_ok : ∀ {l : List DSeen}, (∀ s ∈ l, pn s.client ∧ pn s.seq ∧ pn s.rev) → pns (l.flatMap seenN) ∧ (l.flatMap seenN).length = 3 * l.length
  | [], _ => ⟨pns_nil, rfl⟩
  | s :: l, h => by
    have g := seensN_ok (l := l) fun x hx => h x (by simp [hx])
    have hs := h s (by simp)
    rw [List.flatMap_cons]
    refine ⟨pns_app (pns_cons hs.1 (pns_cons hs.2.1 (pns_cons hs.2.2 pns_nil))) g.1, ?_⟩
    simp only [List.length_append, seenN, List.length_cons, List.length_nil]; omega
theorem i_DocBytes {d : DDoc} (h : smDDoc d) (hk : okDoc d = true) (hsn : d.seen.length ≤ 1048576) : x_impl_DocBytes d = some (encs (docN d), true) := by
  obtain ⟨h1, h2, h3, h4, h5⟩ := okDoc_all hk
  have hl := okText_len h2
  have hh := headN_ok hk
  have hsp := seen_pn d.seen none _ (by omega) h5
  have hse := seensN_ok hsp
  have eh := encs_len hh.1
  unfold x_impl_DocBytes
  rw [i_DocOk d h, hk, Option.bind_some, Bool.not_true, cd_F, xg_of (by simp only [List.length_cons, List.length_nil]; omega), xg_of (by simp only [List.length_append, List.length_cons, List.length_nil]; omega)]
  change (Option.bind (x_impl_putNums [] (headN d)) fun r39 => _) = _
  rw [i_putNums (by simp only [List.length_nil]; omega) hh.1, Option.bind_some]
  simp only [List.nil_append]
  rw [each_run (F := x_impl_DocBytes_f0 d) (e := fun (s : List UInt8 × Bool) => ((s.1, s.2) : List UInt8 × Bool)) d.list (fun r _ s => s.2 = true ∧ r.all okEntry = true ∧ s.1.length + 603015 * r.length ≤ 9000000) (fun r _ s => (s.1 ++ encs (r.flatMap entN), true)) (fun s hs => by obtain ⟨a, b⟩ := s; simp [encs]; exact hs.1) (fun x r k s hk' hx hP => by
    obtain ⟨s, q⟩ := s
    obtain ⟨e, hP1, h6⟩ := hP
    simp only at e h6 ⊢
    subst e
    simp only [List.all_cons, Bool.and_eq_true] at hP1
    obtain ⟨o1, o2, o3, o4, o5⟩ := entN_ok hP1.1
    have hcs : pns [x.client, x.seq] := pns_cons o4 (pns_cons o5 pns_nil)
    have lc := encs_len hcs
    have le := encs_len o2
    simp only [List.length_cons, List.length_nil] at lc h6
    unfold x_impl_DocBytes_f0 x_impl_DocBytes_b0
    simp only
    rw [hx, i_putNums (by simp only [List.length_cons, List.length_nil]; omega) hcs, Option.bind_some, i_PutOp (by rw [List.length_append]; omega) o1, Option.bind_some, cd_T, Option.bind_some]
    have ee : s ++ encs [x.client, x.seq] ++ encs (opN (nrm x.o)) = s ++ encs (entN x) := by unfold entN; rw [encs_app, List.append_assoc]
    refine .inl ⟨_, rfl, ⟨rfl, hP1.2, ?_⟩, ?_⟩
    · simp only; rw [ee, List.length_append]; omega
    · simp only; rw [ee, List.flatMap_cons, encs_app, List.append_assoc]) (encs (headN d), true) ⟨rfl, h4, by simp only; omega⟩, Option.bind_some]
  rw [each_run (F := x_impl_DocBytes_f1 d) (e := fun (s : List Int) => (s : List Int)) d.seen (fun r k s => s.length ≤ 3 * k + 1) (fun r _ s => s ++ r.flatMap seenN) (fun s _ => by simp) (fun x r k s hk' hx hP => by
    unfold x_impl_DocBytes_f1 x_impl_DocBytes_b1
    rw [hx, xg_of (by simp only [List.length_cons, List.length_nil]; omega)]
    refine .inl ⟨_, rfl, by simp only [List.length_append, List.length_cons, List.length_nil]; omega, ?_⟩
    rw [List.flatMap_cons]; simp [seenN]) [(d.seen.length : Int)] (by simp), Option.bind_some]
  have hpl : pns ([(d.seen.length : Int)] ++ d.seen.flatMap seenN) := pns_cons ⟨by omega, by omega⟩ hse.1
  have hel : (encs (d.list.flatMap entN)).length ≤ 9000000 := by
    have key : ∀ r : List DEntry, r.all okEntry = true → (encs (r.flatMap entN)).length ≤ 603015 * r.length := by
      intro r
      induction r with
      | nil => intro _; simp [encs]
      | cons x r ih =>
        intro hr
        simp only [List.all_cons, Bool.and_eq_true] at hr
        have g := entN_ok hr.1
        have l := encs_len g.2.1
        have := ih hr.2
        rw [List.flatMap_cons, encs_app, List.length_append]
        simp only [List.length_cons]; omega
    have := key d.list h4
    omega
  simp only
  rw [i_putNums (by simp only [List.length_append, List.length_cons, List.length_nil]; omega) hpl, Option.bind_some]
  simp only [Bool.not_true, cd_F, Option.bind_some]
  have e : encs (docN d) = encs (headN d) ++ encs (d.list.flatMap entN) ++ encs ([(d.seen.length : Int)] ++ d.seen.flatMap seenN) := by
    unfold docN; rw [encs_app, encs_app, List.append_assoc]; rfl
  rw [e]
end Go.Proofs.YtlgmikaemfbmaaaGreat
namespace Go.Proofs.YtlgmikaemfbmaaaGreat

-- One number
def pw : Nat → Int
  | 0 => 1
  | 1 => 128
  | 2 => 16384
  | 3 => 2097152
  | 4 => 268435456
  | _ => 34359738368
def gl (b : List UInt8) (a : Nat) : Nat → Nat → Int → Sum Unit (Int × Int × Bool)
  | 0, _, _ => Sum.inl ()
  | f + 1, i, n =>
    if a + i < b.length then
      (if ((el b (a + i)).toNat : Int) < 128 then
        (if (((el b (a + i)).toNat : Int) = 0 ∧ 0 < i) ∨ 1114111000 < n + ((el b (a + i)).toNat : Int) % 128 * pw i then Sum.inr (0, 0, false) else Sum.inr (n + ((el b (a + i)).toNat : Int) % 128 * pw i, ((a + i + 1 : Nat) : Int), true))
      else gl b a f (i + 1) (n + ((el b (a + i)).toNat : Int) % 128 * pw i))
    else Sum.inl ()
def g3 (b : List UInt8) (a : Nat) : Int × Int × Bool := Sum.elim (fun _ => (0, 0, false)) (fun y => y) (gl b a 5 0 0)
theorem shl_pw {c : Int} (h0 : 0 ≤ c) (h1 : c < 128) : ∀ i : Nat, i < 5 → bShl c (7 * (i : Int)) = c * pw i
  | 0, _ => by unfold bShl; rw [i64_in (by simp; omega)]; simp [pw]
  | 1, _ => by unfold bShl; rw [i64_in (by simp; omega)]; simp [pw]
  | 2, _ => by unfold bShl; rw [i64_in (by simp; omega)]; simp [pw]
  | 3, _ => by unfold bShl; rw [i64_in (by simp; omega)]; simp [pw]
  | 4, _ => by unfold bShl; rw [i64_in (by simp; omega)]; simp [pw]
  | i + 5, h => by omega
theorem pw_next {c n : Int} (h0 : 0 ≤ c) (h1 : c < 128) (hn : 0 ≤ n) : ∀ i : Nat, i < 5 → n < pw i → (0 ≤ n + c * pw i ∧ n + c * pw i < pw (i + 1)) ∧ pw (i + 1) = pw i * 128 ∧ 0 ≤ c * pw i ∧ c * pw i ≤ 34359738368 ∧ 0 < pw i ∧ pw i ≤ 34359738368
  | 0, _, h => by simp only [pw] at *; omega
  | 1, _, h => by simp only [pw] at *; omega
  | 2, _, h => by simp only [pw] at *; omega
  | 3, _, h => by simp only [pw] at *; omega
  | 4, _, h => by simp only [pw] at *; omega
  | i + 5, h, _ => by omega
theorem pw_nn (i : Nat) : 0 ≤ pw i := by
  unfold pw
  split <;> omega
theorem gl_bd (b : List UInt8) (a : Nat) (f : Nat) : ∀ (i : Nat) (n : Int), 0 ≤ n → ∀ m k, gl b a f i n = Sum.inr (m, k, true) → (0 ≤ m ∧ m ≤ 1114111000) ∧ (a : Int) < k ∧ k ≤ b.length := by
  induction f with
  | zero => intro i n _ m k h; cases h
  | succ f ih =>
    intro i n hn m k h
    rw [gl] at h
    by_cases hl : a + i < b.length
    · rw [if_pos hl] at h
      have q0 : 0 ≤ ((el b (a + i)).toNat : Int) % 128 * pw i := Int.mul_nonneg (by omega) (pw_nn i)
      generalize ((el b (a + i)).toNat : Int) % 128 * pw i = q at h q0
      generalize ((el b (a + i)).toNat : Int) = c at h
      by_cases hc : c < 128
      · rw [if_pos hc] at h
        by_cases hz : (c = 0 ∧ 0 < i) ∨ 1114111000 < n + q
        · rw [if_pos hz] at h; cases h
        · rw [if_neg hz] at h
          simp only [Sum.inr.injEq, Prod.mk.injEq, and_true] at h
          obtain ⟨rfl, rfl⟩ := h
          exact ⟨⟨by omega, by omega⟩, by omega, by omega⟩
      · rw [if_neg hc] at h
        exact ih (i + 1) _ (by omega) m k h
    · rw [if_neg hl] at h; cases h
theorem i_GetNum {b : List UInt8} (hb : b.length ≤ 1048576) (a : Nat) (ha : a ≤ b.length) : x_impl_GetNum b (a : Int) = some (g3 b a) := by
  unfold x_impl_GetNum
  rw [xg_I (by omega) (by omega), i_within, Option.bind_some]
  by_cases h : a < b.length
  · rw [decide_eq_true (by omega), Bool.not_true, cd_F]
    have key := iter_go (f := x_impl_GetNum_f0 (a : Int) b) (fun s => (0 ≤ s.2 ∧ s.2 ≤ 5) ∧ 0 ≤ s.1 ∧ s.1 < pw s.2.toNat) (fun s => (5 - s.2).toNat) (fun s => gl b a (5 - s.2.toNat) s.2.toNat s.1) (fun s hP => by
      obtain ⟨n, i⟩ := s
      obtain ⟨⟨h1, h2⟩, h3, h4⟩ := hP
      simp only at h1 h2 h3 h4 ⊢
      obtain ⟨i, rfl⟩ := Int.eq_ofNat_of_zero_le h1
      rw [Int.toNat_natCast] at h4 ⊢
      unfold x_impl_GetNum_f0 x_impl_GetNum_b0
      simp only
      by_cases hi : (i : Int) < 5
      · rw [cd_t hi, xg_I (by omega) (by omega), Option.bind_some, show 5 - i = (4 - i) + 1 by omega, gl]
        by_cases hl : (a : Int) + i < b.length
        · have y1 := (el b (a + i)).toNat_lt
          have hc0 : 0 ≤ ((el b (a + i)).toNat : Int) % 128 := by omega
          have hc1 : ((el b (a + i)).toNat : Int) % 128 < 128 := by omega
          have w := pw_next hc0 hc1 h3 i (by omega) h4
          have e : ((a : Int) + i).toNat = a + i := by omega
          rw [decide_eq_true hl, cd_T, xg_I (by omega) (by omega), xg_of ⟨by omega, by omega⟩, e, xg_of ⟨by omega, by omega⟩, xg_I (by omega) (by omega), xg_of (by omega), shl_pw hc0 hc1 i (by omega), xg_I (by omega) (by omega), if_pos (by omega)]
          by_cases hs : ((el b (a + i)).toNat : Int) < 128
          · rw [cd_t hs, if_pos hs]
            refine .inr ?_
            by_cases hz : ((el b (a + i)).toNat : Int) = 0
            · rw [cd_t hz, Option.bind_some]
              by_cases hi0 : (0 : Int) < i
              · rw [cd_t hi0, Option.bind_some, cd_T, if_pos (.inl ⟨hz, by omega⟩)]
              · rw [cd_f hi0, Option.bind_some]
                by_cases hm : 1114111000 < n + ((el b (a + i)).toNat : Int) % 128 * pw i
                · rw [cd_t hm, if_pos (.inr hm)]
                · rw [cd_f hm, if_neg (by rintro (⟨_, k⟩ | k) <;> omega), xg_I (by omega) (by omega), xg_I (by omega) (by omega)]; rfl
            · rw [cd_f hz, Option.bind_some, cd_F, Option.bind_some]
              by_cases hm : 1114111000 < n + ((el b (a + i)).toNat : Int) % 128 * pw i
              · rw [cd_t hm, if_pos (.inr hm)]
              · rw [cd_f hm, if_neg (by rintro (⟨k, _⟩ | k) <;> omega), xg_I (by omega) (by omega), xg_I (by omega) (by omega)]; rfl
          · rw [cd_f hs, if_neg hs, xg_I (by omega) (by omega)]
            refine .inl ⟨_, rfl, ⟨⟨by simp only; omega, by simp only; omega⟩, by simp only; omega, ?_⟩, by simp only; omega, ?_⟩
            · simp only; rw [show ((i : Int) + 1).toNat = i + 1 by omega]; exact w.1.2
            · simp only; rw [show ((i : Int) + 1).toNat = i + 1 by omega, show 5 - (i + 1) = 4 - i by omega]
        · rw [decide_eq_false hl, cd_F, if_neg (by omega)]
          exact .inr rfl
      · rw [cd_f hi, Option.bind_some, cd_F, show 5 - i = 0 by omega]
        exact .inr rfl) (0, 0) ⟨⟨by simp, by simp⟩, by simp, by simp [pw]⟩
    rw [key]
    unfold g3
    simp only [Int.toNat_zero, Nat.sub_zero, Option.bind_some]
    cases gl b a 5 0 0 <;> rfl
  · rw [decide_eq_false (by omega)]
    unfold g3 gl
    rw [if_neg (by omega)]; rfl
def gN (b : List UInt8) (a : Int) : Option (Int × Int) := if (g3 b a.toNat).2.2 = true then some ((g3 b a.toNat).1, (g3 b a.toNat).2.1) else none
theorem g3_bd {b : List UInt8} {a : Nat} (h : (g3 b a).2.2 = true) : pn (g3 b a).1 ∧ (a : Int) < (g3 b a).2.1 ∧ (g3 b a).2.1 ≤ b.length := by
  unfold g3 at h ⊢
  cases hg : gl b a 5 0 0 with
  | inl u => rw [hg] at h; cases h
  | inr y =>
    obtain ⟨m, k, t⟩ := y
    rw [hg] at h
    simp only [Sum.elim_inr] at h
    subst h
    exact gl_bd b a 5 0 0 (Int.le_refl _) m k hg
end Go.Proofs.YtlgmikaemfbmaaaGreat
namespace Go.Proofs.YtlgmikaemfbmaaaGreat

abbrev Ps (T : Type) := Int → Option (T × Int)
def many {T : Type} (p : Ps T) : Nat → Ps (List T)
  | 0, a => some ([], a)
  | n + 1, a => match p a with
    | none => none
    | some (x, k) => (many p n k).map fun r => (x :: r.1, r.2)
def mapP {A B : Type} (f : A → B) (p : Ps A) : Ps B := fun a => (p a).map fun r => (f r.1, r.2)
def seqP {A B : Type} (p : Ps A) (q : A → Ps B) : Ps (A × B) := fun a => match p a with
  | none => none
  | some (x, k) => (q x k).map fun r => ((x, r.1), r.2)
def Mon {T : Type} (p : Ps T) : Prop := ∀ a x k, p a = some (x, k) → a ≤ k
def Str {T : Type} (p : Ps T) : Prop := ∀ a x k, p a = some (x, k) → a < k
theorem Str.mon {T : Type} {p : Ps T} (h : Str p) : Mon p := fun a x k e => Int.le_of_lt (h a x k e)
theorem many_mon {T : Type} {p : Ps T} (h : Mon p) : ∀ n, Mon (many p n)
  | 0 => fun a x k e => by cases e; exact Int.le_refl _
  | n + 1 => fun a x k e => by
    rw [many] at e
    cases hp : p a with
    | none => rw [hp] at e; cases e
    | some r =>
      rw [hp] at e
      simp only at e
      cases hm : many p n r.2 with
      | none => rw [hm] at e; cases e
      | some q =>
        rw [hm] at e
        simp only [Option.map_some, Option.some.injEq, Prod.mk.injEq] at e
        have h1 := h a r.1 r.2 hp
        have h2 := many_mon h n r.2 q.1 q.2 hm
        omega
theorem mapP_str {A B : Type} {f : A → B} {p : Ps A} (h : Str p) : Str (mapP f p) := fun a x k e => by
  unfold mapP at e
  cases hp : p a with
  | none => rw [hp] at e; cases e
  | some r =>
    rw [hp] at e
    simp only [Option.map_some, Option.some.injEq, Prod.mk.injEq] at e
    have := h a r.1 r.2 hp
    omega
theorem mapP_mon {A B : Type} {f : A → B} {p : Ps A} (h : Mon p) : Mon (mapP f p) := fun a x k e => by
  unfold mapP at e
  cases hp : p a with
  | none => rw [hp] at e; cases e
  | some r =>
    rw [hp] at e
    simp only [Option.map_some, Option.some.injEq, Prod.mk.injEq] at e
    have := h a r.1 r.2 hp
    omega
theorem seqP_str {A B : Type} {p : Ps A} {q : A → Ps B} (h : Str p) (k0 : ∀ x, Mon (q x)) : Str (seqP p q) := fun a x k e => by
  unfold seqP at e
  cases hp : p a with
  | none => rw [hp] at e; cases e
  | some r =>
    rw [hp] at e
    simp only at e
    cases hq : q r.1 r.2 with
    | none => rw [hq] at e; cases e
    | some u =>
      rw [hq] at e
      simp only [Option.map_some, Option.some.injEq, Prod.mk.injEq] at e
      have h1 := h a r.1 r.2 hp
      have h2 := k0 r.1 r.2 u.1 u.2 hq
      omega
theorem gN_get {b : List UInt8} {a n k : Int} (h : gN b a = some (n, k)) (h0 : 0 ≤ a) : pn n ∧ a < k ∧ k ≤ b.length := by
  unfold gN at h
  split at h
  · rename_i ht
    have g := g3_bd ht
    simp only [Option.some.injEq, Prod.mk.injEq] at h
    rw [← h.1, ← h.2]
    exact ⟨g.1, by omega, g.2.2⟩
  · cases h
/-- As gN, but nothing ahead of the bytes. -/
def gM (b : List UInt8) : Ps Int := fun a => if 0 ≤ a then gN b a else none
theorem gM_str (b : List UInt8) : Str (gM b) := fun a x k e => by
  unfold gM at e
  split at e
  · rename_i h0; exact (gN_get e h0).2.1
  · cases e
/-- What one reader has done. -/
structure Out {T : Type} (b : List UInt8) (a : Int) (bad : Bool) (p : Option (T × Int)) (Sz : T → Prop) (x : T) (b' : List UInt8) (a' : Int) (bad' : Bool) : Prop where
  eb : b' = b
  lo : 0 ≤ a'
  hi : a' ≤ b.length
  sz : Sz x
  kb : bad = true → bad' = true
  ok : bad = false → match p with
    | some (y, k) => x = y ∧ a' = k ∧ bad' = false
    | none => bad' = true
theorem Out.seq {A B : Type} {b b1 b2 : List UInt8} {a a1 a2 : Int} {c c1 c2 : Bool} {p : Ps A} {q : A → Ps B} {S : A → Prop} {R : B → Prop} {x : A} {y : B}
    (h : Out b a c (p a) S x b1 a1 c1) (k : Out b a1 c1 (q x a1) R y b2 a2 c2) : Out b a c (seqP p q a) (fun z => S z.1 ∧ R z.2) (x, y) b2 a2 c2 := by
  refine ⟨k.eb, k.lo, k.hi, ⟨h.sz, k.sz⟩, fun e => k.kb (h.kb e), fun e => ?_⟩
  have h1 := h.ok e
  unfold seqP
  cases hp : p a with
  | none => rw [hp] at h1; exact k.kb h1
  | some r =>
    obtain ⟨x', k'⟩ := r
    rw [hp] at h1
    simp only at h1 ⊢
    obtain ⟨rfl, rfl, h1⟩ := h1
    have h2 := k.ok h1
    cases hq : q x a1 with
    | none => rw [hq] at h2; exact h2
    | some u => rw [hq] at h2; simp only [Option.map_some]; exact ⟨by rw [h2.1], h2.2⟩
theorem Out.map {A B : Type} {b b1 : List UInt8} {a a1 : Int} {c c1 : Bool} {p : Ps A} {S : A → Prop} {R : B → Prop} {x : A} (f : A → B) (h : Out b a c (p a) S x b1 a1 c1) (hf : S x → R (f x)) : Out b a c (mapP f p a) R (f x) b1 a1 c1 := by
  refine ⟨h.eb, h.lo, h.hi, hf h.sz, h.kb, fun e => ?_⟩
  have h1 := h.ok e
  unfold mapP
  cases hp : p a with
  | none => rw [hp] at h1; exact h1
  | some r => rw [hp] at h1; simp only [Option.map_some]; exact ⟨by rw [h1.1], h1.2⟩

theorem loop_gen {σ ρ T : Type} {F : σ → Option (Lr σ ρ)} (b : List UInt8) (cnt at_ : σ → Int) (bad : σ → Bool) (bs : σ → List UInt8) (out : σ → List T) (I : σ → Prop) (R : σ → ρ → Prop) (p : Ps T) (Sz : T → Prop) (hp : Str p)
    (hs : ∀ s, I s → bs s = b → 0 ≤ at_ s → at_ s ≤ b.length → ((out s).length : Int) ≤ b.length + 1 →
      (0 < cnt s ∧ bad s = false → ∃ s' x, F s = some (.go s') ∧ I s' ∧ cnt s' = cnt s - 1 ∧ out s' = out s ++ [x] ∧ Out b (at_ s) (bad s) (p (at_ s)) Sz x (bs s') (at_ s') (bad s')) ∧
      (¬ (0 < cnt s ∧ bad s = false) → ∃ y, F s = some (.out y) ∧ R s y))
    (s0 : σ) (h0 : I s0) (hb0 : bs s0 = b) (ha : 0 ≤ at_ s0) (hb : at_ s0 ≤ b.length) (hc : 0 ≤ cnt s0) (ho : out s0 = []) :
    ∃ y s, iter F s0 = some y ∧ R s y ∧ I s ∧ Out b (at_ s0) (bad s0) (many p (cnt s0).toNat (at_ s0)) (fun l => (l.length : Int) ≤ b.length + 1 ∧ ∀ x ∈ l, Sz x) (out s) (bs s) (at_ s) (bad s) := by
  obtain ⟨y, h1, s, h2⟩ := iter_ex (f := F) (fun s => I s ∧ bs s = b ∧ (0 ≤ at_ s ∧ at_ s ≤ b.length) ∧ (∀ x ∈ out s, Sz x) ∧
      (bad s = false → ((out s).length : Int) ≤ at_ s ∧ 0 ≤ cnt s ∧ bad s0 = false ∧ many p (cnt s0).toNat (at_ s0) = (many p (cnt s).toNat (at_ s)).map fun r => (out s ++ r.1, r.2)) ∧
      (bad s = true → ((out s).length : Int) ≤ b.length + 1 ∧ (bad s0 = true ∨ many p (cnt s0).toNat (at_ s0) = none)))
    (fun s => if bad s then 0 else (b.length - at_ s).toNat + 1)
    (fun y => ∃ s, R s y ∧ I s ∧ Out b (at_ s0) (bad s0) (many p (cnt s0).toNat (at_ s0)) (fun l => (l.length : Int) ≤ b.length + 1 ∧ ∀ x ∈ l, Sz x) (out s) (bs s) (at_ s) (bad s)) (fun s hP => by
    obtain ⟨i1, i2, i3, i4, i5, i6⟩ := hP
    have hlen : ((out s).length : Int) ≤ b.length + 1 := by
      cases hbd : bad s with
      | false => have := (i5 hbd).1; omega
      | true => exact (i6 hbd).1
    obtain ⟨g1, g2⟩ := hs s i1 i2 i3.1 i3.2 hlen
    by_cases hc : 0 < cnt s ∧ bad s = false
    · obtain ⟨s', x, e1, e2, e3, e4, e5⟩ := g1 hc
      obtain ⟨j1, j2, j3, j4⟩ := i5 hc.2
      refine .inl ⟨s', e1, ⟨e2, e5.eb, ⟨e5.lo, e5.hi⟩, fun z hz => ?_, fun hb' => ?_, fun hb' => ?_⟩, ?_⟩
      · rw [e4] at hz
        rcases List.mem_append.1 hz with hz | hz
        · exact i4 z hz
        · rw [List.mem_singleton.1 hz]; exact e5.sz
      · have ok := e5.ok hc.2
        cases hpa : p (at_ s) with
        | none => rw [hpa] at ok; rw [hb'] at ok; cases ok
        | some r =>
          obtain ⟨x', k⟩ := r
          rw [hpa] at ok
          simp only at ok
          have hst := hp _ _ _ hpa
          refine ⟨by rw [e4]; simp only [List.length_append, List.length_singleton]; omega, by omega, j3, ?_⟩
          rw [j4, show (cnt s).toNat = (cnt s').toNat + 1 by omega, many, hpa]
          simp only
          rw [ok.2.1, e4, ok.1]
          cases many p (cnt s').toNat k with
          | none => rfl
          | some u => simp
      · have ok := e5.ok hc.2
        refine ⟨by rw [e4]; simp only [List.length_append, List.length_singleton]; omega, .inr ?_⟩
        cases hpa : p (at_ s) with
        | none => rw [j4, show (cnt s).toNat = (cnt s').toNat + 1 by omega, many, hpa]; rfl
        | some r =>
          rw [hpa] at ok
          simp only at ok
          rw [hb'] at ok
          cases ok.2.2
      · rw [hc.2]
        have ok := e5.ok hc.2
        cases hb' : bad s' with
        | true => simp
        | false =>
          cases hpa : p (at_ s) with
          | none => rw [hpa] at ok; rw [hb'] at ok; cases ok
          | some r =>
            rw [hpa] at ok
            simp only at ok
            have hst := hp _ _ _ hpa
            simp only [Bool.false_eq_true, if_false]
            have k1 := ok.2.1
            have k2 := e5.hi
            omega
    · obtain ⟨y, e1, e2⟩ := g2 hc
      refine .inr ⟨y, e1, s, e2, i1, i2, i3.1, i3.2, ⟨hlen, i4⟩, fun hb' => ?_, fun hb' => ?_⟩
      · cases hbd : bad s with
        | true => rfl
        | false => have := (i5 hbd).2.2.1; rw [hb'] at this; cases this
      · cases hbd : bad s with
        | true =>
          rcases (i6 hbd).2 with k | k
          · rw [hb'] at k; cases k
          · rw [k]
        | false =>
          obtain ⟨j1, j2, j3, j4⟩ := i5 hbd
          have hz : (cnt s).toNat = 0 := by
            have : ¬ 0 < cnt s := fun k => hc ⟨k, hbd⟩
            omega
          rw [j4, hz, many]
          simp) s0 ⟨h0, hb0, ⟨ha, hb⟩, fun x hx => (by rw [ho] at hx; cases hx), fun hb' => ⟨by rw [ho]; simpa using ha, hc, hb', by
            rw [ho]
            cases many p (cnt s0).toNat (at_ s0) with
            | none => rfl
            | some u => simp⟩, fun hb' => ⟨by rw [ho]; simp; omega, .inl hb'⟩⟩
  exact ⟨y, s, h1, h2⟩

-- The program's reader
theorem i_num {b : List UInt8} (hb : b.length ≤ 1048576) {r : DReader} (h : r.b = b ∧ 0 ≤ r.at_ ∧ r.at_ ≤ b.length) : ∃ n r', x_impl_reader_num r = some (n, r') ∧ Out b r.at_ r.bad (gM b r.at_) pn n r'.b r'.at_ r'.bad := by
  obtain ⟨rb, ra, rbad⟩ := r
  obtain ⟨rfl, h1, h2⟩ := h
  simp only at h1 h2 hb ⊢
  obtain ⟨a, rfl⟩ := Int.eq_ofNat_of_zero_le h1
  unfold x_impl_reader_num
  simp only
  rw [i_GetNum hb a (by omega), Option.bind_some]
  have e : gM rb (a : Int) = if (g3 rb a).2.2 = true then some ((g3 rb a).1, (g3 rb a).2.1) else none := by unfold gM gN; rw [if_pos h1, Int.toNat_natCast]
  rw [e]
  cases hg : (g3 rb a).2.2 with
  | false => exact ⟨_, _, rfl, ⟨rfl, h1, h2, ⟨by omega, by omega⟩, fun _ => rfl, fun _ => rfl⟩⟩
  | true =>
    have g := g3_bd hg
    cases rbad with
    | true => exact ⟨_, _, rfl, ⟨rfl, h1, h2, ⟨by omega, by omega⟩, fun _ => rfl, (fun k => by cases k)⟩⟩
    | false => exact ⟨_, _, rfl, ⟨rfl, by simp only; omega, by simp only; omega, g.1, (fun k => by cases k), fun _ => ⟨rfl, rfl, rfl⟩⟩⟩
theorem i_nums {b : List UInt8} (hb : b.length ≤ 1048576) {r : DReader} (h : r.b = b ∧ 0 ≤ r.at_ ∧ r.at_ ≤ b.length) {c : Int} (hc : 0 ≤ c ∧ c ≤ 1114111000) :
    ∃ l r', x_impl_reader_nums r c = some (l, r') ∧ Out b r.at_ r.bad (many (gM b) c.toNat r.at_) (fun l => (l.length : Int) ≤ b.length + 1 ∧ ∀ x ∈ l, pn x) l r'.b r'.at_ r'.bad := by
  unfold x_impl_reader_nums
  obtain ⟨y, s, h1, h2, h3, h4⟩ := loop_gen (F := x_impl_reader_nums_f0 c) b (fun s => c - s.2.1) (fun s => s.2.2.2.1) (fun s => s.2.2.2.2) (fun s => s.2.2.1) (fun s => s.1) (fun s => 0 ≤ s.2.1 ∧ s.2.1 ≤ c) (fun s y => y = (s.1, s.2.2.1, s.2.2.2.1, s.2.2.2.2)) (gM b) pn (gM_str b) (fun s hI e1 a0 a1 hl => by
    obtain ⟨o, i, l, a, bad⟩ := s
    simp only at hI e1 a0 a1 hl ⊢
    subst e1
    unfold x_impl_reader_nums_f0 x_impl_reader_nums_b0
    simp only
    refine ⟨fun hg => ?_, fun hg => ?_⟩
    · obtain ⟨n, r', q1, q2⟩ := i_num hb (r := ⟨l, a, bad⟩) ⟨rfl, a0, a1⟩
      rw [cd_t (by omega), Option.bind_some, hg.2, Bool.not_false, cd_T]
      rw [hg.2] at q1 q2
      rw [q1, Option.bind_some, xg_of (by omega), xg_I (by omega) (by omega)]
      exact ⟨_, n, rfl, ⟨by simp only; omega, by simp only; omega⟩, by simp only; omega, rfl, q2⟩
    · by_cases hi : i < c
      · cases bad with
        | false => exact absurd ⟨by omega, rfl⟩ hg
        | true => rw [cd_t hi, Option.bind_some, Bool.not_true, cd_F]; exact ⟨_, rfl, rfl⟩
      · rw [cd_f hi, Option.bind_some, cd_F]; exact ⟨_, rfl, rfl⟩) ([], 0, r.b, r.at_, r.bad) ⟨by simp, hc.1⟩ h.1 h.2.1 h.2.2 (by simp only; omega) rfl
  rw [h1, Option.bind_some, h2]
  simp only [Int.sub_zero] at h4
  exact ⟨_, _, rfl, h4⟩
end Go.Proofs.YtlgmikaemfbmaaaGreat
namespace Go.Proofs.YtlgmikaemfbmaaaGreat

theorem seqP_some {A B : Type} {p : Ps A} {q : A → Ps B} {a k : Int} {x : A} {y : B} : seqP p q a = some ((x, y), k) ↔ ∃ k1, p a = some (x, k1) ∧ q x k1 = some (y, k) := by
  unfold seqP
  cases hp : p a with
  | none => simp
  | some r =>
    obtain ⟨x', k1⟩ := r
    simp only
    cases hq : q x' k1 with
    | none =>
      simp only [Option.map_none, Option.some.injEq, Prod.mk.injEq]
      refine ⟨(fun h => by cases h), ?_⟩
      rintro ⟨_, ⟨rfl, rfl⟩, h⟩
      rw [hq] at h; cases h
    | some u =>
      obtain ⟨y', k'⟩ := u
      simp only [Option.map_some, Option.some.injEq, Prod.mk.injEq]
      constructor
      · rintro ⟨⟨rfl, rfl⟩, rfl⟩; exact ⟨k1, ⟨rfl, rfl⟩, hq⟩
      · rintro ⟨_, ⟨rfl, rfl⟩, h⟩
        rw [hq] at h
        simp only [Option.some.injEq, Prod.mk.injEq] at h
        exact ⟨⟨rfl, h.1⟩, h.2⟩
theorem mapP_some {A B : Type} {f : A → B} {p : Ps A} {a k : Int} {z : B} : mapP f p a = some (z, k) ↔ ∃ x, p a = some (x, k) ∧ f x = z := by
  unfold mapP
  cases hp : p a with
  | none => simp
  | some r =>
    obtain ⟨x, k'⟩ := r
    simp only [Option.map_some, Option.some.injEq, Prod.mk.injEq]
    constructor
    · rintro ⟨h, rfl⟩; exact ⟨x, ⟨rfl, rfl⟩, h⟩
    · rintro ⟨_, ⟨rfl, rfl⟩, h⟩; exact ⟨h, rfl⟩
theorem many_some {T : Type} {p : Ps T} : ∀ {n : Nat} {a k : Int} {x : T} {l : List T}, many p (n + 1) a = some (x :: l, k) ↔ ∃ k1, p a = some (x, k1) ∧ many p n k1 = some (l, k) := by
  intro n a k x l
  rw [many]
  cases hp : p a with
  | none => simp
  | some r =>
    obtain ⟨x', k1⟩ := r
    simp only
    cases hm : many p n k1 with
    | none =>
      simp only [Option.map_none, Option.some.injEq, Prod.mk.injEq]
      refine ⟨(fun h => by cases h), ?_⟩
      rintro ⟨_, ⟨rfl, rfl⟩, h⟩
      rw [hm] at h; cases h
    | some u =>
      obtain ⟨l', k'⟩ := u
      simp only [Option.map_some, Option.some.injEq, Prod.mk.injEq, List.cons.injEq]
      constructor
      · rintro ⟨⟨rfl, rfl⟩, rfl⟩; exact ⟨k1, ⟨rfl, rfl⟩, hm⟩
      · rintro ⟨_, ⟨rfl, rfl⟩, h⟩
        rw [hm] at h
        simp only [Option.some.injEq, Prod.mk.injEq] at h
        exact ⟨⟨rfl, h.1⟩, h.2⟩
theorem many_len {T : Type} {p : Ps T} : ∀ {n : Nat} {a k : Int} {l : List T}, many p n a = some (l, k) → l.length = n
  | 0, a, k, l, h => by rw [many] at h; simp only [Option.some.injEq, Prod.mk.injEq] at h; rw [← h.1]; rfl
  | n + 1, a, k, l, h => by
    cases l with
    | nil =>
      rw [many] at h
      cases hp : p a with
      | none => rw [hp] at h; cases h
      | some r =>
        rw [hp] at h
        simp only at h
        cases hm : many p n r.2 with
        | none => rw [hm] at h; cases h
        | some u => rw [hm] at h; simp at h
    | cons x l =>
      obtain ⟨k1, _, h2⟩ := many_some.1 h
      rw [List.length_cons, many_len h2]
def Le {T : Type} (p q : Ps T) : Prop := ∀ a x k, p a = some (x, k) → q a = some (x, k)
def Ge {T : Type} (good : T → Prop) (p q : Ps T) : Prop := ∀ a x k, p a = some (x, k) → good x → q a = some (x, k)
theorem Le.rfl {T : Type} {p : Ps T} : Le p p := fun _ _ _ h => h
theorem Le.many {T : Type} {p q : Ps T} (h : Le p q) : ∀ n, Le (many p n) (many q n)
  | 0 => fun _ _ _ e => e
  | n + 1 => fun a l k e => by
    cases l with
    | nil => have := many_len e; simp at this
    | cons x l =>
      obtain ⟨k1, h1, h2⟩ := many_some.1 e
      exact many_some.2 ⟨k1, h _ _ _ h1, Le.many h n _ _ _ h2⟩
theorem Ge.many {T : Type} {good : T → Prop} {p q : Ps T} (h : Ge good p q) : ∀ n, Ge (fun l => ∀ x ∈ l, good x) (many p n) (many q n)
  | 0 => fun _ _ _ e _ => e
  | n + 1 => fun a l k e g => by
    cases l with
    | nil => have := many_len e; simp at this
    | cons x l =>
      obtain ⟨k1, h1, h2⟩ := many_some.1 e
      exact many_some.2 ⟨k1, h _ _ _ h1 (g x (by simp)), Ge.many h n _ _ _ h2 fun y hy => g y (by simp [hy])⟩
theorem Le.map {A B : Type} {f : A → B} {p q : Ps A} (h : Le p q) : Le (mapP f p) (mapP f q) := fun a z k e => by
  obtain ⟨x, h1, h2⟩ := mapP_some.1 e
  exact mapP_some.2 ⟨x, h _ _ _ h1, h2⟩
theorem Le.seq {A B : Type} {p p' : Ps A} {q q' : A → Ps B} (h : Le p p') (k : ∀ x, Le (q x) (q' x)) : Le (seqP p q) (seqP p' q') := fun a z k0 e => by
  obtain ⟨x, y⟩ := z
  obtain ⟨k1, h1, h2⟩ := seqP_some.1 e
  exact seqP_some.2 ⟨k1, h _ _ _ h1, k x _ _ _ h2⟩
def lst {T : Type} (c : Ps Int) (p : Ps T) : Ps (List T) := mapP Prod.snd (seqP c fun n => many p n.toNat)
theorem Le.lst {T : Type} {c c' : Ps Int} {p q : Ps T} (hc : Le c c') (h : Le p q) : Le (lst c p) (lst c' q) := Le.map (Le.seq hc fun n => Le.many h n.toNat)
-- What is read
def bodyI (b : List UInt8) (h : Int) : Ps (Int × List Int) := if h % 4 = 2 then mapP (fun l => ((0 : Int), l)) (many (gM b) (h / 4).toNat) else fun a => some ((h / 4, []), a)
def mkP (z : Int × (Int × List Int)) : DPart := ⟨z.1 % 4, z.2.1, z.2.2⟩
def partI (b : List UInt8) : Ps DPart := mapP mkP (seqP (gM b) (bodyI b))
def opI (b : List UInt8) : Ps (List DPart) := lst (gM b) (partI b)
def mkE (z : (Int × Int) × List DPart) : DEntry := ⟨z.1.1, z.1.2, z.2⟩
def entI (b : List UInt8) : Ps DEntry := mapP mkE (seqP (seqP (gM b) fun _ => gM b) fun _ => opI b)
def mkS (z : (Int × Int) × Int) : DSeen := ⟨z.1.1, z.1.2, z.2⟩
def seenP (b : List UInt8) : Ps DSeen := mapP mkS (seqP (seqP (gM b) fun _ => gM b) fun _ => gM b)
abbrev D4 := ((Int × List Int) × List DEntry) × List DSeen
def docI (b : List UInt8) : Ps D4 := seqP (seqP (seqP (gM b) fun _ => lst (gM b) (gM b)) fun _ => lst (gM b) (entI b)) fun _ => lst (gM b) (seenP b)
def mkD (name : ByteArray) (z : D4) : DDoc := ⟨name, z.1.1.1, z.1.1.2, z.1.2, z.2⟩
theorem body_mon (b : List UInt8) (h : Int) : Mon (bodyI b h) := by
  unfold bodyI
  split
  · exact mapP_mon (many_mon (gM_str b).mon _)
  · intro a x k e
    simp only [Option.some.injEq, Prod.mk.injEq] at e
    omega
theorem partI_str (b : List UInt8) : Str (partI b) := mapP_str (seqP_str (gM_str b) (body_mon b))
theorem lst_str {T : Type} {c : Ps Int} {p : Ps T} (hc : Str c) (hp : Mon p) : Str (lst c p) := mapP_str (seqP_str hc fun n => many_mon hp n.toNat)
theorem opI_str (b : List UInt8) : Str (opI b) := lst_str (gM_str b) (partI_str b).mon
theorem entI_str (b : List UInt8) : Str (entI b) := mapP_str (seqP_str (seqP_str (gM_str b) fun _ => (gM_str b).mon) fun _ => (opI_str b).mon)
theorem seenP_str (b : List UInt8) : Str (seenP b) := mapP_str (seqP_str (seqP_str (gM_str b) fun _ => (gM_str b).mon) fun _ => (gM_str b).mon)
-- Sizes
def szP (b : List UInt8) (p : DPart) : Prop := (p.signs.length : Int) ≤ b.length + 1
def szO (b : List UInt8) (o : List DPart) : Prop := (o.length : Int) ≤ b.length + 1 ∧ ∀ p ∈ o, szP b p
def szE (b : List UInt8) (e : DEntry) : Prop := szO b e.o
theorem Out.ret {T : Type} {b : List UInt8} {a : Int} {c : Bool} {S : T → Prop} {x : T} (h0 : 0 ≤ a) (h1 : a ≤ b.length) (hs : S x) : Out b a c (some (x, a)) S x b a c := ⟨rfl, h0, h1, hs, fun h => h, fun h => ⟨rfl, rfl, h⟩⟩
theorem Out.weak {T : Type} {b b' : List UInt8} {a a' : Int} {c c' : Bool} {p : Option (T × Int)} {S R : T → Prop} {x : T} (h : Out b a c p S x b' a' c') (hf : S x → R x) : Out b a c p R x b' a' c' := ⟨h.eb, h.lo, h.hi, hf h.sz, h.kb, h.ok⟩
end Go.Proofs.YtlgmikaemfbmaaaGreat
namespace Go.Proofs.YtlgmikaemfbmaaaGreat

theorem i_op {b : List UInt8} (hb : b.length ≤ 1048576) {r : DReader} (h : r.b = b ∧ 0 ≤ r.at_ ∧ r.at_ ≤ b.length) : ∃ o r', x_impl_reader_op r = some (o, r') ∧ Out b r.at_ r.bad (opI b r.at_) (szO b) o r'.b r'.at_ r'.bad := by
  obtain ⟨n, r1, q1, q2⟩ := i_num hb h
  have hn := q2.sz
  unfold x_impl_reader_op
  rw [q1, Option.bind_some]
  obtain ⟨y, s, h1, h2, h3, h4⟩ := loop_gen (F := x_impl_reader_op_f0 (n, r1)) b (fun s => n - s.2.1) (fun s => s.2.2.2.1) (fun s => s.2.2.2.2) (fun s => s.2.2.1) (fun s => s.1) (fun s => 0 ≤ s.2.1 ∧ s.2.1 ≤ n) (fun s y => y = (s.1, s.2.2.1, s.2.2.2.1, s.2.2.2.2)) (partI b) (szP b) (partI_str b) (fun s hI e1 a0 a1 hl => by
    obtain ⟨o, i, l, a, bad⟩ := s
    simp only at hI e1 a0 a1 hl ⊢
    subst e1
    obtain ⟨hn0, hn1⟩ := hn
    unfold x_impl_reader_op_f0 x_impl_reader_op_b0
    simp only
    refine ⟨fun hg => ?_, fun hg => ?_⟩
    · obtain ⟨c, r', p1, p2⟩ := i_num hb (r := ⟨l, a, bad⟩) ⟨rfl, a0, a1⟩
      obtain ⟨hc0, hc1⟩ := p2.sz
      rw [cd_t (by omega), Option.bind_some, hg.2, Bool.not_false, cd_T]
      rw [hg.2] at p1 p2
      rw [p1, Option.bind_some, xg_of ⟨by omega, by omega⟩]
      by_cases hk : c % 4 = 2
      · obtain ⟨m, r2, m1, m2⟩ := i_nums hb (r := r') ⟨p2.eb, p2.lo, p2.hi⟩ (c := c / 4) ⟨by omega, by omega⟩
        rw [cd_t hk, xg_of ⟨by omega, by omega, by omega⟩, m1, Option.bind_some, xg_of (by omega), xg_I (by omega) (by omega)]
        refine ⟨_, ⟨c % 4, 0, m⟩, rfl, ⟨by simp only; omega, by simp only; omega⟩, by simp only; omega, rfl, ?_⟩
        have hbody : Out l r'.at_ r'.bad (bodyI l c r'.at_) (fun z : Int × List Int => (z.2.length : Int) ≤ l.length + 1) (0, m) r2.b r2.at_ r2.bad := by
          unfold bodyI
          rw [if_pos hk]
          exact Out.map (fun l => ((0 : Int), l)) m2 fun z => z.1
        exact Out.map mkP (Out.seq p2 hbody) fun z => z.2
      · rw [cd_f hk, xg_of ⟨by omega, by omega, by omega⟩, xg_of (by omega), xg_I (by omega) (by omega)]
        refine ⟨_, ⟨c % 4, c / 4, []⟩, rfl, ⟨by simp only; omega, by simp only; omega⟩, by simp only; omega, rfl, ?_⟩
        have hbody : Out l r'.at_ r'.bad (bodyI l c r'.at_) (fun z : Int × List Int => (z.2.length : Int) ≤ l.length + 1) (c / 4, []) l r'.at_ r'.bad := by
          unfold bodyI
          rw [if_neg hk]
          exact Out.ret p2.lo p2.hi (by simp; omega)
        have := Out.map mkP (R := szP l) (Out.seq p2 hbody) fun z => z.2
        simp only [p2.eb]
        exact this
    · by_cases hi : i < n
      · cases bad with
        | false => exact absurd ⟨by omega, rfl⟩ hg
        | true => rw [cd_t hi, Option.bind_some, Bool.not_true, cd_F]; exact ⟨_, rfl, rfl⟩
      · rw [cd_f hi, Option.bind_some, cd_F]; exact ⟨_, rfl, rfl⟩) ([], 0, r1.b, r1.at_, r1.bad) ⟨by simp, hn.1⟩ q2.eb q2.lo q2.hi (by have := hn.1; simp only; omega) rfl
  rw [h1, Option.bind_some, h2]
  simp only [Int.sub_zero] at h4
  refine ⟨_, _, rfl, ?_⟩
  exact Out.map Prod.snd (Out.seq (q := fun n => many (partI b) n.toNat) q2 h4) fun z => z.2
-- Entries, and who has been seen
theorem i_ents {b : List UInt8} (hb : b.length ≤ 1048576) {c : Int} {r : DReader} (r0 : DReader) (h : r.b = b ∧ 0 ≤ r.at_ ∧ r.at_ ≤ b.length) (hc : 0 ≤ c ∧ c ≤ 1114111000) :
    ∃ y : List UInt8 × Int × Bool × List DEntry, iter (x_impl_BytesDoc_f0 (c, r0) b) (0, r.b, r.at_, r.bad, []) = some y ∧ Out b r.at_ r.bad (many (entI b) c.toNat r.at_) (fun l => (l.length : Int) ≤ b.length + 1 ∧ ∀ e ∈ l, szE b e) y.2.2.2 y.1 y.2.1 y.2.2.1 := by
  obtain ⟨y, s, h1, h2, h3, h4⟩ := loop_gen (F := x_impl_BytesDoc_f0 (c, r0) b) b (fun s => c - s.1) (fun s => s.2.2.1) (fun s => s.2.2.2.1) (fun s => s.2.1) (fun s => s.2.2.2.2) (fun s => 0 ≤ s.1 ∧ s.1 ≤ c) (fun s y => y = (s.2.1, s.2.2.1, s.2.2.2.1, s.2.2.2.2)) (entI b) (szE b) (entI_str b) (fun s hI e1 a0 a1 hl => by
    obtain ⟨i, l, a, bad, o⟩ := s
    simp only at hI e1 a0 a1 hl ⊢
    subst e1
    unfold x_impl_BytesDoc_f0 x_impl_BytesDoc_b0
    simp only
    refine ⟨fun hg => ?_, fun hg => ?_⟩
    · obtain ⟨x1, s1, p1, p2⟩ := i_num hb (r := ⟨l, a, bad⟩) ⟨rfl, a0, a1⟩
      obtain ⟨x2, s2, p3, p4⟩ := i_num hb (r := s1) ⟨p2.eb, p2.lo, p2.hi⟩
      obtain ⟨x3, s3, p5, p6⟩ := i_op hb (r := s2) ⟨p4.eb, p4.lo, p4.hi⟩
      rw [cd_t (by omega), Option.bind_some, hg.2, Bool.not_false, cd_T]
      rw [hg.2] at p1 p2
      rw [p1, Option.bind_some, p3, Option.bind_some, p5, Option.bind_some, xg_of (by omega), xg_I (by omega) (by omega)]
      exact ⟨_, ⟨x1, x2, x3⟩, rfl, ⟨by simp only; omega, by simp only; omega⟩, by simp only; omega, rfl, Out.map mkE (Out.seq (q := fun _ => opI l) (Out.seq (q := fun _ => gM l) p2 p4) p6) fun z => z.2⟩
    · by_cases hi : i < c
      · cases bad with
        | false => exact absurd ⟨by omega, rfl⟩ hg
        | true => rw [cd_t hi, Option.bind_some, Bool.not_true, cd_F]; exact ⟨_, rfl, rfl⟩
      · rw [cd_f hi, Option.bind_some, cd_F]; exact ⟨_, rfl, rfl⟩) (0, r.b, r.at_, r.bad, []) ⟨by simp, hc.1⟩ h.1 h.2.1 h.2.2 (by simp only; omega) rfl
  simp only [Int.sub_zero] at h4
  exact ⟨y, h1, by rw [h2]; exact h4⟩
theorem i_seens {b : List UInt8} (hb : b.length ≤ 1048576) {c : Int} {r : DReader} (r0 : DReader) (h : r.b = b ∧ 0 ≤ r.at_ ∧ r.at_ ≤ b.length) (hc : 0 ≤ c ∧ c ≤ 1114111000) :
    ∃ y : List UInt8 × Int × Bool × List DSeen, iter (x_impl_BytesDoc_f1 (c, r0) b) (0, r.b, r.at_, r.bad, []) = some y ∧ Out b r.at_ r.bad (many (seenP b) c.toNat r.at_) (fun l => (l.length : Int) ≤ b.length + 1 ∧ ∀ e ∈ l, True) y.2.2.2 y.1 y.2.1 y.2.2.1 := by
  obtain ⟨y, s, h1, h2, h3, h4⟩ := loop_gen (F := x_impl_BytesDoc_f1 (c, r0) b) b (fun s => c - s.1) (fun s => s.2.2.1) (fun s => s.2.2.2.1) (fun s => s.2.1) (fun s => s.2.2.2.2) (fun s => 0 ≤ s.1 ∧ s.1 ≤ c) (fun s y => y = (s.2.1, s.2.2.1, s.2.2.2.1, s.2.2.2.2)) (seenP b) (fun _ => True) (seenP_str b) (fun s hI e1 a0 a1 hl => by
    obtain ⟨i, l, a, bad, o⟩ := s
    simp only at hI e1 a0 a1 hl ⊢
    subst e1
    unfold x_impl_BytesDoc_f1 x_impl_BytesDoc_b1
    simp only
    refine ⟨fun hg => ?_, fun hg => ?_⟩
    · obtain ⟨x1, s1, p1, p2⟩ := i_num hb (r := ⟨l, a, bad⟩) ⟨rfl, a0, a1⟩
      obtain ⟨x2, s2, p3, p4⟩ := i_num hb (r := s1) ⟨p2.eb, p2.lo, p2.hi⟩
      obtain ⟨x3, s3, p5, p6⟩ := i_num hb (r := s2) ⟨p4.eb, p4.lo, p4.hi⟩
      rw [cd_t (by omega), Option.bind_some, hg.2, Bool.not_false, cd_T]
      rw [hg.2] at p1 p2
      rw [p1, Option.bind_some, p3, Option.bind_some, p5, Option.bind_some, xg_of (by omega), xg_I (by omega) (by omega)]
      exact ⟨_, ⟨x1, x2, x3⟩, rfl, ⟨by simp only; omega, by simp only; omega⟩, by simp only; omega, rfl, Out.map mkS (Out.seq (q := fun _ => gM l) (Out.seq (q := fun _ => gM l) p2 p4) p6) fun _ => trivial⟩
    · by_cases hi : i < c
      · cases bad with
        | false => exact absurd ⟨by omega, rfl⟩ hg
        | true => rw [cd_t hi, Option.bind_some, Bool.not_true, cd_F]; exact ⟨_, rfl, rfl⟩
      · rw [cd_f hi, Option.bind_some, cd_F]; exact ⟨_, rfl, rfl⟩) (0, r.b, r.at_, r.bad, []) ⟨by simp, hc.1⟩ h.1 h.2.1 h.2.2 (by simp only; omega) rfl
  simp only [Int.sub_zero] at h4
  exact ⟨y, h1, by rw [h2]; exact h4⟩
end Go.Proofs.YtlgmikaemfbmaaaGreat
namespace Go.Proofs.YtlgmikaemfbmaaaGreat

theorem Out.lst {T : Type} {b b1 b2 : List UInt8} {a a1 a2 : Int} {d d1 d2 : Bool} {c : Ps Int} {p : Ps T} {S : Int → Prop} {R Q : List T → Prop} {x : Int} {l : List T}
    (h : Out b a d (c a) S x b1 a1 d1) (k : Out b a1 d1 (many p x.toNat a1) R l b2 a2 d2) (hf : R l → Q l) : Out b a d (lst c p a) Q l b2 a2 d2 := by
  have h1 := Out.seq (q := fun n => many p n.toNat) h k
  exact Out.map Prod.snd h1 fun z => hf z.2
def szD (b : List UInt8) (z : D4) : Prop := ((z.1.1.2.length : Int) ≤ b.length + 1) ∧ ((z.1.2.length : Int) ≤ b.length + 1 ∧ ∀ e ∈ z.1.2, szE b e) ∧ (z.2.length : Int) ≤ b.length + 1
theorem sm_D {b : List UInt8} (hb : b.length ≤ 1048576) {name : ByteArray} (hn : name.size ≤ 1048576) {z : D4} (h : szD b z) : smDDoc (mkD name z) := by
  obtain ⟨h1, ⟨h2, h3⟩, h4⟩ := h
  refine ⟨?_, trivial, ⟨?_, fun _ _ => trivial⟩, ⟨?_, fun e he => ?_⟩, ⟨?_, fun s _ => ⟨trivial, trivial, trivial⟩⟩⟩
  · unfold smT; show name.size ≤ _; omega
  · show z.1.1.2.length ≤ _; omega
  · show z.1.2.length ≤ _; omega
  · obtain ⟨g1, g2⟩ := h3 e he
    refine ⟨trivial, trivial, ⟨by omega, fun p hp => ?_⟩⟩
    have g3 := g2 p hp
    unfold szP at g3
    exact ⟨trivial, trivial, by omega, fun _ _ => trivial⟩
  · show z.2.length ≤ _; omega
noncomputable def emp : DDoc := ⟨ByteArray.empty, 0, [], [], []⟩
noncomputable def back (name : ByteArray) (b : List UInt8) (o : Option (D4 × Int)) : DDoc × Bool := match o with
  | some (z, _) => if okDoc (mkD name z) = true ∧ encs (docN (mkD name z)) = b then (mkD name z, true) else (emp, false)
  | none => (emp, false)
theorem back_s (name : ByteArray) (b : List UInt8) (z : D4) (k : Int) : back name b (some (z, k)) = if okDoc (mkD name z) = true ∧ encs (docN (mkD name z)) = b then (mkD name z, true) else (emp, false) := rfl
theorem arr_eq (a b : List UInt8) : ((⟨a.toArray⟩ : ByteArray) = ⟨b.toArray⟩) ↔ a = b := by
  constructor
  · intro h
    have : a.toArray = b.toArray := by injection h
    simpa using this
  · intro h; rw [h]
theorem i_tail {b : List UInt8} (hb : b.length ≤ 1048576) {name : ByteArray} (hn : name.size ≤ 1048576) {z : D4} {b' : List UInt8} {a : Int} {bad : Bool} {p : Option (D4 × Int)} (h : Out b 0 false p (szD b) z b' a bad) :
    (Option.bind (x_impl_DocBytes (mkD name z)) fun r422 => Option.bind (bif bad then (some true) else (some (!r422.2))) fun c437 => Option.bind (bif c437 then (some true) else (Option.bind (x_bytes_Equal r422.1 b) fun r455 => some (!r455))) fun c444 => bif c444 then (some (emp, false)) else (some (mkD name z, true))) = some (back name b p) := by
  have hs := sm_D hb hn h.sz
  have ok := h.ok rfl
  cases hk : okDoc (mkD name z) with
  | false =>
    have e : x_impl_DocBytes (mkD name z) = some ([], false) := by unfold x_impl_DocBytes; rw [i_DocOk _ hs, hk]; rfl
    rw [e, Option.bind_some]
    have hb2 : back name b p = (emp, false) := by
      cases p with
      | none => rfl
      | some u =>
        obtain ⟨z', k⟩ := u
        simp only at ok
        rw [← ok.1, back_s, if_neg (fun k => by rw [hk] at k; cases k.1)]
    rw [hb2]
    cases bad <;> rfl
  | true =>
    have e := i_DocBytes hs hk (by have := okDoc_seen hk; omega)
    rw [e, Option.bind_some]
    simp only [Bool.not_true]
    cases p with
    | none => simp only at ok; rw [ok]; rfl
    | some u =>
      obtain ⟨z', k⟩ := u
      simp only at ok
      rw [ok.2.2]
      unfold x_bytes_Equal
      rw [← ok.1, back_s, hk]
      simp only [cd_F, Option.bind_some, true_and]
      by_cases hq : encs (docN (mkD name z)) = b
      · rw [if_pos hq, decide_eq_true ((arr_eq _ _).2 hq)]; rfl
      · rw [if_neg hq, decide_eq_false (fun k => hq ((arr_eq _ _).1 k))]; rfl
theorem i_BytesDoc {b : List UInt8} (hb : b.length ≤ 1048576) {name : ByteArray} (hn : name.size ≤ 1048576) : x_impl_BytesDoc name b = some (back name b (docI b 0)) := by
  obtain ⟨x1, r1, p1, o1⟩ := i_num hb (r := ⟨b, 0, false⟩) ⟨rfl, by simp, by simp⟩
  obtain ⟨x2, r2, p2, o2⟩ := i_num hb (r := r1) ⟨o1.eb, o1.lo, o1.hi⟩
  obtain ⟨x3, r3, p3, o3⟩ := i_nums hb (r := r2) ⟨o2.eb, o2.lo, o2.hi⟩ (c := x2) o2.sz
  obtain ⟨x4, r4, p4, o4⟩ := i_num hb (r := r3) ⟨o3.eb, o3.lo, o3.hi⟩
  obtain ⟨y5, p5, o5⟩ := i_ents hb (r := r4) r4 ⟨o4.eb, o4.lo, o4.hi⟩ (c := x4) o4.sz
  obtain ⟨x6, r6, p6, o6⟩ := i_num hb (r := ⟨y5.1, y5.2.1, y5.2.2.1⟩) ⟨o5.eb, o5.lo, o5.hi⟩
  obtain ⟨y7, p7, o7⟩ := i_seens hb (r := r6) r6 ⟨o6.eb, o6.lo, o6.hi⟩ (c := x6) o6.sz
  have t : Out b r1.at_ r1.bad (lst (gM b) (gM b) r1.at_) (fun l => (l.length : Int) ≤ b.length + 1) x3 r3.b r3.at_ r3.bad := Out.lst o2 o3 fun z => z.1
  have l : Out b r3.at_ r3.bad (lst (gM b) (entI b) r3.at_) (fun l => (l.length : Int) ≤ b.length + 1 ∧ ∀ e ∈ l, szE b e) y5.2.2.2 y5.1 y5.2.1 y5.2.2.1 := Out.lst o4 o5 fun z => z
  have s : Out b y5.2.1 y5.2.2.1 (lst (gM b) (seenP b) y5.2.1) (fun l => (l.length : Int) ≤ b.length + 1) y7.2.2.2 y7.1 y7.2.1 y7.2.2.1 := Out.lst o6 o7 fun z => z.1
  have all : Out b 0 false (docI b 0) (szD b) (((x1, x3), y5.2.2.2), y7.2.2.2) y7.1 y7.2.1 y7.2.2.1 :=
    Out.weak (Out.seq (q := fun _ => lst (gM b) (seenP b)) (Out.seq (q := fun _ => lst (gM b) (entI b)) (Out.seq (q := fun _ => lst (gM b) (gM b)) o1 t) l) s) fun z => ⟨z.1.1.2, z.1.2, z.2⟩
  unfold x_impl_BytesDoc
  rw [p1, Option.bind_some]
  simp only
  rw [p2, Option.bind_some]
  simp only
  rw [p3, Option.bind_some]
  simp only
  rw [p4, Option.bind_some]
  simp only
  rw [p5, Option.bind_some, p6, Option.bind_some]
  simp only
  rw [p7, Option.bind_some]
  have e := i_tail hb hn all
  simp only [mkD, emp] at e
  exact e
end Go.Proofs.YtlgmikaemfbmaaaGreat
