/- Numbers as bytes, and documents as bytes. No condition. -/
import Derived.Test.YtmcakofnolmhpaaMx
import Derived.Test.YtmcakofnolmhpaaD2
namespace Go.Proofs.Ytmcakofnolmhpaa

def ini (n : Nat) : List UInt8 := if n < 128 then [] else y8 ((n : Int) % 128 + 128) :: ini (n / 128)
termination_by n
decreasing_by omega
def top (n : Nat) : Nat := if n < 128 then n else top (n / 128)
termination_by n
decreasing_by omega
def enc (n : Int) : List UInt8 := ini n.toNat ++ [y8 (top n.toNat : Nat)]
def pn (n : Int) : Prop := 0 ≤ n ∧ n ≤ 1114111000
theorem ini_len : ∀ (k n : Nat), n < 128 ^ (k + 1) → (ini n).length ≤ k
  | 0, n, h => by rw [ini, if_pos (by simpa using h)]; simp
  | k + 1, n, h => by
    rw [ini]
    split
    · simp
    · have := ini_len k (n / 128) (by rw [Nat.pow_succ] at h; omega)
      simp only [List.length_cons]; omega
theorem enc_len {n : Int} (h : pn n) : (enc n).length ≤ 5 := by
  have := ini_len 4 n.toNat (by have := h.2; have := h.1; show n.toNat < 34359738368; omega)
  unfold enc; simp; omega
theorem i_num_loop (b : List UInt8) (n : Nat) (hb : (b.length : Int) + n ≤ 1000000000000) : iter x_impl_PutNum_f0 ((n : Int), b) = some ((top n : Int), b ++ ini n) := by
  have h := iter_go (f := x_impl_PutNum_f0) (fun s => 0 ≤ s.1 ∧ (s.2.length : Int) + s.1 ≤ 1000000000000) (fun s => s.1.toNat) (fun s => ((top s.1.toNat : Int), s.2 ++ ini s.1.toNat)) (fun s hP => by
    obtain ⟨m, o⟩ := s
    obtain ⟨h1, h2⟩ := hP
    simp only at h1 h2 ⊢
    obtain ⟨m, rfl⟩ := Int.eq_ofNat_of_zero_le h1
    unfold x_impl_PutNum_f0 x_impl_PutNum_b0
    simp only
    by_cases hm : (128 : Int) ≤ m
    · rw [cd_t hm, xg_of ⟨by omega, by omega⟩, xg_I (by omega) (by omega), xg_of (by omega), xg_of ⟨by omega, by omega, by omega⟩]
      refine .inl ⟨_, rfl, ⟨by simp only; omega, by simp only [List.length_append, List.length_singleton]; omega⟩, by simp only; omega, ?_⟩
      simp only
      rw [show ((m : Int) / 128).toNat = m / 128 by omega, Int.toNat_natCast]
      conv => lhs; rw [top, ini, if_neg (by omega), if_neg (by omega)]
      simp
    · rw [cd_f hm]
      refine .inr ?_
      rw [Int.toNat_natCast, top, ini, if_pos (by omega), if_pos (by omega)]; simp) ((n : Int), b) ⟨by simp only; omega, hb⟩
  simpa using h
theorem f0_same : x_spec_PutNum_f0 = x_impl_PutNum_f0 := by
  funext s
  unfold x_spec_PutNum_f0 x_impl_PutNum_f0 x_spec_PutNum_b0 x_impl_PutNum_b0
  rw [Int.add_comm 128 (s.1 % 128), show decide ((127 : Int) < s.1) = decide ((128 : Int) ≤ s.1) from decide_eq_decide.2 (by omega)]
theorem i_PutNum {b : List UInt8} {n : Int} (hb : b.length ≤ 100000000000) (hn : pn n) : x_impl_PutNum b n = some (b ++ enc n, true) := by
  obtain ⟨h1, h2⟩ := hn
  obtain ⟨m, rfl⟩ := Int.eq_ofNat_of_zero_le h1
  have l1 := ini_len 4 m (by show m < 34359738368; omega)
  unfold x_impl_PutNum enc
  rw [i_within, Option.bind_some, decide_eq_true ⟨h1, h2⟩, Bool.not_true, cd_F, xg_of (by omega), List.nil_append, i_num_loop b m (by omega), Option.bind_some, xg_of (by simp only [List.length_append]; omega)]
  simp
theorem s_Num {b : List UInt8} {n : Int} (hb : b.length ≤ 100000000000) (hn : pn n) : x_spec_l21Num b n = some (b ++ enc n) := by
  obtain ⟨h1, h2⟩ := hn
  obtain ⟨m, rfl⟩ := Int.eq_ofNat_of_zero_le h1
  have l1 := ini_len 4 m (by show m < 34359738368; omega)
  unfold x_spec_l21Num x_spec_PutNum enc
  rw [s_In, Option.bind_some, decide_eq_true ⟨h1, h2⟩, Bool.not_true, cd_F, xg_of (by omega), List.nil_append, f0_same, i_num_loop b m (by omega), Option.bind_some, xg_of (by simp only [List.length_append]; omega)]
  simp
def encs (l : List Int) : List UInt8 := l.flatMap enc
def pns (l : List Int) : Prop := ∀ n ∈ l, pn n
theorem encs_len : ∀ {l : List Int}, pns l → (encs l).length ≤ 5 * l.length
  | [], _ => by simp [encs]
  | x :: l, h => by
    have h1 := enc_len (h x (by simp))
    have h2 := encs_len (l := l) fun n hn => h n (by simp [hn])
    unfold encs at *
    simp only [List.flatMap_cons, List.length_append, List.length_cons]; omega
theorem pns_cons {x : Int} {l : List Int} (h : pn x) (k : pns l) : pns (x :: l) := fun n hn => by
  rcases List.mem_cons.1 hn with rfl | hn
  · exact h
  · exact k n hn
theorem pns_app {a b : List Int} (h : pns a) (k : pns b) : pns (a ++ b) := fun n hn => (List.mem_append.1 hn).elim (h n) (k n)
theorem pns_nil : pns [] := fun _ h => by cases h
theorem encs_cons (x : Int) (l : List Int) : encs (x :: l) = enc x ++ encs l := rfl
theorem encs_app (a b : List Int) : encs (a ++ b) = encs a ++ encs b := by unfold encs; rw [List.flatMap_append]
theorem i_putNums {b : List UInt8} {l : List Int} (hb : (b.length : Int) + 5 * l.length ≤ 100000000000) (hl : pns l) : x_impl_putNums b l = some (b ++ encs l, true) := by
  unfold x_impl_putNums
  rw [xg_of (by omega), List.nil_append, each_run (F := x_impl_putNums_f0 l) (e := fun (s : List UInt8) => (Sum.inl s : Sum (List UInt8) Unit)) l (fun r _ s => pns r ∧ (s.length : Int) + 5 * r.length ≤ 100000000000) (fun r _ s => Sum.inl (s ++ encs r)) (fun s _ => by simp [encs]) (fun x r k s hk hx hP => by
    have hp := hP.1 x (by simp)
    have h5 := enc_len hp
    have h6 := hP.2
    simp only [List.length_cons] at h6
    unfold x_impl_putNums_f0 x_impl_putNums_b0
    rw [hx, i_PutNum (by omega) hp, Option.bind_some]
    exact .inl ⟨_, rfl, ⟨fun n hn => hP.1 n (by simp [hn]), by rw [List.length_append]; omega⟩, by rw [encs_cons, List.append_assoc]⟩) b ⟨hl, hb⟩]
  rfl
theorem s_nums {F : Nat → List UInt8 → Option (Lr (List UInt8) (List UInt8))} (l : List Int) (hF : ∀ k s, F k s = Option.bind (x_spec_l21Num s (el l k)) fun r => some (Lr.go r)) {b : List UInt8} (hb : (b.length : Int) + 5 * l.length ≤ 100000000000) (hl : pns l) :
    eachN F (fun (s : List UInt8) => (s : List UInt8)) l.length 0 b = some (b ++ encs l) :=
  each_run (F := F) (e := fun (s : List UInt8) => s) l (fun r _ s => pns r ∧ (s.length : Int) + 5 * r.length ≤ 100000000000) (fun r _ s => s ++ encs r) (fun s _ => by simp [encs]) (fun x r k s hk hx hP => by
    have hp := hP.1 x (by simp)
    have h5 := enc_len hp
    have h6 := hP.2
    simp only [List.length_cons] at h6
    rw [hF, hx, s_Num (by omega) hp, Option.bind_some]
    exact .inl ⟨_, rfl, ⟨fun n hn => hP.1 n (by simp [hn]), by rw [List.length_append]; omega⟩, by rw [encs_cons, List.append_assoc]⟩) b ⟨hl, hb⟩

-- Operations
def partN (p : DPart) : List Int := (4 * (p.n + p.signs.length) + p.kind) :: p.signs
def opN (o : List DPart) : List Int := (o.length : Int) :: o.flatMap partN
theorem sign_pn {n : Int} (h : okSign n = true) : pn n := by
  unfold okSign at h
  simp only [decide_eq_true_eq] at h
  exact ⟨by omega, by omega⟩
theorem partN_ok {p : DPart} (h : okPart p = true) : pns (partN p) ∧ (partN p).length ≤ 201 := by
  have b := okPart_len h
  rcases okPart_cases h with ⟨k1, k2, k3, k4⟩ | ⟨k1, k2, k3, k4⟩ | ⟨k1, k2, k3, k4⟩
  · exact ⟨pns_cons ⟨by omega, by omega⟩ (by rw [k4]; exact pns_nil), by simp [partN, k4]⟩
  · exact ⟨pns_cons ⟨by omega, by omega⟩ (fun n hn => sign_pn (List.all_eq_true.1 k4 n hn)), by simp [partN]; omega⟩
  · exact ⟨pns_cons ⟨by omega, by omega⟩ (by rw [k4]; exact pns_nil), by simp [partN, k4]⟩
theorem partsN_ok : ∀ {o : List DPart}, (∀ p ∈ o, okPart p = true) → pns (o.flatMap partN) ∧ (o.flatMap partN).length ≤ 201 * o.length
  | [], _ => ⟨pns_nil, by simp⟩
  | p :: o, h => by
    have h1 := partN_ok (h p (by simp))
    have h2 := partsN_ok (o := o) fun q hq => h q (by simp [hq])
    rw [List.flatMap_cons]
    refine ⟨pns_app h1.1 h2.1, ?_⟩
    simp only [List.length_append, List.length_cons]; omega
theorem opN_ok {o : List DPart} (h : okOp o = true) : pns (opN o) ∧ (opN o).length ≤ 120601 := by
  have hl := okParts_len (okOp_parts h)
  have g := partsN_ok (o := o) fun p hp => okParts_mem (okOp_parts h) hp
  exact ⟨pns_cons ⟨by omega, by omega⟩ g.1, by simp only [opN, List.length_cons]; omega⟩
theorem i_PutOp {b : List UInt8} {o : List DPart} (hb : b.length ≤ 10000000000) (ho : okOp o = true) : x_impl_PutOp b o = some (b ++ encs (opN (nrm o)), true) := by
  have hn := okOp_nrm ho
  have hl := okParts_len (okOp_parts hn)
  have g := opN_ok hn
  unfold x_impl_PutOp
  rw [i_OpOk, ho, Option.bind_some, Bool.not_true, cd_F, i_OpNorm, if_pos ho, Option.bind_some]
  rw [each_run (F := x_impl_PutOp_f0 (nrm o)) (e := fun (s : List Int) => s) (nrm o) (fun r _ s => (∀ p ∈ r, okPart p = true) ∧ s.length + 201 * r.length ≤ 1000000) (fun r _ s => s ++ r.flatMap partN) (fun s _ => by simp) (fun x r k s hk hx hP => by
    have hp := hP.1 x (by simp)
    have h5 := okPart_len hp
    have h6 := hP.2
    simp only [List.length_cons] at h6
    have hk2 : -9 ≤ x.kind ∧ x.kind ≤ 9 := by rcases okPart_cases hp with ⟨k1, _⟩ | ⟨k1, _⟩ | ⟨k1, _⟩ <;> omega
    unfold x_impl_PutOp_f0 x_impl_PutOp_b0
    rw [hx, i_size hp, Option.bind_some, xg_I (by omega) (by omega), xg_I (by omega) (by omega), xg_of (by simp only [List.length_singleton]; omega), xg_of (by simp only [List.length_append, List.length_singleton]; omega)]
    refine .inl ⟨_, rfl, ⟨fun q hq => hP.1 q (by simp [hq]), by simp only [List.length_append, List.length_singleton]; omega⟩, ?_⟩
    rw [List.flatMap_cons]
    simp [partN]) [((nrm o).length : Int)] ⟨fun p hp => okParts_mem (okOp_parts hn) hp, by simp only [List.length_singleton]; omega⟩, Option.bind_some]
  have e : [((nrm o).length : Int)] ++ (nrm o).flatMap partN = opN (nrm o) := rfl
  rw [e, i_putNums (by omega) g.1]; rfl
theorem s_PutOp {b : List UInt8} {o : List DPart} (hb : b.length ≤ 10000000000) (ho : okOp o = true) : x_spec_PutOp b o = some (b ++ encs (opN (nrm o)), true) := by
  have hn := okOp_nrm ho
  have hl := okParts_len (okOp_parts hn)
  have hpl : pn ((nrm o).length : Int) := ⟨by omega, by omega⟩
  have h5 := enc_len hpl
  unfold x_spec_PutOp
  rw [s_OpOk, ho, Option.bind_some, Bool.not_true, cd_F, s_OpNorm, if_pos ho, Option.bind_some, s_Num (by omega) hpl, Option.bind_some]
  rw [each_run (F := x_spec_PutOp_f0) (e := fun (s : List UInt8 × List DPart) => s.1) (nrm o) (fun r _ s => s.2 = nrm o ∧ (∀ p ∈ r, okPart p = true) ∧ s.1.length + 1005 * r.length ≤ 11000000000) (fun r _ s => s.1 ++ encs (r.flatMap partN)) (fun s _ => by simp [encs]) (fun x r k s hk hx hP => by
    obtain ⟨s, q⟩ := s
    obtain ⟨e, hP1, h6⟩ := hP
    simp only at e h6 ⊢
    subst e
    have hp := hP1 x (by simp)
    have h5 := okPart_len hp
    have hN := partN_ok hp
    simp only [List.length_cons] at h6
    have hk2 : -9 ≤ x.kind ∧ x.kind ≤ 9 := by rcases okPart_cases hp with ⟨k1, _⟩ | ⟨k1, _⟩ | ⟨k1, _⟩ <;> omega
    have hd : pn (4 * (x.n + x.signs.length) + x.kind) := hN.1 _ (by simp [partN])
    have hs : pns x.signs := fun n hn => hN.1 n (by simp [partN, hn])
    have l1 := enc_len hd
    have l2 := encs_len hs
    unfold x_spec_PutOp_f0 x_spec_PutOp_b0
    simp only
    rw [hx, xg_of ⟨by omega, by omega⟩, xg_I (by omega) (by omega), xg_I (by omega) (by omega), xg_I (by omega) (by omega), s_Num (by omega) hd, Option.bind_some, s_nums x.signs (fun k' s' => by
      unfold x_spec_PutOp_f1 x_spec_PutOp_b1; rw [hx]) (by rw [List.length_append]; omega) hs, Option.bind_some]
    refine .inl ⟨_, rfl, ⟨rfl, fun q hq => hP1 q (by simp [hq]), by simp only [List.length_append]; omega⟩, ?_⟩
    simp only [List.flatMap_cons, encs_app, partN, encs_cons, List.append_assoc]) (b ++ enc ((nrm o).length : Int), nrm o) ⟨rfl, fun p hp => okParts_mem (okOp_parts hn) hp, by simp only [List.length_append]; omega⟩, Option.bind_some]
  simp only [opN, encs_cons, List.append_assoc]

-- Documents
theorem okDoc_all {d : DDoc} (h : okDoc d = true) : (0 ≤ d.from_ ∧ d.from_ ≤ 999999000) ∧ okText d.text = true ∧ d.list.length ≤ 8 ∧ d.list.all okEntry = true ∧ seenL (d.from_ + d.list.length) d.seen none = true := by
  unfold okDoc at h
  simp only [Bool.and_eq_true, decide_eq_true_eq] at h
  refine ⟨h.1.1.1.2, h.1.1.2, h.1.2, ?_, h.2.2⟩
  cases ha : d.list.all okEntry with
  | true => rfl
  | false => have := h.2.1; rw [foldE_no _ _ ha] at this; cases this
theorem seen_pn : ∀ (l : List DSeen) (q : Option Int) (H : Int), H ≤ 1000000000 → seenL H l q = true → ∀ s ∈ l, pn s.client ∧ pn s.seq ∧ pn s.rev
  | [], _, _, _, _, s, hs => by cases hs
  | x :: l, q, H, hH, h, s, hs => by
    unfold seenL at h
    simp only [Bool.and_eq_true, decide_eq_true_eq] at h
    rcases List.mem_cons.1 hs with rfl | hs
    · exact ⟨⟨by omega, by omega⟩, ⟨by omega, by omega⟩, by omega, by omega⟩
    · exact seen_pn l _ H hH h.2 s hs
def entN (e : DEntry) : List Int := [e.client, e.seq] ++ opN (nrm e.o)
def seenN (s : DSeen) : List Int := [s.client, s.seq, s.rev]
def headN (d : DDoc) : List Int := ([d.from_, (d.text.length : Int)] ++ d.text) ++ [(d.list.length : Int)]
def docN (d : DDoc) : List Int := headN d ++ (d.list.flatMap entN ++ ((d.seen.length : Int) :: d.seen.flatMap seenN))
theorem entN_ok {e : DEntry} (h : okEntry e = true) : okOp e.o = true ∧ pns (entN e) ∧ (entN e).length ≤ 120603 ∧ pn e.client ∧ pn e.seq := by
  unfold okEntry at h
  simp only [Bool.and_eq_true, decide_eq_true_eq] at h
  have ho := (isNorm_ok h.2).1
  have g := opN_ok (okOp_nrm ho)
  have c : pn e.client := ⟨by omega, by omega⟩
  have q : pn e.seq := ⟨by omega, by omega⟩
  exact ⟨ho, pns_cons c (pns_cons q g.1), by simp only [entN, List.length_append, List.length_cons, List.length_nil]; omega, c, q⟩
theorem headN_ok {d : DDoc} (h : okDoc d = true) : pns (headN d) ∧ (headN d).length ≤ 203 := by
  obtain ⟨h1, h2, h3, _, _⟩ := okDoc_all h
  have hl := okText_len h2
  have hs := okText_signs h2
  refine ⟨pns_app (pns_app (pns_cons ⟨by omega, by omega⟩ (pns_cons ⟨by omega, by omega⟩ pns_nil)) fun n hn => sign_pn (List.all_eq_true.1 hs n hn)) (pns_cons ⟨by omega, by omega⟩ pns_nil), ?_⟩
  simp [headN]; omega
theorem seensN_ok : ∀ {l : List DSeen}, (∀ s ∈ l, pn s.client ∧ pn s.seq ∧ pn s.rev) → pns (l.flatMap seenN) ∧ (l.flatMap seenN).length = 3 * l.length
  | [], _ => ⟨pns_nil, rfl⟩
  | s :: l, h => by
    have g := seensN_ok (l := l) fun x hx => h x (by simp [hx])
    have hs := h s (by simp)
    rw [List.flatMap_cons]
    refine ⟨pns_app (pns_cons hs.1 (pns_cons hs.2.1 (pns_cons hs.2.2 pns_nil))) g.1, ?_⟩
    simp only [List.length_append, seenN, List.length_cons, List.length_nil]; omega
def docBytes (d : DDoc) : List UInt8 × Bool := (encs (docN d), true)
theorem i_DocBytes {d : DDoc} (h : smDDoc d) (hk : okDoc d = true) (hsn : d.seen.length ≤ 1048576) : x_impl_DocBytes d = some (encs (docN d), true) := by
  obtain ⟨h1, h2, h3, h4, h5⟩ := okDoc_all hk
  have hl := okText_len h2
  have hh := headN_ok hk
  have hsp := seen_pn d.seen none _ (by omega) h5
  have hse := seensN_ok hsp
  have eh := encs_len hh.1
  unfold x_impl_DocBytes
  rw [i_DocOk d h, hk, Option.bind_some, Bool.not_true, cd_F, xg_of (by simp only [List.length_cons, List.length_nil]; omega), xg_of (by simp only [List.length_append, List.length_cons, List.length_nil]; omega)]
  change (Option.bind (x_impl_putNums [] (headN d)) fun r39 => _) = _
  rw [i_putNums (by simp only [List.length_nil]; omega) hh.1, Option.bind_some]
  simp only [List.nil_append]
  rw [each_run (F := x_impl_DocBytes_f0 d) (e := fun (s : List UInt8 × Bool) => ((s.1, s.2) : List UInt8 × Bool)) d.list (fun r _ s => s.2 = true ∧ r.all okEntry = true ∧ s.1.length + 603015 * r.length ≤ 9000000) (fun r _ s => (s.1 ++ encs (r.flatMap entN), true)) (fun s hs => by obtain ⟨a, b⟩ := s; simp [encs]; exact hs.1) (fun x r k s hk' hx hP => by
    obtain ⟨s, q⟩ := s
    obtain ⟨e, hP1, h6⟩ := hP
    simp only at e h6 ⊢
    subst e
    simp only [List.all_cons, Bool.and_eq_true] at hP1
    obtain ⟨o1, o2, o3, o4, o5⟩ := entN_ok hP1.1
    have hcs : pns [x.client, x.seq] := pns_cons o4 (pns_cons o5 pns_nil)
    have lc := encs_len hcs
    have le := encs_len o2
    simp only [List.length_cons, List.length_nil] at lc h6
    unfold x_impl_DocBytes_f0 x_impl_DocBytes_b0
    simp only
    rw [hx, i_putNums (by simp only [List.length_cons, List.length_nil]; omega) hcs, Option.bind_some, i_PutOp (by rw [List.length_append]; omega) o1, Option.bind_some, cd_T, Option.bind_some]
    have ee : s ++ encs [x.client, x.seq] ++ encs (opN (nrm x.o)) = s ++ encs (entN x) := by unfold entN; rw [encs_app, List.append_assoc]
    refine .inl ⟨_, rfl, ⟨rfl, hP1.2, ?_⟩, ?_⟩
    · simp only; rw [ee, List.length_append]; omega
    · simp only; rw [ee, List.flatMap_cons, encs_app, List.append_assoc]) (encs (headN d), true) ⟨rfl, h4, by simp only; omega⟩, Option.bind_some]
  rw [each_run (F := x_impl_DocBytes_f1 d) (e := fun (s : List Int) => (s : List Int)) d.seen (fun r k s => s.length ≤ 3 * k + 1) (fun r _ s => s ++ r.flatMap seenN) (fun s _ => by simp) (fun x r k s hk' hx hP => by
    unfold x_impl_DocBytes_f1 x_impl_DocBytes_b1
    rw [hx, xg_of (by simp only [List.length_cons, List.length_nil]; omega)]
    refine .inl ⟨_, rfl, by simp only [List.length_append, List.length_cons, List.length_nil]; omega, ?_⟩
    rw [List.flatMap_cons]; simp [seenN]) [(d.seen.length : Int)] (by simp), Option.bind_some]
  have hpl : pns ([(d.seen.length : Int)] ++ d.seen.flatMap seenN) := pns_cons ⟨by omega, by omega⟩ hse.1
  have hel : (encs (d.list.flatMap entN)).length ≤ 9000000 := by
    have key : ∀ r : List DEntry, r.all okEntry = true → (encs (r.flatMap entN)).length ≤ 603015 * r.length := by
      intro r
      induction r with
      | nil => intro _; simp [encs]
      | cons x r ih =>
        intro hr
        simp only [List.all_cons, Bool.and_eq_true] at hr
        have g := entN_ok hr.1
        have l := encs_len g.2.1
        have := ih hr.2
        rw [List.flatMap_cons, encs_app, List.length_append]
        simp only [List.length_cons]; omega
    have := key d.list h4
    omega
  simp only
  rw [i_putNums (by simp only [List.length_append, List.length_cons, List.length_nil]; omega) hpl, Option.bind_some]
  simp only [Bool.not_true, cd_F, Option.bind_some]
  have e : encs (docN d) = encs (headN d) ++ encs (d.list.flatMap entN) ++ encs ([(d.seen.length : Int)] ++ d.seen.flatMap seenN) := by
    unfold docN; rw [encs_app, encs_app, List.append_assoc]; rfl
  rw [e]
theorem docBytes_len {d : DDoc} (hk : okDoc d = true) (hsn : d.seen.length ≤ 1048576) : (encs (docN d)).length ≤ 100000000 := by
  obtain ⟨h1, h2, h3, h4, h5⟩ := okDoc_all hk
  have hh := headN_ok hk
  have hse := seensN_ok (seen_pn d.seen none _ (by omega) h5)
  have key : ∀ r : List DEntry, r.all okEntry = true → pns (r.flatMap entN) ∧ (r.flatMap entN).length ≤ 120603 * r.length := by
    intro r
    induction r with
    | nil => intro _; exact ⟨pns_nil, by simp⟩
    | cons x r ih =>
      intro hr
      simp only [List.all_cons, Bool.and_eq_true] at hr
      have g := entN_ok hr.1
      have := ih hr.2
      rw [List.flatMap_cons]
      refine ⟨pns_app g.2.1 this.1, ?_⟩
      simp only [List.length_append, List.length_cons]; omega
  have k := key d.list h4
  have := encs_len (l := docN d) (pns_app hh.1 (pns_app k.1 (pns_cons ⟨by omega, by omega⟩ hse.1)))
  have hlen : (docN d).length = (headN d).length + ((d.list.flatMap entN).length + ((d.seen.flatMap seenN).length + 1)) := by simp [docN]
  omega
theorem s_DocBytes {d : DDoc} (h : smDDoc d) (hk : okDoc d = true) (hsn : d.seen.length ≤ 1048576) : x_spec_DocBytes d = some (encs (docN d), true) := by
  obtain ⟨h1, h2, h3, h4, h5⟩ := okDoc_all hk
  have hl := okText_len h2
  have hh := headN_ok hk
  have hsp := seen_pn d.seen none _ (by omega) h5
  have eh := encs_len hh.1
  unfold x_spec_DocBytes
  rw [s_DocOk d h, hk, Option.bind_some, Bool.not_true, cd_F, xg_of (by simp only [List.length_cons, List.length_nil]; omega), xg_of (by simp only [List.length_append, List.length_cons, List.length_nil]; omega)]
  change (Option.bind (eachN (x_spec_DocBytes_f0 d) _ (headN d).length 0 []) fun y86 => _) = _
  rw [s_nums (F := x_spec_DocBytes_f0 d) (headN d) (fun k s => rfl) (by simp only [List.length_nil]; omega) hh.1, Option.bind_some, List.nil_append]
  rw [each_run (F := x_spec_DocBytes_f1 d) (e := fun (s : List UInt8) => (s : List UInt8)) d.list (fun r _ s => r.all okEntry = true ∧ s.length + 603015 * r.length ≤ 9000000) (fun r _ s => s ++ encs (r.flatMap entN)) (fun s _ => by simp [encs]) (fun x r k s hk' hx hP => by
    obtain ⟨hP1, h6⟩ := hP
    simp only [List.all_cons, Bool.and_eq_true] at hP1
    obtain ⟨o1, o2, o3, o4, o5⟩ := entN_ok hP1.1
    have l1 := enc_len o4
    have l2 := enc_len o5
    have le := encs_len o2
    simp only [List.length_cons] at h6
    unfold x_spec_DocBytes_f1 x_spec_DocBytes_b1
    rw [hx, s_Num (by omega) o4, Option.bind_some, s_Num (by rw [List.length_append]; omega) o5, Option.bind_some, s_PutOp (by simp only [List.length_append]; omega) o1, Option.bind_some]
    have ee : s ++ enc x.client ++ enc x.seq ++ encs (opN (nrm x.o)) = s ++ encs (entN x) := by unfold entN; rw [encs_app, encs_cons, encs_cons]; simp [encs]
    refine .inl ⟨_, rfl, ⟨hP1.2, ?_⟩, ?_⟩
    · simp only; rw [ee, List.length_append]; omega
    · simp only; rw [ee, List.flatMap_cons, encs_app, List.append_assoc]) (encs (headN d)) ⟨h4, by omega⟩, Option.bind_some]
  have hel : (encs (d.list.flatMap entN)).length ≤ 9000000 := by
    have key : ∀ r : List DEntry, r.all okEntry = true → (encs (r.flatMap entN)).length ≤ 603015 * r.length := by
      intro r
      induction r with
      | nil => intro _; simp [encs]
      | cons x r ih =>
        intro hr
        simp only [List.all_cons, Bool.and_eq_true] at hr
        have g := entN_ok hr.1
        have l := encs_len g.2.1
        have := ih hr.2
        rw [List.flatMap_cons, encs_app, List.length_append]
        simp only [List.length_cons]; omega
    have := key d.list h4
    omega
  have hpl : pn (d.seen.length : Int) := ⟨by omega, by omega⟩
  have l0 := enc_len hpl
  rw [s_Num (by simp only [List.length_append]; omega) hpl, Option.bind_some]
  rw [each_run (F := x_spec_DocBytes_f2 d) (e := fun (s : List UInt8) => (s : List UInt8)) d.seen (fun r _ s => (∀ x ∈ r, pn x.client ∧ pn x.seq ∧ pn x.rev) ∧ s.length + 15 * r.length ≤ 100000000) (fun r _ s => s ++ encs (r.flatMap seenN)) (fun s _ => by simp [encs]) (fun x r k s hk' hx hP => by
    obtain ⟨hP1, h6⟩ := hP
    obtain ⟨p1, p2, p3⟩ := hP1 x (by simp)
    have l1 := enc_len p1
    have l2 := enc_len p2
    have l3 := enc_len p3
    simp only [List.length_cons] at h6
    unfold x_spec_DocBytes_f2 x_spec_DocBytes_b2
    rw [hx, s_Num (by omega) p1, Option.bind_some, s_Num (by rw [List.length_append]; omega) p2, Option.bind_some, s_Num (by simp only [List.length_append]; omega) p3, Option.bind_some]
    refine .inl ⟨_, rfl, ⟨fun q hq => hP1 q (by simp [hq]), by simp only [List.length_append]; omega⟩, ?_⟩
    rw [List.flatMap_cons, encs_app]
    simp [seenN, encs]) _ ⟨hsp, by simp only [List.length_append]; omega⟩, Option.bind_some]
  have e : encs (docN d) = encs (headN d) ++ encs (d.list.flatMap entN) ++ enc (d.seen.length : Int) ++ encs (d.seen.flatMap seenN) := by
    unfold docN; rw [encs_app, encs_app, encs_cons]; simp
  rw [e]
theorem ex_FnExactDocBytes (d : DDoc) (_ : wfDDoc d) (h : szDDoc d ≤ 1048576) : ∃ r, x_spec_DocBytes d = some r ∧ x_impl_DocBytes d = some r ∧ lenL szY r.1 ≤ 1000000000 := by
  have hs := smz_DDoc d (by omega)
  have hsn : d.seen.length ≤ 1048576 := by unfold szDDoc lenL at h; omega
  cases hk : okDoc d with
  | true =>
    refine ⟨_, s_DocBytes hs hk hsn, i_DocBytes hs hk hsn, ?_⟩
    have := docBytes_len hk hsn
    rw [lenL_z (c := szY) (fun _ => rfl)]
    simp only; omega
  | false =>
    refine ⟨([], false), ?_, ?_, by simp [lenL, sumL]⟩
    · unfold x_spec_DocBytes; rw [s_DocOk d hs, hk]; rfl
    · unfold x_impl_DocBytes; rw [i_DocOk d hs, hk]; rfl
end Go.Proofs.Ytmcakofnolmhpaa
