/- What is read back from encodings. No condition. -/
import Derived.Test.YtlgmikaemfbmaaaGreatDz
import Derived.Test.YtlgmikaemfbmaaaGreatEz
import Derived.Test.YtlgmikaemfbmaaaGreatLP
namespace Go.Proofs.YtlgmikaemfbmaaaGreat

theorem y8_nat {n : Nat} (h : n < 256) : (y8 (n : Int)).toNat = n := by
  unfold y8
  have h0 : ((n : Int) % 256).toNat = n := by omega
  rw [h0, UInt8.toNat_ofNat']
  exact Nat.mod_eq_of_lt (by simpa using h)
theorem pw_succ : ∀ i : Nat, i < 5 → pw (i + 1) = 128 * pw i
  | 0, _ => rfl
  | 1, _ => rfl
  | 2, _ => rfl
  | 3, _ => rfl
  | 4, _ => rfl
  | i + 5, h => by omega
theorem ini_small {m : Nat} (h : m < 128) : ini m = [] := by rw [ini, if_pos h]
theorem ini_big {m : Nat} (h : ¬ m < 128) : ini m = y8 ((m : Int) % 128 + 128) :: ini (m / 128) := by rw [ini, if_neg h]
theorem top_small {m : Nat} (h : m < 128) : top m = m := by rw [top, if_pos h]
theorem top_big {m : Nat} (h : ¬ m < 128) : top m = top (m / 128) := by rw [top, if_neg h]
theorem gl_enc : ∀ (f i m : Nat) (n : Int) (pre post : List UInt8) (a : Nat), f + i = 5 → pre.length = a + i → m < 128 ^ f → (0 < m ∨ i = 0) → 0 ≤ n → n + m * pw i ≤ 1114111000 →
    gl (pre ++ (ini m ++ [y8 (top m : Nat)]) ++ post) a f i n = Sum.inr (n + m * pw i, ((a + i + (ini m).length + 1 : Nat) : Int), true)
  | 0, i, m, n, pre, post, a, _, _, hm, h0, _, _ => by
    exfalso; simp at hm; omega
  | f + 1, i, m, n, pre, post, a, hf, hp, hm, h0, hn, hs => by
    unfold gl
    by_cases hc : m < 128
    · rw [ini_small hc, top_small hc, List.nil_append]
      have hel : el (pre ++ [y8 (m : Int)] ++ post) (a + i) = y8 (m : Int) := by
        rw [List.append_assoc, List.singleton_append, ← hp]; exact el_mid pre _ post
      have hlt : a + i < (pre ++ [y8 (m : Int)] ++ post).length := by simp; omega
      rw [if_pos hlt, hel, y8_nat (by omega), if_pos (by omega)]
      have e1 : ((m : Int) % 128) = m := by omega
      rw [e1, if_neg (by omega)]
      simp
    · rw [ini_big hc, top_big hc]
      have hel : el (pre ++ (y8 ((m : Int) % 128 + 128) :: ini (m / 128) ++ [y8 (top (m / 128) : Nat)]) ++ post) (a + i) = y8 ((m : Int) % 128 + 128) := by
        rw [List.append_assoc, List.cons_append, List.cons_append, ← hp]; exact el_mid pre _ _
      have hlt : a + i < (pre ++ (y8 ((m : Int) % 128 + 128) :: ini (m / 128) ++ [y8 (top (m / 128) : Nat)]) ++ post).length := by simp; omega
      have e0 : ((m : Int) % 128 + 128) = ((m % 128 + 128 : Nat) : Int) := by omega
      rw [if_pos hlt, hel, e0, y8_nat (by omega), if_neg (by omega), ← e0]
      have e1 : (((m : Int) % 128 + 128) % 128) = ((m % 128 : Nat) : Int) := by omega
      rw [e1]
      have hi : i < 5 := by omega
      have pz := pw_nn i
      have key : n + ((m % 128 : Nat) : Int) * pw i + ((m / 128 : Nat) : Int) * pw (i + 1) = n + (m : Int) * pw i := by
        rw [pw_succ i hi]
        have : (m : Int) = ((m % 128 : Nat) : Int) + 128 * ((m / 128 : Nat) : Int) := by omega
        rw [this, Int.add_mul, Int.mul_assoc, Int.mul_left_comm ((m / 128 : Nat) : Int) 128 (pw i)]
        omega
      have ih := gl_enc f (i + 1) (m / 128) (n + ((m % 128 : Nat) : Int) * pw i) (pre ++ [y8 ((m : Int) % 128 + 128)]) post a (by omega) (by simp; omega) (by rw [Nat.pow_succ] at hm; exact Nat.div_lt_of_lt_mul (by rw [Nat.mul_comm]; exact hm)) (.inl (by omega)) (by have := Int.mul_nonneg (show (0 : Int) ≤ ((m % 128 : Nat) : Int) by omega) pz; omega) (by rw [key]; exact hs)
      rw [key] at ih
      have e2 : pre ++ [y8 ((m : Int) % 128 + 128)] ++ (ini (m / 128) ++ [y8 (top (m / 128) : Nat)]) ++ post = pre ++ (y8 ((m : Int) % 128 + 128) :: ini (m / 128) ++ [y8 (top (m / 128) : Nat)]) ++ post := by simp
      rw [e2] at ih
      rw [ih]
      simp only [List.length_cons]
      congr 3
      omega
/-- What a reader gives at the bytes of something. -/
def Gv {T : Type} (p : List UInt8 → Ps T) (x : T) (bs : List UInt8) : Prop := ∀ pre post, p (pre ++ bs ++ post) (pre.length : Int) = some (x, ((pre ++ bs).length : Int))
theorem rd_num {n : Int} (h : pn n) : Gv gM n (enc n) := fun pre post => by
  have hg := gl_enc 5 0 n.toNat 0 pre post pre.length (by omega) (by omega) (Nat.lt_of_le_of_lt (m := 1114111000) (by have := h.2; omega) (by decide)) (.inr rfl) (by omega) (by have := h.1; have := h.2; simp only [pw]; omega)
  unfold gM gN g3
  rw [if_pos (by omega), Int.toNat_natCast]
  unfold enc
  rw [hg]
  have h1 := h.1
  simp only [Sum.elim_inr, if_true, pw]
  have e1 : (0 : Int) + (n.toNat : Int) * 1 = n := by omega
  rw [e1]
  simp
  omega
theorem rd_seq {A B : Type} {p : List UInt8 → Ps A} {q : A → List UInt8 → Ps B} {x : A} {y : B} {bs cs : List UInt8} (hp : Gv p x bs) (hq : Gv (q x) y cs) : Gv (fun b => seqP (p b) fun z => q z b) (x, y) (bs ++ cs) := fun pre post => by
  have h1 := hp pre (cs ++ post)
  have h2 := hq (pre ++ bs) post
  have e : pre ++ (bs ++ cs) ++ post = pre ++ bs ++ (cs ++ post) := by simp
  have e2 : pre ++ bs ++ cs ++ post = pre ++ bs ++ (cs ++ post) := by simp
  rw [e2] at h2
  unfold seqP
  simp only
  rw [e, h1]
  simp only
  rw [h2]
  simp [List.append_assoc]
theorem rd_map {A B : Type} {p : List UInt8 → Ps A} {x : A} {bs : List UInt8} (f : A → B) (hp : Gv p x bs) : Gv (fun b => mapP f (p b)) (f x) bs := fun pre post => by
  unfold mapP
  simp only
  rw [hp pre post]; rfl
theorem rd_many {T : Type} {p : List UInt8 → Ps T} {e : T → List UInt8} : ∀ {l : List T}, (∀ x ∈ l, Gv p x (e x)) → Gv (fun b => many (p b) l.length) l (l.flatMap e)
  | [], _ => fun pre post => by simp [many]
  | x :: l, h => fun pre post => by
    have h1 := h x (by simp) pre (l.flatMap e ++ post)
    have h2 := rd_many (l := l) (fun y hy => h y (by simp [hy])) (pre ++ e x) post
    have q1 : pre ++ (x :: l).flatMap e ++ post = pre ++ e x ++ (l.flatMap e ++ post) := by simp
    have q2 : pre ++ e x ++ l.flatMap e ++ post = pre ++ e x ++ (l.flatMap e ++ post) := by simp
    rw [q2] at h2
    simp only [List.length_cons, many] at h2 ⊢
    rw [q1, h1]
    simp only
    rw [h2]
    simp [List.append_assoc]
theorem rd_lst {T : Type} {p : List UInt8 → Ps T} {e : T → List UInt8} {l : List T} (hl : pn (l.length : Int)) (h : ∀ x ∈ l, Gv p x (e x)) : Gv (fun b => lst (gM b) (p b)) l (enc (l.length : Int) ++ l.flatMap e) := by
  have := rd_map (f := Prod.snd) (rd_seq (q := fun n b => many (p b) n.toNat) (rd_num hl) (y := l) (cs := l.flatMap e) (by simpa using rd_many h))
  exact this
theorem rd_part {x : DPart} (h : okPart x = true) : Gv partI x (encs (partN x)) := by
  have hp := (partN_ok h).1
  have hsz := pSz_bd h
  unfold pSz at hsz
  rw [show encs (partN x) = enc (4 * (x.n + x.signs.length) + x.kind) ++ encs x.signs from rfl]
  have hh : pn (4 * (x.n + x.signs.length) + x.kind) := hp _ (by unfold partN; simp)
  have hs : ∀ n ∈ x.signs, pn n := fun n hn => hp n (by unfold partN; simp [hn])
  have hk := kind_3 h
  have e4 : (4 * (x.n + x.signs.length) + x.kind) % 4 = x.kind := by omega
  have e5 : (4 * (x.n + x.signs.length) + x.kind) / 4 = x.n + x.signs.length := by omega
  have plain : x.kind ≠ 2 → x.signs = [] → Gv (fun b => bodyI b (4 * (x.n + x.signs.length) + x.kind)) (x.n, x.signs) (encs x.signs) := fun h1 h2 pre post => by
    simp only [bodyI]
    rw [if_neg (by rw [e4]; exact h1), e5, h2]
    simp [encs]
  have hb : Gv (fun b => bodyI b (4 * (x.n + x.signs.length) + x.kind)) (x.n, x.signs) (encs x.signs) := by
    rcases okPart_cases h with ⟨h1, h2, h3, h4⟩ | ⟨h1, h2, h3, h4⟩ | ⟨h1, h2, h3, h4⟩
    · exact plain (by omega) h4
    · intro pre post
      have g := rd_map (fun l => ((0 : Int), l)) (rd_many (l := x.signs) (e := enc) (fun n hn => rd_num (hs n hn))) pre post
      simp only [bodyI]
      rw [if_pos (by rw [e4]; exact h1), e5, h2, show ((0 : Int) + (x.signs.length : Int)).toNat = x.signs.length by omega]
      exact g
    · exact plain (by omega) h4
  have := rd_map mkP (rd_seq (q := fun z b => bodyI b z) (rd_num hh) hb)
  have e6 : mkP (4 * (x.n + x.signs.length) + x.kind, (x.n, x.signs)) = x := by unfold mkP; simp only; rw [e4]
  rw [e6] at this
  exact this
theorem rd_eq {T : Type} {p : List UInt8 → Ps T} {x y : T} {bs cs : List UInt8} (h : Gv p x bs) (hx : x = y) (hb : bs = cs) : Gv p y cs := by rw [← hx, ← hb]; exact h
theorem flat_encs {T : Type} (f : T → List Int) (l : List T) : encs (l.flatMap f) = l.flatMap fun x => encs (f x) := by
  unfold encs; rw [List.flatMap_assoc]
theorem rd_op {o : List DPart} (h : okOp o = true) : Gv opI o (encs (opN o)) := by
  have hp := okOp_parts h
  have hl := okParts_len hp
  have g := rd_lst (p := partI) (e := fun x => encs (partN x)) (l := o) ⟨by omega, by omega⟩ (fun x hx => rd_part (okParts_mem hp hx))
  refine rd_eq g rfl ?_
  unfold opN
  rw [encs_cons, flat_encs]
theorem rd_ent {e : DEntry} (h : okEntry e = true) : Gv entI e (encs (entN e)) := by
  obtain ⟨k1, k2, k3, k4, k5⟩ := entN_ok h
  have hn : nrm e.o = e.o := (isNorm_ok (by unfold okEntry at h; simp only [Bool.and_eq_true] at h; exact h.2)).2
  have g := rd_map mkE (rd_seq (q := fun _ b => opI b) (rd_seq (q := fun _ b => gM b) (rd_num k4) (rd_num k5)) (rd_op k1))
  refine rd_eq g rfl ?_
  unfold entN
  rw [encs_app, encs_cons, encs_cons, hn]
  simp [encs]
theorem rd_seen {s : DSeen} (h : pn s.client ∧ pn s.seq ∧ pn s.rev) : Gv seenP s (encs (seenN s)) := by
  have g := rd_map mkS (rd_seq (q := fun _ b => gM b) (rd_seq (q := fun _ b => gM b) (rd_num h.1) (rd_num h.2.1)) (rd_num h.2.2))
  refine rd_eq g rfl ?_
  unfold seenN
  rw [encs_cons, encs_cons, encs_cons]
  simp [encs]
theorem rd_doc {d : DDoc} (h : okDoc d = true) : Gv docI (((d.from_, d.text), d.list), d.seen) (encs (docN d)) := by
  have ha := okDoc_all h
  have ht := okText_len ha.2.1
  have hs := okDoc_seen h
  have hsp := seen_pn d.seen none _ (by omega) ha.2.2.2.2
  have g := rd_seq (q := fun _ b => lst (gM b) (seenP b)) (rd_seq (q := fun _ b => lst (gM b) (entI b)) (rd_seq (q := fun _ b => lst (gM b) (gM b)) (rd_num (n := d.from_) ⟨by omega, by omega⟩)
    (rd_lst (p := gM) (e := enc) (l := d.text) ⟨by omega, by omega⟩ (fun n hn => rd_num (sign_pn (List.all_eq_true.1 (okText_signs ha.2.1) n hn)))))
    (rd_lst (p := entI) (e := fun e => encs (entN e)) (l := d.list) ⟨by omega, by omega⟩ (fun e he => rd_ent (List.all_eq_true.1 ha.2.2.2.1 e he))))
    (rd_lst (p := seenP) (e := fun s => encs (seenN s)) (l := d.seen) ⟨by omega, by omega⟩ (fun s hs => rd_seen (hsp s hs)))
  refine rd_eq g rfl ?_
  unfold docN headN
  rw [encs_app, encs_app, encs_app, encs_app, encs_cons, encs_cons, encs_cons, encs_cons, flat_encs, flat_encs]
  simp [encs]
theorem opN_len : ∀ o : List DPart, (o.flatMap partN).length = lenL szDPart o
  | [] => rfl
  | x :: o => by
    have ih := opN_len o
    rw [lenL_eq] at ih ⊢
    rw [List.flatMap_cons, List.length_append, ih, show sumL szDPart (x :: o) = szDPart x + sumL szDPart o from rfl]
    have : szDPart x = x.signs.length := by unfold szDPart; exact lenL_z (fun _ => rfl) _
    unfold partN
    simp only [List.length_cons]
    omega
theorem ent_short {e : DEntry} (h : okEntry e = true) : (entN e).length ≤ 810 := by
  obtain ⟨k1, _⟩ := entN_ok h
  have hn : nrm e.o = e.o := (isNorm_ok (by unfold okEntry at h; simp only [Bool.and_eq_true] at h; exact h.2)).2
  have := okOp_sz k1
  unfold entN opN
  simp only [List.length_append, List.length_cons, List.length_nil]
  rw [hn, opN_len]
  omega
theorem ents_short : ∀ {l : List DEntry}, (∀ e ∈ l, okEntry e = true) → (l.flatMap entN).length ≤ 810 * l.length
  | [], _ => by simp
  | e :: l, h => by
    have := ents_short (l := l) fun x hx => h x (by simp [hx])
    have := ent_short (h e (by simp))
    rw [List.flatMap_cons, List.length_append, List.length_cons]
    omega
theorem doc_short {d : DDoc} (h : okDoc d = true) : (encs (docN d)).length ≤ 40000 := by
  have ha := okDoc_all h
  have hs := okDoc_seen h
  have hsp := seen_pn d.seen none _ (by omega) ha.2.2.2.2
  have p1 := headN_ok h
  have p2 := seensN_ok hsp
  have p3 : pns (d.list.flatMap entN) := fun n hn => by
    obtain ⟨e, he, hn⟩ := List.mem_flatMap.1 hn
    exact (entN_ok (List.all_eq_true.1 ha.2.2.2.1 e he)).2.1 n hn
  have p4 := ents_short fun e he => List.all_eq_true.1 ha.2.2.2.1 e he
  have p5 : pns (docN d) := by
    unfold docN
    exact pns_app p1.1 (pns_app p3 (pns_cons ⟨by omega, by omega⟩ p2.1))
  have := encs_len p5
  unfold docN at this ⊢
  simp only [List.length_append, List.length_cons] at this
  omega
theorem seen_self (l : List DSeen) : x_slices_Equal_impl_Seen_impl_Seen l l = some true := by
  unfold x_slices_Equal_impl_Seen_impl_Seen
  rw [decide_eq_true rfl, Bool.not_true, cd_F, each_all (F := x_slices_Equal_impl_Seen_impl_Seen_f0 l l) (b := .inr ()) l (fun _ => true) (fun x k hk hx => by
    unfold x_slices_Equal_impl_Seen_impl_Seen_f0 x_slices_Equal_impl_Seen_impl_Seen_b0
    rw [xg_of ⟨by omega, by omega⟩]
    simp), List.all_eq_true.2 (fun _ _ => rfl)]
  rfl
theorem ent_self (l : List DEntry) : x_slices_EqualFunc_impl_Entry_impl_Entry_impl_Entry_impl_Entry l l = some true := by
  unfold x_slices_EqualFunc_impl_Entry_impl_Entry_impl_Entry_impl_Entry
  rw [decide_eq_true rfl, Bool.not_true, cd_F, each_all (F := x_slices_EqualFunc_impl_Entry_impl_Entry_impl_Entry_impl_Entry_f0 l l) (b := .inr ()) l (fun _ => true) (fun x k hk hx => by
    unfold x_slices_EqualFunc_impl_Entry_impl_Entry_impl_Entry_impl_Entry_f0 x_slices_EqualFunc_impl_Entry_impl_Entry_impl_Entry_impl_Entry_b0
    rw [xg_of ⟨by omega, by omega⟩, i_EntrySame, decide_eq_true rfl]
    rfl), List.all_eq_true.2 (fun _ _ => rfl)]
  rfl
theorem doc_self (d : DDoc) : x_impl_DocSame d d = some true := by
  unfold x_impl_DocSame
  simp only [decide_true, cond_true, Option.bind_some, i_Equal, ent_self, seen_self]
theorem i_GetOp {o : List DPart} (hn : isNorm o = true) (pre post : List UInt8) (hb : (pre ++ encs (opN o) ++ post).length ≤ 1048576) : x_impl_GetOp (pre ++ encs (opN o) ++ post) (pre.length : Int) = some (o, ((pre ++ encs (opN o)).length : Int), true) := by
  unfold x_impl_GetOp
  obtain ⟨o', r', h1, h2⟩ := i_op hb (r := ⟨pre ++ encs (opN o) ++ post, (pre.length : Int), false⟩) ⟨rfl, by simp only; omega, by simp; omega⟩
  rw [h1, Option.bind_some]
  have h3 := h2.ok rfl
  simp only at h3
  rw [rd_op (isNorm_ok hn).1 pre post] at h3
  obtain ⟨e1, e2, e3⟩ := h3
  simp only
  have hn' : (okOp o && decide (o = nrm o)) = true := hn
  rw [e3, e2, e1, cd_F, i_IsNorm, hn']
  rfl
theorem g3_enc {n : Int} (h : pn n) : g3 (enc n) 0 = (n, ((enc n).length : Int), true) := by
  have g := rd_num h [] []
  simp only [List.nil_append, List.append_nil, List.length_nil] at g
  unfold gM gN at g
  rw [if_pos (by simp)] at g
  rw [show ((0 : Nat) : Int).toNat = 0 from rfl] at g
  rcases hh : g3 (enc n) 0 with ⟨x, k, t⟩
  rw [hh] at g
  simp only at g
  cases t with
  | false => rw [if_neg (by simp)] at g; cases g
  | true =>
    rw [if_pos rfl] at g
    obtain ⟨rfl, rfl⟩ : x = n ∧ k = ((enc n).length : Int) := by simpa using g
    rfl
theorem math_FnPack (code : List UInt8) (_ : wfL wfY code) : x_laws_FnPack code = some true := by
  unfold x_laws_FnPack
  by_cases hl : (1048576 : Int) < (code.length : Int)
  · rw [cd_t hl]
  rw [cd_f hl]
  obtain ⟨d, d1, hk, d3, h, _⟩ := s_MakeDoc code (by omega)
  have hsh := doc_short hk
  have hs := okDoc_seen hk
  have rd := rd_doc hk
  have b1 : x_impl_BytesDoc d.name (encs (docN d)) = some (d, true) := by
    rw [i_BytesDoc (by omega) (by omega)]
    have := rd [] []
    simp only [List.nil_append, List.append_nil, List.length_nil] at this
    rw [show ((0 : Nat) : Int) = 0 from rfl] at this
    rw [this, back_s]
    have e : mkD d.name (((d.from_, d.text), d.list), d.seen) = d := rfl
    rw [e, if_pos ⟨hk, rfl⟩]
  have b2 : x_impl_BytesDoc d.name (encs (docN d) ++ [0]) = some (emp, false) := by
    rw [i_BytesDoc (by simp; omega) (by omega)]
    have := rd [] [0]
    simp only [List.nil_append, List.length_nil] at this
    rw [show ((0 : Nat) : Int) = 0 from rfl] at this
    rw [this, back_s]
    have e : mkD d.name (((d.from_, d.text), d.list), d.seen) = d := rfl
    rw [e, if_neg (fun h => by have := congrArg List.length h.2; simp at this)]
  rw [d1, Option.bind_some, i_DocBytes h hk (by omega), Option.bind_some]
  simp only
  rw [b1, Option.bind_some, xg_of (by omega), xg_of (by decide), List.nil_append, xg_of (by simp; omega), b2, Option.bind_some]
  obtain ⟨o, o1, o2, o3, o4, o5⟩ := s_MakeOp code 7 (by omega) (by omega) (by omega)
  have n2 := okOp_nrm o2
  have n3 := opN_ok n2
  have n4 := encs_len n3.1
  rw [o1, Option.bind_some, xg_of (by decide), i_PutOp (by simp) o2, Option.bind_some]
  simp only
  rw [xg_of (by simp; omega), xg_of (by decide), List.nil_append, xg_of (by simp; omega)]
  have nn := isNorm_nrm o2
  have q1 := i_GetOp nn [1] [9] (by simp; omega)
  rw [show (([1] : List UInt8).length : Int) = 1 from rfl] at q1
  rw [q1, Option.bind_some]
  obtain ⟨n, k1, k2, k3⟩ := s_MakeNum code 3000000 (by omega)
  have kn : pn n := ⟨k2, by omega⟩
  rw [k1, Option.bind_some, i_PutNum (by simp) kn, Option.bind_some]
  simp only
  have k4 := enc_len kn
  have k5 := i_GetNum (b := enc n) (by omega) 0 (by omega)
  rw [show ((0 : Nat) : Int) = 0 from rfl] at k5
  rw [List.nil_append, k5, g3_enc kn, Option.bind_some]
  have k6 : x_impl_OpNorm o = some (nrm o) := by rw [i_OpNorm, if_pos o2]
  simp only [cond_true, Bool.not_false, Option.bind_some, doc_self, decide_true, k6, i_OpSame]
end Go.Proofs.YtlgmikaemfbmaaaGreat
