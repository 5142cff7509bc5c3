/- From each revision that is kept the entries behind it come to the head; what is forgotten changes no text. No condition. -/
import Derived.Test.YtlgmikaemfbmaaaGreatEb
import Derived.Test.YtlgmikaemfbmaaaGreatMK
import Derived.Test.YtlgmikaemfbmaaaGreatM8
import Derived.Test.YtlgmikaemfbmaaaGreatLV
namespace Go.Proofs.YtlgmikaemfbmaaaGreat

theorem i_TextAt {d : DDoc} (h : smDDoc d) (hk : okDoc d = true) (rev : Int) : x_impl_TextAt d rev = some (if d.from_ ≤ rev ∧ rev ≤ d.from_ + d.list.length then (runT (d.list.take (rev - d.from_).toNat) d.text, true) else ([], false)) := by
  obtain ⟨h1, h2⟩ := okDoc_get hk
  have hf := (foldE_cut (okDoc_some hk) (rev - d.from_).toNat).1
  have ha : (d.list.take (rev - d.from_).toNat).all okEntry = true := List.all_eq_true.2 fun x hx => List.all_eq_true.1 (okDoc_all hk).2.2.2.1 x (List.mem_of_mem_take hx)
  have hs : smL smDEntry (d.list.take (rev - d.from_).toNat) := ⟨by rw [List.length_take]; have := h.2.2.2.1.1; omega, fun x hx => h.2.2.2.1.2 x (List.mem_of_mem_take hx)⟩
  unfold x_impl_TextAt
  rw [i_DocOk d h, Option.bind_some, hk, Bool.not_true, cd_F, i_HeadRev h1 (by omega), Option.bind_some, i_within, Option.bind_some, Option.bind_some]
  by_cases hc : d.from_ ≤ rev ∧ rev ≤ d.from_ + d.list.length
  · rw [decide_eq_true hc, Bool.not_true, cd_F, xg_I (by omega) (by omega), xg_of ⟨by omega, by omega⟩, if_pos hc, List.drop_zero, i_opsOf hs, Option.bind_some, i_ApplyAll, (okDoc_all hk).2.1, if_pos rfl, ← foldE_all _ _ ha, hf]
    rfl
  · rw [decide_eq_false hc, Bool.not_false, cd_T, if_neg hc]
theorem i_HeadText {d : DDoc} (h : smDDoc d) (hk : okDoc d = true) : x_impl_HeadText d = some (runT d.list d.text) := by
  obtain ⟨h1, h2⟩ := okDoc_get hk
  unfold x_impl_HeadText
  rw [i_HeadRev h1 (by omega), Option.bind_some, i_TextAt h hk, if_pos (by omega), Option.bind_some, show (d.from_ + (d.list.length : Int) - d.from_).toNat = d.list.length by omega, List.take_length]
theorem split_last {out : List DEntry} (h : out.length ≠ 0) : ∃ M p, out = M ++ [p] ∧ el out (out.length - 1) = p := by
  obtain ⟨M, p, rfl⟩ : ∃ M p, out = M ++ [p] := ⟨out.dropLast, out.getLast (by intro h2; rw [h2] at h; exact h rfl), (List.dropLast_concat_getLast _).symm⟩
  refine ⟨M, p, rfl, ?_⟩
  rw [List.length_append, List.length_singleton, Nat.add_sub_cancel]
  exact el_mid M p []
theorem set_lastE {M : List DEntry} {x y : DEntry} : (M ++ [x]).set ((M ++ [x]).length - 1) y = M ++ [y] := by
  rw [List.length_append, List.length_singleton, Nat.add_sub_cancel, List.set_append_right _ _ (Nat.le_refl _)]
  simp
theorem isNorm_comp {a b : List DPart} (ha : okOp a = true) (hb : okOp b = true) (hf : toOf a = fromOf b) : isNorm (comp a b) = true := by
  obtain ⟨j, hl⟩ := J3 ha hb hf
  have c := (rawC_ok j hl).1
  unfold isNorm
  rw [(compose_yes ha hb hf).2, decide_eq_true (show comp a b = nrm (comp a b) by unfold comp; exact (nrm_nrm (oks_kinds c)).symm)]; rfl
theorem entry_get {e : DEntry} (h : okEntry e = true) : (1 ≤ e.client ∧ e.client ≤ 8) ∧ (1 ≤ e.seq ∧ e.seq ≤ 1000000000) ∧ isNorm e.o = true := by
  unfold okEntry at h
  simp only [Bool.and_eq_true, decide_eq_true_eq] at h
  exact ⟨h.1.1, h.1.2, h.2⟩
theorem sqFold_run : ∀ (l out : List DEntry) (t v u : List Int), foldE out t = some v → foldE l v = some u → ∃ s, sqFold l out = some s ∧ foldE s t = some u
  | [], out, t, v, u, h1, h2 => by cases h2; exact ⟨out, rfl, h1⟩
  | e :: l, out, t, v, u, h1, h2 => by
    rw [foldE] at h2
    cases hc : fits e.o v && okEntry e with
    | false => rw [hc] at h2; cases h2
    | true =>
      rw [hc, if_pos rfl] at h2
      simp only [Bool.and_eq_true] at hc
      obtain ⟨hf, he⟩ := hc
      have plain : foldE (out ++ [e]) t = some (appl e.o v) := by rw [foldE_app, h1, Option.bind_some, foldE, hf, he]; rfl
      rw [sqFold]
      unfold sqStep
      rw [if_pos he]
      by_cases hk : out.length = 0 ∨ (el out (out.length - 1)).client ≠ e.client
      · rw [if_pos hk]
        exact sqFold_run l _ t _ u plain h2
      · rw [if_neg hk]
        obtain ⟨M, p, rfl, hp⟩ := split_last (fun h => hk (.inl h))
        rw [hp]
        rw [foldE_app] at h1
        cases hM : foldE M t with
        | none => rw [hM] at h1; cases h1
        | some w =>
          rw [hM, Option.bind_some, foldE] at h1
          cases hq : fits p.o w && okEntry p with
          | false => rw [hq] at h1; cases h1
          | true =>
            rw [hq, if_pos rfl, foldE] at h1
            obtain rfl := Option.some.inj h1
            simp only [Bool.and_eq_true] at hq
            obtain ⟨f1, f2, f3⟩ := fits_get hq.1
            obtain ⟨g1, g2, g3⟩ := fits_get hf
            have hto : toOf p.o = fromOf e.o := by rw [g3, appl_len (okOp_kinds f1) f3]
            obtain ⟨c1, c2⟩ := compose_yes f1 g1 hto
            obtain ⟨s1, s2, s3, _⟩ := comp_sums f1 g1 hto
            rw [c1, if_pos rfl, set_lastE]
            refine sqFold_run l _ t (appl e.o (appl p.o w)) u ?_ h2
            have hn : okEntry ⟨e.client, e.seq, comp p.o e.o⟩ = true := by
              obtain ⟨k1, k2, _⟩ := entry_get he
              unfold okEntry
              simp only
              rw [decide_eq_true k1, decide_eq_true k2, isNorm_comp f1 g1 hto]; rfl
            have hfc : fits (comp p.o e.o) w = true := by
              unfold fits
              rw [c2, f2, decide_eq_true (by rw [s1]; exact f3)]; rfl
            rw [foldE_app, hM, Option.bind_some, foldE]
            simp only
            rw [hfc, hn, s3 w f3]; rfl
theorem foldE_oks : ∀ {l : List DEntry} {t u : List Int}, foldE l t = some u → ∀ e ∈ l, okEntry e = true
  | [], _, _, _, e, he => by cases he
  | x :: l, t, u, h, e, he => by
    rw [foldE] at h
    split at h
    · rename_i hc
      simp only [Bool.and_eq_true] at hc
      rcases List.mem_cons.1 he with rfl | he
      · exact hc.2
      · exact foldE_oks h e he
    · cases h
theorem foldE_sm {l : List DEntry} {t u : List Int} (h : foldE l t = some u) (hl : l.length ≤ 1000) : smL smDEntry l := ⟨by omega, fun e he => entry_sm (foldE_oks h e he)⟩
theorem sqStep_len1 {out o : List DEntry} {e : DEntry} (h : sqStep out e = some o) : o.length ≤ out.length + 1 := sqStep_len h
theorem sqFold_len : ∀ (l out s : List DEntry), sqFold l out = some s → s.length ≤ out.length + l.length
  | [], out, s, h => by cases h; simp
  | e :: l, out, s, h => by
    rw [sqFold] at h
    cases hc : sqStep out e with
    | none => rw [hc] at h; cases h
    | some o =>
      rw [hc] at h
      have := sqFold_len l o s h
      have := sqStep_len hc
      simp only [List.length_cons]
      omega
theorem i_Forget {d : DDoc} (h : smDDoc d) (hk : okDoc d = true) {n : Int} (h0 : 0 ≤ n) (h1 : n ≤ 1000) (hh : d.from_ + d.list.length ≤ 100) : ∃ x, x_impl_Forget d n = some (x, true) ∧ okDoc x = true ∧ x.name = d.name ∧ runT x.list x.text = runT d.list d.text ∧ x.from_ + x.list.length = d.from_ + d.list.length := by
  obtain ⟨g1, g2⟩ := okDoc_get hk
  have ha := okDoc_all hk
  have ht := okText_len ha.2.1
  have hsn := okDoc_seen hk
  unfold x_impl_Forget x_impl_copyDoc
  rw [i_DocOk d h, Option.bind_some, hk, Bool.not_true, cd_F, Option.bind_some, decide_eq_false (by omega), cd_F, i_copyInts (by omega), Option.bind_some, i_copyEntries h.2.2.2.1, Option.bind_some, xg_of (by omega), Option.bind_some, xg_I (by omega) (by omega), List.nil_append]
  by_cases hc : (0 : Int) < (d.list.length : Int) - n
  · rw [cd_t hc, xg_I (by omega) (by omega), i_TextAt h hk, if_pos ⟨by omega, by omega⟩, Option.bind_some]
    simp only
    rw [xg_I (by omega) (by omega), xg_of ⟨by omega, by omega⟩, List.take_length]
    have hcut := foldE_cut (okDoc_some hk) (d.from_ + ((d.list.length : Int) - n) - d.from_).toNat
    have e1 : (d.from_ + ((d.list.length : Int) - n) - d.from_).toNat = ((d.list.length : Int) - n).toNat := by omega
    rw [e1] at hcut ⊢
    have hlen : ((d.list.drop ((d.list.length : Int) - n).toNat).length : Int) = n := by rw [List.length_drop]; omega
    refine ⟨_, rfl, okDoc_mk (by simp only; exact okDoc_name hk) ⟨by simp only; omega, by simp only; omega⟩ ?_ (by simp only; omega) ?_ ?_, rfl, ?_, ?_⟩
    · exact head_text hk _
    · simp only; rw [hcut.2]; rfl
    · simp only
      rw [hlen, show d.from_ + ((d.list.length : Int) - n) + n = d.from_ + d.list.length by omega]
      exact ha.2.2.2.2
    · simp only; exact (foldE_run hcut.2).symm
    · simp only; rw [hlen]; omega
  · rw [cd_f hc]
    exact ⟨d, rfl, hk, rfl, rfl, rfl⟩
theorem math_FnFold (code : List UInt8) (_ : wfL wfY code) : x_laws_FnFold code = some true := by
  unfold x_laws_FnFold
  by_cases hl : (1048576 : Int) < (code.length : Int)
  · rw [cd_t hl]
  · rw [cd_f hl]
    obtain ⟨d, d1, hk, d3, h, hh⟩ := s_MakeDoc code (by omega)
    obtain ⟨g1, g2⟩ := okDoc_get hk
    have hsome := okDoc_some hk
    have ha := okDoc_all hk
    rw [d1, Option.bind_some, i_HeadText h hk, Option.bind_some]
    obtain ⟨y, y1, y2⟩ := iter_ex (f := x_laws_FnFold_f0 d (runT d.list d.text)) (fun r => d.from_ ≤ r ∧ r ≤ d.from_ + d.list.length + 1) (fun r => (d.from_ + d.list.length + 1 - r).toNat) (fun y => y = Sum.inl ()) (fun r hP => by
      unfold x_laws_FnFold_f0 x_laws_FnFold_b0
      rw [i_HeadRev g1 (by omega), Option.bind_some]
      by_cases hr : r ≤ d.from_ + (d.list.length : Int)
      · have hcut := foldE_cut hsome (r - d.from_).toNat
        have htx := head_text hk (r - d.from_).toNat
        have hdl : (d.list.drop (r - d.from_).toNat).length ≤ 8 := by rw [List.length_drop]; omega
        have hdsm := foldE_sm hcut.2 (by omega)
        have hft : fetch d r = (d.list.drop (r - d.from_).toNat, 0) := by
          unfold fetch; rw [if_pos hk, if_neg (by omega), if_neg (by omega)]
        obtain ⟨s, s1, s2⟩ := sqFold_run (d.list.drop (r - d.from_).toNat) [] (runT (d.list.take (r - d.from_).toNat) d.text) _ _ rfl hcut.2
        have hsl := sqFold_len _ _ _ s1
        simp only [List.length_nil] at hsl
        have hssm := foldE_sm s2 (by omega)
        have hsq : squash (d.list.drop (r - d.from_).toNat) = (s, true) := by unfold squash; rw [s1]
        have hfo : fold (runT (d.list.take (r - d.from_).toNat) d.text) (d.list.drop (r - d.from_).toNat) = (runT d.list d.text, true) := by unfold fold; rw [htx, if_pos rfl, hcut.2]; rfl
        have hfs : fold (runT (d.list.take (r - d.from_).toNat) d.text) s = (runT d.list d.text, true) := by unfold fold; rw [htx, if_pos rfl, s2]; rfl
        have htl : tells d r (d.list.drop (r - d.from_).toNat) = true := by
          unfold tells
          rw [hft]
          simp only
          rw [List.take_length, decide_eq_true rfl, decide_eq_true (Nat.le_refl _)]; rfl
        rw [cd_t hr, i_TextAt h hk, if_pos ⟨hP.1, hr⟩, Option.bind_some, i_Fetch d r h, hft, Option.bind_some]
        simp only
        rw [i_Fold _ hdsm, hfo, Option.bind_some, i_Squash hdsm, hsq, Option.bind_some]
        simp only
        rw [i_Fold _ hssm, hfs, Option.bind_some]
        simp only [i_SignsSame, i_Tells d r _ h, htl, Option.bind_some, decide_true, Bool.not_true, cd_F]
        rw [xg_I (by omega) (by omega)]
        exact .inl ⟨_, rfl, ⟨by omega, by omega⟩, by omega⟩
      · rw [cd_f hr]; exact .inr ⟨_, rfl, rfl⟩) d.from_ ⟨by omega, by omega⟩
    rw [y1, Option.bind_some, y2, Sum.elim_inl]
    obtain ⟨m, m1, m2, m3⟩ := s_MakeNum code 9 (by omega)
    rw [m1, Option.bind_some]
    obtain ⟨x, x1, x2, x3, x4, x5⟩ := i_Forget h hk m2 (by omega) hh
    have xs := sm_mk (d := x) (by rw [x3]; omega) x2
    obtain ⟨k1, k2⟩ := okDoc_get x2
    rw [x1, Option.bind_some]
    simp only
    rw [cd_T, i_DocOk x xs, x2, Option.bind_some, Option.bind_some, cd_T, i_HeadText xs x2, Option.bind_some, i_SignsSame, Option.bind_some, x4, decide_eq_true rfl, Option.bind_some, cd_T, i_HeadRev k1 (by omega), Option.bind_some, i_HeadRev g1 (by omega), Option.bind_some, x5, decide_eq_true rfl, Option.bind_some]
end Go.Proofs.YtlgmikaemfbmaaaGreat
