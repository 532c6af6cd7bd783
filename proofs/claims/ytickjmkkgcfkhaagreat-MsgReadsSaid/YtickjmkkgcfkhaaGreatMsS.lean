import Derived.Test.YtickjmkkgcfkhaaGreatMsM
import Derived.Test.YtickjmkkgcfkhaaGreatMsN
import Derived.Test.YtickjmkkgcfkhaaGreatMsH
/- The message, plain: it comes back from its bytes; no bytes more or fewer are read as it. No program is in sight. -/
set_option linter.unusedSimpArgs false
set_option linter.unusedVariables false
set_option maxRecDepth 100000
set_option maxRecDepth 100000
namespace Go.Proofs.YtickjmkkgcfkhaaGreat

theorem chk_kd {m : Ms} (h : m.chk = true) : (m.kd = 1 ∨ m.kd = 2 ∨ m.kd = 3 ∨ m.kd = 4 ∨ m.kd = 5) ∧ m.fit = true ∧ m.may = true := by
  unfold Ms.chk Ms.isk at h
  rw [Bool.and_eq_true, Bool.and_eq_true, Bool.and_eq_true, decide_eq_true_eq, decide_eq_true_eq] at h
  exact ⟨by omega, h.1.2, h.2⟩
theorem nul_is {r : Rc} (h : r.nul = true) : r = Rc.zero := by
  unfold Rc.nul at h
  simp only [Bool.and_eq_true, beq_iff_eq, Bool.not_eq_true'] at h
  obtain ⟨⟨⟨⟨⟨h1, h2⟩, h3⟩, h4⟩, h5⟩, h6⟩ := h
  obtain ⟨o, e, s, c, i, a⟩ := r
  simp only at h1 h2 h3 h4 h5 h6
  obtain rfl : a = [] := List.eq_nil_of_length_eq_zero h6
  subst h1 h2 h3 h4 h5
  rfl
theorem zy_is {m : Ms} (h : m.zy = true) : m.dst = 0 ∧ m.hops = 0 := by
  unfold Ms.zy at h
  simpa using h
theorem one_of {n : Int} (h : 0 ≤ n ∧ n < 256) : n.toNat < 256 ^ 1 := by omega
/-- A kind's parts come back. -/
theorem got_lay {m : Ms} (hok : m.ok) (hc : m.chk = true) : redOk m.kd m.lay = true ∧ Ms.got m.kd m.lay = m := by
  obtain ⟨hk, hf, hm⟩ := chk_kd hc
  obtain ⟨o1, o2, o3, o4, o5, o6, o7, o8⟩ := hok
  obtain ⟨kd, rc, st, hd, ds, hp, wi, ak⟩ := m
  simp only at hk
  unfold Ms.fit at hf
  unfold Ms.may at hm
  unfold Ms.lay
  simp only at hf hm o1 o2 o3 o4 o5 o6 o7 o8 ⊢
  rcases hk with rfl | rfl | rfl | rfl | rfl
  · rw [if_pos rfl] at hf hm ⊢
    simp only [Bool.and_eq_true] at hf
    obtain ⟨⟨⟨⟨f1, f2⟩, f3⟩, f4⟩, f5⟩ := hf
    obtain ⟨d1, d2⟩ := dec_enc o2 hm
    have f1' := of_decide_eq_true f1; have f2' := of_decide_eq_true f2; have f4' := of_decide_eq_true f4; have f5' := of_decide_eq_true f5
    obtain ⟨f3a, f3b⟩ := zy_is f3
    simp only at f1' f2' f4' f5' f3a f3b
    subst f1' f2' f4' f5' f3a f3b
    have hR : decR rc.enc = rc := by unfold decR; rw [d1, if_pos rfl, d2]
    have hE : decE rc.enc = 0 := by unfold decE; rw [d1, if_pos rfl]
    refine ⟨?_, ?_⟩
    · show decide (decE rc.enc = 0) = true; rw [hE]; rfl
    · show ({ Ms.zero with kd := 1, rc := decR rc.enc } : Ms) = _; rw [hR]; rfl
  · rw [if_neg (by decide), if_pos rfl] at hf hm ⊢
    simp only [Bool.and_eq_true] at hf
    obtain ⟨⟨⟨⟨f1, f2⟩, f3⟩, f4⟩, f5⟩ := hf
    have d2 := St.dec_enc o3 hm
    have f1' := nul_is f1; have f2' := of_decide_eq_true f2; have f4' := of_decide_eq_true f4; have f5' := of_decide_eq_true f5
    obtain ⟨f3a, f3b⟩ := zy_is f3
    simp only at f1' f2' f4' f5' f3a f3b
    subst f1' f2' f4' f5' f3a f3b
    have d1 : decSOk st.enc = true := by unfold decSOk; rw [st.enc_len, d2, hm]; rfl
    have hR : decS st.enc = st := by unfold decS; rw [d1, if_pos rfl, d2]
    have hE : decSE st.enc = 0 := by unfold decSE; rw [d1, if_pos rfl]
    refine ⟨?_, ?_⟩
    · show decide (decSE st.enc = 0) = true; rw [hE]; rfl
    · show ({ Ms.zero with kd := 2, st := decS st.enc } : Ms) = _; rw [hR]; rfl
  · rw [if_neg (by decide), if_neg (by decide), if_pos rfl] at hf hm ⊢
    simp only [Bool.and_eq_true] at hf
    obtain ⟨⟨⟨⟨f1, f2⟩, f3⟩, f4⟩, f5⟩ := hf
    obtain ⟨d1, d2⟩ := decH_enc o4 hm
    have f1' := nul_is f1; have f2' := of_decide_eq_true f2; have f4' := of_decide_eq_true f4; have f5' := of_decide_eq_true f5
    obtain ⟨f3a, f3b⟩ := zy_is f3
    simp only at f1' f2' f4' f5' f3a f3b
    subst f1' f2' f4' f5' f3a f3b
    refine ⟨?_, ?_⟩
    · show decide (decHE (bs hd.enc.data.toList) = 0) = true; rw [bs_of, d1]; rfl
    · show ({ Ms.zero with kd := 3, hd := decH (bs hd.enc.data.toList) } : Ms) = _; rw [bs_of, d2]; rfl
  · rw [if_neg (by decide), if_neg (by decide), if_neg (by decide), if_pos rfl] at hf hm ⊢
    simp only [Bool.and_eq_true] at hf
    obtain ⟨⟨⟨f1, f2⟩, f3⟩, f5⟩ := hf
    have f1' := nul_is f1; have f2' := of_decide_eq_true f2; have f3' := of_decide_eq_true f3; have f5' := of_decide_eq_true f5
    simp only at f1' f2' f3' f5'
    subst f1' f2' f3' f5'
    rw [Bool.and_eq_true] at hm
    obtain ⟨hw, hm⟩ := hm
    unfold Ms.way at hw
    unfold Wi.may at hm
    simp only [rtr, Bool.and_eq_true, decide_eq_true_eq] at hw hm
    obtain ⟨w1, w2, w3, w4⟩ := o7
    obtain ⟨wf, we, wv, wg⟩ := wi
    simp only at hw hm w1 w2 w3 w4 ⊢
    obtain ⟨L, hL⟩ : ∃ L, L = nb ds.toNat 1 ++ nb hp.toNat 1 ++ nb wf.toNat 1 ++ nb we 4 ++ nb wv 4 ++ nb wg 1 := ⟨_, rfl⟩
    have s0 : seg L 0 1 = ds.toNat := by
      rw [hL, List.append_assoc, List.append_assoc, List.append_assoc, List.append_assoc]; exact seg_at (pre := []) rfl (by omega)
    have s1 : seg L 1 1 = hp.toNat := by
      rw [hL, List.append_assoc, List.append_assoc, List.append_assoc]; exact seg_at (pre := nb ds.toNat 1) (by simp [nb_len]) (by omega)
    have s2 : seg L 2 1 = wf.toNat := by
      rw [hL, List.append_assoc, List.append_assoc]; exact seg_at (pre := nb ds.toNat 1 ++ nb hp.toNat 1) (by simp [nb_len]) (by omega)
    have s3 : seg L 3 4 = we := by
      rw [hL, List.append_assoc]; exact seg_at (pre := nb ds.toNat 1 ++ nb hp.toNat 1 ++ nb wf.toNat 1) (by simp [nb_len]) (by omega)
    have s7 : seg L 7 4 = wv := by
      rw [hL]; exact seg_at (pre := nb ds.toNat 1 ++ nb hp.toNat 1 ++ nb wf.toNat 1 ++ nb we 4) (by simp [nb_len]) (by omega)
    have s11 : seg L 11 1 = wg := by
      have := seg_at (pre := nb ds.toNat 1 ++ nb hp.toNat 1 ++ nb wf.toNat 1 ++ nb we 4 ++ nb wv 4) (suf := []) (a := 11) (k := 1) (v := wg) (by simp [nb_len]) (by omega)
      rw [List.append_nil] at this
      rw [hL]; exact this
    rw [← hL]
    refine ⟨?_, ?_⟩
    · show decide (L.length = 12) = true
      rw [hL]; simp [nb_len]
    · show ({ Ms.zero with kd := 4, dst := (seg L 0 1 : Nat), hops := (seg L 1 1 : Nat), wi := ⟨(seg L 2 1 : Nat), seg L 3 4, seg L 7 4, seg L 11 1⟩ } : Ms) = _
      rw [s0, s1, s2, s3, s7, s11, Int.toNat_of_nonneg (by omega), Int.toNat_of_nonneg (by omega), Int.toNat_of_nonneg (by omega)]
      rfl
  · rw [if_neg (by decide), if_neg (by decide), if_neg (by decide), if_neg (by decide)] at hf hm ⊢
    simp only [Bool.and_eq_true] at hf
    obtain ⟨⟨⟨f1, f2⟩, f3⟩, f5⟩ := hf
    have f1' := nul_is f1; have f2' := of_decide_eq_true f2; have f3' := of_decide_eq_true f3; have f5' := of_decide_eq_true f5
    simp only at f1' f2' f3' f5'
    subst f1' f2' f3' f5'
    rw [Bool.and_eq_true] at hm
    obtain ⟨hw, hm⟩ := hm
    unfold Ms.way at hw
    unfold Ak.may at hm
    simp only [rtr, Bool.and_eq_true, decide_eq_true_eq] at hw hm
    obtain ⟨w1, w2, w3, w4, w5⟩ := o8
    obtain ⟨wf, we, wt, wl, wv⟩ := ak
    simp only at hw hm w1 w2 w3 w4 w5 ⊢
    obtain ⟨L, hL⟩ : ∃ L, L = nb ds.toNat 1 ++ nb hp.toNat 1 ++ nb wf.toNat 1 ++ nb we 4 ++ nb wt.toNat 1 ++ nb wl 4 ++ nb wv 4 := ⟨_, rfl⟩
    have s0 : seg L 0 1 = ds.toNat := by
      rw [hL, List.append_assoc, List.append_assoc, List.append_assoc, List.append_assoc, List.append_assoc]; exact seg_at (pre := []) rfl (by omega)
    have s1 : seg L 1 1 = hp.toNat := by
      rw [hL, List.append_assoc, List.append_assoc, List.append_assoc, List.append_assoc]; exact seg_at (pre := nb ds.toNat 1) (by simp [nb_len]) (by omega)
    have s2 : seg L 2 1 = wf.toNat := by
      rw [hL, List.append_assoc, List.append_assoc, List.append_assoc]; exact seg_at (pre := nb ds.toNat 1 ++ nb hp.toNat 1) (by simp [nb_len]) (by omega)
    have s3 : seg L 3 4 = we := by
      rw [hL, List.append_assoc, List.append_assoc]; exact seg_at (pre := nb ds.toNat 1 ++ nb hp.toNat 1 ++ nb wf.toNat 1) (by simp [nb_len]) (by omega)
    have s7 : seg L 7 1 = wt.toNat := by
      rw [hL, List.append_assoc]; exact seg_at (pre := nb ds.toNat 1 ++ nb hp.toNat 1 ++ nb wf.toNat 1 ++ nb we 4) (by simp [nb_len]) (by omega)
    have s8 : seg L 8 4 = wl := by
      rw [hL]; exact seg_at (pre := nb ds.toNat 1 ++ nb hp.toNat 1 ++ nb wf.toNat 1 ++ nb we 4 ++ nb wt.toNat 1) (by simp [nb_len]) (by omega)
    have s12 : seg L 12 4 = wv := by
      have := seg_at (pre := nb ds.toNat 1 ++ nb hp.toNat 1 ++ nb wf.toNat 1 ++ nb we 4 ++ nb wt.toNat 1 ++ nb wl 4) (suf := []) (a := 12) (k := 4) (v := wv) (by simp [nb_len]) (by omega)
      rw [List.append_nil] at this
      rw [hL]; exact this
    rw [← hL]
    refine ⟨?_, ?_⟩
    · show decide (L.length = 16) = true
      rw [hL]; simp [nb_len]
    · show ({ Ms.zero with kd := 5, dst := (seg L 0 1 : Nat), hops := (seg L 1 1 : Nat), ak := ⟨(seg L 2 1 : Nat), seg L 3 4, (seg L 7 1 : Nat), seg L 8 4, seg L 12 4⟩ } : Ms) = _
      rw [s0, s1, s2, s3, s7, s8, s12, Int.toNat_of_nonneg (by omega), Int.toNat_of_nonneg (by omega), Int.toNat_of_nonneg (by omega), Int.toNat_of_nonneg (by omega)]
      rfl

end Go.Proofs.YtickjmkkgcfkhaaGreat

/- The message, plain: it comes back from its bytes, and from no others of another length; bytes with one turned. No program is in sight. -/
set_option linter.unusedSimpArgs false
set_option linter.unusedVariables false
set_option maxRecDepth 100000
set_option maxRecDepth 100000
namespace Go.Proofs.YtickjmkkgcfkhaaGreat

theorem lay_bounds {m : Ms} (h : m.chk = true) : 8 < m.lay.length ∧ m.lay.length ≤ 100 := by
  unfold Ms.chk at h
  rw [Bool.and_eq_true] at h
  have h2 := h.2
  unfold Ms.may at h2
  unfold Ms.lay
  split
  · rename_i hk
    rw [if_pos hk] at h2
    simp only [Rc.chk, Bool.and_eq_true, decide_eq_true_eq] at h2
    rw [Rc.enc_len]; omega
  · split
    · rw [St.enc_len]; omega
    · split
      · rename_i h3 h4 hk
        rw [if_neg h3, if_neg h4, if_pos hk] at h2
        have hw := wide_cases (Hd.chk_is h2).1
        rw [size_len]
        unfold Hd.enc
        rw [sealB_size, bs_size, Hd.body_len]
        omega
      · split <;> simp [nb_len]
theorem menc_open (m : Ms) : openE m.enc = 0 ∧ (openS m.enc).data.toList = m.body ∧ m.enc.size = m.lay.length + 3 := by
  unfold Ms.enc
  obtain ⟨h1, h2⟩ := sealB_open (bs m.body)
  refine ⟨h1, by rw [h2]; rfl, ?_⟩
  rw [sealB_size, bs_size]
  rfl
theorem body_kind {m : Ms} (h : m.chk = true) : kindOf m.body = m.kd ∧ m.body.tail = m.lay := by
  obtain ⟨hk, _, _⟩ := chk_kd h
  refine ⟨?_, rfl⟩
  show (((toU8 m.kd.toNat).toNat : Nat) : Int) = m.kd
  rw [toU8_toNat]
  omega
theorem menc_size {m : Ms} (h : m.chk = true) : 11 < m.enc.size ∧ m.enc.size ≤ 103 := by
  have h1 := lay_bounds h
  have h2 := (menc_open m).2.2
  omega
/-- A message that may be comes back from its bytes. -/
theorem decM_enc {m : Ms} (hok : m.ok) (hc : m.chk = true) : decME m.enc = 0 ∧ decM m.enc = m := by
  obtain ⟨h1, h2, h3⟩ := menc_open m
  obtain ⟨h4, h5⟩ := body_kind hc
  have h6 := lay_bounds hc
  obtain ⟨g1, g2⟩ := got_lay hok hc
  obtain ⟨hk, _, _⟩ := chk_kd hc
  have hb : bodyOk (openS m.enc).data.toList = true := by
    unfold bodyOk
    rw [h2, h4, h5, g1, g2, hc]
    simp only [Bool.and_eq_true, decide_eq_true_eq, and_true]
    omega
  have hd : decME m.enc = 0 := by
    unfold decME
    rw [if_neg (by omega), if_neg (by omega), if_pos h1, hb, if_pos rfl]
  refine ⟨hd, ?_⟩
  unfold decM
  rw [hd, if_pos rfl, h2, h4, h5, g2]

theorem seg_pre {l l' : List UInt8} {a k : Nat} (h : l.take (a + k) = l'.take (a + k)) : seg l a k = seg l' a k := by
  unfold seg
  congr 1
  have h1 : ((l.take (a + k)).drop a) = ((l'.take (a + k)).drop a) := by rw [h]
  rw [List.drop_take, List.drop_take, show a + k - a = k from by omega] at h1
  exact h1
/-- Parts of another length, alike as far as both go, are none of the kind. -/
theorem red_other {m : Ms} (hok : m.ok) (hc : m.chk = true) {l : List UInt8} (h8 : 8 ≤ l.length) (hl : l.length ≠ m.lay.length) (hp : ∀ j, j ≤ l.length → j ≤ m.lay.length → l.take j = m.lay.take j) : redOk m.kd l = false := by
  obtain ⟨hk, hf, hm⟩ := chk_kd hc
  have hbd := lay_bounds hc
  unfold Ms.may at hm
  unfold redOk
  rcases hk with hk | hk | hk | hk | hk
  · rw [hk, if_pos rfl] at hm ⊢
    have e : m.lay = m.rc.enc := by unfold Ms.lay; rw [hk]; rfl
    rw [e] at hl hp hbd
    have hd := (dec_enc hok.2.1 hm).1
    have hd2 := hd
    unfold decOk at hd2
    simp only [Bool.and_eq_true, decide_eq_true_eq] at hd2
    refine decide_eq_false ?_
    unfold decE
    have : decOk l = false := by
      rw [← Bool.not_eq_true]
      intro h
      unfold decOk at h
      simp only [Bool.and_eq_true, decide_eq_true_eq] at h
      have hs : seg l 12 1 = seg m.rc.enc 12 1 := seg_pre (hp 13 (by omega) (by omega))
      have h1 := h.1.2
      have h2 := hd2.1.2
      rw [hs] at h1
      omega
    rw [this]; decide
  · rw [hk, if_neg (by decide), if_pos rfl] at hm ⊢
    have e : m.lay = m.st.enc := by unfold Ms.lay; rw [hk]; rfl
    rw [e, St.enc_len] at hl
    refine decide_eq_false ?_
    unfold decSE decSOk
    rw [decide_eq_false hl, Bool.false_and]; decide
  · rw [hk, if_neg (by decide), if_neg (by decide), if_pos rfl] at hm ⊢
    have e : m.lay = m.hd.enc.data.toList := by unfold Ms.lay; rw [hk]; rfl
    rw [e] at hl hp hbd
    refine decide_eq_false ?_
    have := decH_other hok.2.2.2.1 hm (s := bs l) (by rw [bs_size]; rw [size_len] at hl; exact hl) (by
      show seg l 0 1 = _
      exact seg_pre (hp 1 (by omega) (by omega)))
    rw [this]; decide
  · rw [hk, if_neg (by decide), if_neg (by decide), if_neg (by decide), if_pos rfl]
    refine decide_eq_false fun h => hl ?_
    unfold Ms.lay
    rw [hk, h]
    show 12 = (nb m.dst.toNat 1 ++ nb m.hops.toNat 1 ++ nb m.wi.frm.toNat 1 ++ nb m.wi.ep 4 ++ nb m.wi.ver 4 ++ nb m.wi.grp 1).length
    simp [nb_len]
  · rw [hk, if_neg (by decide), if_neg (by decide), if_neg (by decide), if_neg (by decide)]
    refine decide_eq_false fun h => hl ?_
    unfold Ms.lay
    rw [hk, h]
    show 16 = (nb m.dst.toNat 1 ++ nb m.hops.toNat 1 ++ nb m.ak.frm.toNat 1 ++ nb m.ak.ep 4 ++ nb m.ak.dst.toNat 1 ++ nb m.ak.lif 4 ++ nb m.ak.ver 4).length
    simp [nb_len]
/-- Bytes of another length, alike as far as both go, are no message. -/
theorem decM_other {m : Ms} (hok : m.ok) (hc : m.chk = true) {s : ByteArray} (hs : s.size ≠ m.enc.size) (h11 : 11 ≤ s.size) (hp : ∀ j, j ≤ s.size → j ≤ m.enc.size → s.data.toList.take j = m.enc.data.toList.take j) : decME s ≠ 0 := by
  obtain ⟨h1, h2, h3⟩ := menc_open m
  obtain ⟨h4, h5⟩ := body_kind hc
  have h6 := lay_bounds hc
  intro h
  have hEB : openE s = 0 ∧ bodyOk (openS s).data.toList = true := by
    unfold decME at h
    by_cases q1 : 512 < s.size
    · rw [if_pos q1] at h; cases h
    · rw [if_neg q1, if_neg (by omega)] at h
      by_cases q2 : openE s = 0
      · rw [if_pos q2] at h
        by_cases q3 : bodyOk (openS s).data.toList = true
        · exact ⟨q2, q3⟩
        · rw [if_neg q3] at h; cases h
      · rw [if_neg q2] at h; exact absurd h q2
  obtain ⟨hE, hB⟩ := hEB
  obtain ⟨q1, q2⟩ := open_sealB hE
  obtain ⟨b, hb⟩ : ∃ b, b = (openS s).data.toList := ⟨_, rfl⟩
  have hbl : b.length = s.size - 2 := by rw [hb, size_len]; omega
  have hpre : ∀ j, j ≤ b.length → s.data.toList.take j = b.take j := fun j hj => by
    rw [← q1, sealB_list, ← hb, List.take_append_of_le_length hj]
  have hpre2 : ∀ j, j ≤ m.body.length → m.enc.data.toList.take j = m.body.take j := fun j hj => by
    unfold Ms.enc
    rw [sealB_list, bs_toList, List.take_append_of_le_length hj]
  have hbd : m.body.length = m.lay.length + 1 := rfl
  have hh : ∀ j, j ≤ b.length → j ≤ m.body.length → b.take j = m.body.take j := fun j j1 j2 => by
    rw [← hpre j j1, ← hpre2 j j2]
    exact hp j (by omega) (by omega)
  obtain ⟨x, t, hbx⟩ : ∃ x t, b = x :: t := by
    cases hbb : b with
    | nil => rw [hbb] at hbl; simp at hbl; omega
    | cons x t => exact ⟨x, t, rfl⟩
  have hx : [x] = [toU8 m.kd.toNat] := by
    have := hh 1 (by omega) (by omega)
    rw [hbx] at this
    exact this
  have hkd : kindOf b = m.kd := by
    rw [← h4, hbx]
    show ((x.toNat : Nat) : Int) = (((toU8 m.kd.toNat).toNat : Nat) : Int)
    rw [List.cons.inj hx |>.1]
  have ht : t.length = b.length - 1 := by rw [hbx]; simp
  have hr := red_other hok hc (l := t) (by omega) (by omega) (fun j j1 j2 => by
    have := hh (j + 1) (by omega) (by omega)
    rw [hbx] at this
    exact (List.cons.inj this).2)
  unfold bodyOk at hB
  rw [← hb, hkd] at hB
  have htl : b.tail = t := by rw [hbx]; rfl
  rw [htl, hr] at hB
  simp at hB

end Go.Proofs.YtickjmkkgcfkhaaGreat

/- Contracts of the message's Kind, of the laws' example and works. (Printed by mkmss.py.) -/
set_option linter.unusedSimpArgs false
set_option linter.unusedVariables false
set_option maxRecDepth 100000
set_option maxRecDepth 100000
namespace Go.Proofs.YtickjmkkgcfkhaaGreat
open Go.RowKit Go.ChangeShapes Go.WideShapes

theorem hal_new (V : World) (c : Array Value) (t : TypeId) : (V.alloc (.cells c t)).heap[V.heap.size]? = some (.cells c t (0, 0)) := heap_alloc_new _ _
def knd (s : ByteArray) : Int := if decME s = 0 then (decM s).kd else 0
set_option maxHeartbeats 1600000 in
theorem mkind_any (s : ByteArray) (W : World) (hs : s.size ≤ 140737488355000) : Calls Tryz.prog 7 #[.string s] W fun e W' => e = .returned (.int .i64 (knd s)) ∧ Below W.heap.size W W' := by
  have HD := Lib.hid (mdecode_any s W hs)
  obtain ⟨M, hM⟩ : ∃ M, M = decM s := ⟨_, rfl⟩
  obtain ⟨E, hE⟩ : ∃ E, E = decME s := ⟨_, rfl⟩
  have HK := Lib.hid (show knd s = if E = 0 then M.kd else 0 by rw [hE, hM]; rfl)
  rw [← hM, ← hE] at HD
  clear hM hE
  go_enter Tryz.func7, Tryz.ntmps7
  go_wp2_with fail
  refine HD.out.mono ?_
  rintro e V ⟨sa, sc, rfl, har, hb⟩
  unfold Ms.ag
  have HB := Lib.hid hb
  have HAL := Lib.hid (hal_new V #[.int .i64 0, .int .i64 0, .int .u32 0, .int .u32 0, .int .i64 0, .bool false, .slice none 0 0, .int .i64 0, .int .u32 0, .int .u32 0, .int .i64 0, .int .i64 0, .int .u32 0, .int .i64 0, .int .i64 0, .int .i64 0, .int .u32 0, .int .u64 0, .int .u64 0, .int .u64 0, .int .u64 0, .int .i64 0, .int .i64 0, .int .i64 0, .int .u32 0, .int .u32 0, .int .u8 0, .int .i64 0, .int .u32 0, .int .i64 0, .int .u32 0, .int .u32 0] 38)
  have HS2 := Lib.hid (info_msg' M sa sc)
  have HS3 := Lib.hid (show (#[.int .i64 0, .int .i64 0, .int .u32 0, .int .u32 0, .int .i64 0, .bool false, .slice none 0 0, .int .i64 0, .int .u32 0, .int .u32 0, .int .i64 0, .int .i64 0, .int .u32 0, .int .i64 0, .int .i64 0, .int .i64 0, .int .u32 0, .int .u64 0, .int .u64 0, .int .u64 0, .int .u64 0, .int .i64 0, .int .i64 0, .int .i64 0, .int .u32 0, .int .u32 0, .int .u8 0, .int .i64 0, .int .u32 0, .int .i64 0, .int .u32 0, .int .u32 0] : Array Value).size = (M.cs sa sc).size from rfl)
  have HS4 := Lib.hid (cs_one M sa sc)
  clear har hb HD
  go_upto_region 2 with ((with_reducible refine wpList_store_row rfl 38 (.tmp 3) (.tmp 8) rfl rfl V.heap.size rfl 38 #[.int .i64 0, .int .i64 0, .int .u32 0, .int .u32 0, .int .i64 0, .bool false, .slice none 0 0, .int .i64 0, .int .u32 0, .int .u32 0, .int .i64 0, .int .i64 0, .int .u32 0, .int .i64 0, .int .i64 0, .int .i64 0, .int .u32 0, .int .u64 0, .int .u64 0, .int .u64 0, .int .u64 0, .int .i64 0, .int .i64 0, .int .i64 0, .int .u32 0, .int .u32 0, .int .u8 0, .int .i64 0, .int .u32 0, .int .i64 0, .int .u32 0, .int .u32 0] (M.cs sa sc) rfl HAL.out HS2.out HS3.out HS4.out ?_))
  obtain ⟨Y, hY⟩ : ∃ Y, Y = (V.alloc (.cells #[.int .i64 0, .int .i64 0, .int .u32 0, .int .u32 0, .int .i64 0, .bool false, .slice none 0 0, .int .i64 0, .int .u32 0, .int .u32 0, .int .i64 0, .int .i64 0, .int .u32 0, .int .i64 0, .int .i64 0, .int .i64 0, .int .u32 0, .int .u64 0, .int .u64 0, .int .u64 0, .int .u64 0, .int .i64 0, .int .i64 0, .int .i64 0, .int .u32 0, .int .u32 0, .int .u8 0, .int .i64 0, .int .u32 0, .int .i64 0, .int .u32 0, .int .u32 0] 38)).setRow V.heap.size (M.cs sa sc) := ⟨_, rfl⟩
  have hgY : BoxM V.heap.size M sa sc Y := by rw [hY]; exact setRow_heap _ _ _ _ _ _ HAL.out
  have hbY : Below V.heap.size V Y := by rw [hY]; exact below_setRow ((Below.refl _ _).alloc (Nat.le_refl _) _) (Nat.le_refl _)
  have x0 : Y.cell? ⟨V.heap.size, 0, none⟩ = some (.int .i64 M.kd) := hgY.cell rfl
  have HBY := Lib.hid (HB.out.trans (hbY.mono HB.out.size))
  rw [← hY]
  clear hY hgY hbY
  by_cases h : E = 0
  · have HR := Lib.hid (show knd s = M.kd by rw [HK.out, if_pos h])
    subst h
    go_wp2_with fail
    go_returns
    exact ⟨by rw [HR.out]; rfl, HBY.out⟩
  · have HR := Lib.hid (show knd s = 0 by rw [HK.out, if_neg h])
    have e1 : (E == 0) = false := by rw [beq_eq_false_iff_ne]; exact h
    have e2 : (E != 0) = true := by rw [bne_iff_ne]; exact h
    clear h
    go_wp2_with fail
    go_returns
    exact ⟨by rw [HR.out]; rfl, HBY.out⟩

theorem results_cell1 {P : Program} {fn : Func} {a : Tmp} {t : TypeId} {w : World} {tmps cs : Array Value} {g : Nat} {d : TypeDesc} (hres : fn.results = #[.cell a t]) (ha : tmps.getD a undef = .pointer (some ⟨g, 0, none⟩))
    (hg : w.heap[g]? = some (.cells cs t (0, 0))) (hu : P.underlying t = some d) (hd : d.isRow = true) (hi : (P.info? t).map (·.size) = some cs.toList.length) : (results fn tmps).run P w = .ok (.agg cs) w := by
  have hl := run_loadVar_cs (P := P) (w := w) t ⟨g, 0, none⟩ cs.toList d (block_cells hg) hu hd hi
  rw [Array.toArray_toList] at hl
  have ha' : tmps[a]?.getD undef = .pointer (some ⟨g, 0, none⟩) := by simpa using ha
  unfold results
  rw [hres]
  simp [ha', asAddr, hl]
def wishM : Ms := { Ms.zero with kd := 4, dst := 7, hops := 15, wi := ⟨2, 1, 3, 129⟩ }
theorem wish_ok : wishM.ok := by simp [wishM, Ms.ok, Ms.zero, Rc.ok, Rc.zero, St.ok, Hd.ok, Hd.zero, Bt.ok, Bt.zero, Wi.ok, Ak.ok, Ak.zero, I64]
theorem wish_chk : wishM.chk = true := by decide +kernel
theorem wish_body : wishM.body = [4, 7, 15, 2, 0, 0, 0, 1, 0, 0, 0, 3, 129] := by decide +kernel
theorem wish_size : wishM.enc.size = 15 := by
  have h := (menc_open wishM).2.2
  have : wishM.lay.length = 12 := by decide +kernel
  omega
theorem wish_front : wishM.enc.extract 0 13 = ⟨#[4, 7, 15, 2, 0, 0, 0, 1, 0, 0, 0, 3, 129]⟩ := by
  apply ByteArray.ext
  apply Array.toList_inj.1
  rw [ByteArray.data_extract, Array.toList_extract, List.extract]
  show ((wishM.enc.data.toList.drop 0).take 13) = _
  unfold Ms.enc
  rw [sealB_list, bs_toList, wish_body]
  rfl
set_option maxHeartbeats 1600000 in
theorem wish_any (W : World) : Calls Tryz.prog 21 #[] W fun e W' => e = .returned (.agg #[.int .i64 4, .int .i64 0, .int .u32 0, .int .u32 0, .int .i64 0, .bool false, .slice none 0 0, .int .i64 0, .int .u32 0, .int .u32 0, .int .i64 0, .int .i64 0, .int .u32 0, .int .i64 0, .int .i64 0, .int .i64 0, .int .u32 0, .int .u64 0, .int .u64 0, .int .u64 0, .int .u64 0, .int .i64 7, .int .i64 15, .int .i64 2, .int .u32 1, .int .u32 3, .int .u8 129, .int .i64 0, .int .u32 0, .int .i64 0, .int .u32 0, .int .u32 0]) ∧ Below W.heap.size W W' := by
  have HAL := Lib.hid (hal_new W #[.int .i64 0, .int .i64 0, .int .u32 0, .int .u32 0, .int .i64 0, .bool false, .slice none 0 0, .int .i64 0, .int .u32 0, .int .u32 0, .int .i64 0, .int .i64 0, .int .u32 0, .int .i64 0, .int .i64 0, .int .i64 0, .int .u32 0, .int .u64 0, .int .u64 0, .int .u64 0, .int .u64 0, .int .i64 0, .int .i64 0, .int .i64 0, .int .u32 0, .int .u32 0, .int .u8 0, .int .i64 0, .int .u32 0, .int .i64 0, .int .u32 0, .int .u32 0] 38)
  have HS2 := Lib.hid (show (Tryz.prog.info? 38).map (·.size) = some (#[.int .i64 4, .int .i64 0, .int .u32 0, .int .u32 0, .int .i64 0, .bool false, .slice none 0 0, .int .i64 0, .int .u32 0, .int .u32 0, .int .i64 0, .int .i64 0, .int .u32 0, .int .i64 0, .int .i64 0, .int .i64 0, .int .u32 0, .int .u64 0, .int .u64 0, .int .u64 0, .int .u64 0, .int .i64 7, .int .i64 15, .int .i64 2, .int .u32 1, .int .u32 3, .int .u8 129, .int .i64 0, .int .u32 0, .int .i64 0, .int .u32 0, .int .u32 0] : Array Value).size from info_msg' wishM none 0)
  have HS3 := Lib.hid (show (#[.int .i64 0, .int .i64 0, .int .u32 0, .int .u32 0, .int .i64 0, .bool false, .slice none 0 0, .int .i64 0, .int .u32 0, .int .u32 0, .int .i64 0, .int .i64 0, .int .u32 0, .int .i64 0, .int .i64 0, .int .i64 0, .int .u32 0, .int .u64 0, .int .u64 0, .int .u64 0, .int .u64 0, .int .i64 0, .int .i64 0, .int .i64 0, .int .u32 0, .int .u32 0, .int .u8 0, .int .i64 0, .int .u32 0, .int .i64 0, .int .u32 0, .int .u32 0] : Array Value).size = (#[.int .i64 4, .int .i64 0, .int .u32 0, .int .u32 0, .int .i64 0, .bool false, .slice none 0 0, .int .i64 0, .int .u32 0, .int .u32 0, .int .i64 0, .int .i64 0, .int .u32 0, .int .i64 0, .int .i64 0, .int .i64 0, .int .u32 0, .int .u64 0, .int .u64 0, .int .u64 0, .int .u64 0, .int .i64 7, .int .i64 15, .int .i64 2, .int .u32 1, .int .u32 3, .int .u8 129, .int .i64 0, .int .u32 0, .int .i64 0, .int .u32 0, .int .u32 0] : Array Value).size from rfl)
  have HS4 := Lib.hid (show (#[.int .i64 4, .int .i64 0, .int .u32 0, .int .u32 0, .int .i64 0, .bool false, .slice none 0 0, .int .i64 0, .int .u32 0, .int .u32 0, .int .i64 0, .int .i64 0, .int .u32 0, .int .i64 0, .int .i64 0, .int .i64 0, .int .u32 0, .int .u64 0, .int .u64 0, .int .u64 0, .int .u64 0, .int .i64 7, .int .i64 15, .int .i64 2, .int .u32 1, .int .u32 3, .int .u8 129, .int .i64 0, .int .u32 0, .int .i64 0, .int .u32 0, .int .u32 0] : Array Value).all (·.oneCell') = true from cs_one wishM none 0)
  go_enter Tryz.func21, Tryz.ntmps21
  go_wp2_with ((with_reducible refine wpList_store_row rfl 38 (.tmp 0) (.tmp 2) rfl rfl W.heap.size rfl 38 #[.int .i64 0, .int .i64 0, .int .u32 0, .int .u32 0, .int .i64 0, .bool false, .slice none 0 0, .int .i64 0, .int .u32 0, .int .u32 0, .int .i64 0, .int .i64 0, .int .u32 0, .int .i64 0, .int .i64 0, .int .i64 0, .int .u32 0, .int .u64 0, .int .u64 0, .int .u64 0, .int .u64 0, .int .i64 0, .int .i64 0, .int .i64 0, .int .u32 0, .int .u32 0, .int .u8 0, .int .i64 0, .int .u32 0, .int .i64 0, .int .u32 0, .int .u32 0] #[.int .i64 4, .int .i64 0, .int .u32 0, .int .u32 0, .int .i64 0, .bool false, .slice none 0 0, .int .i64 0, .int .u32 0, .int .u32 0, .int .i64 0, .int .i64 0, .int .u32 0, .int .i64 0, .int .i64 0, .int .i64 0, .int .u32 0, .int .u64 0, .int .u64 0, .int .u64 0, .int .u64 0, .int .i64 7, .int .i64 15, .int .i64 2, .int .u32 1, .int .u32 3, .int .u8 129, .int .i64 0, .int .u32 0, .int .i64 0, .int .u32 0, .int .u32 0] rfl HAL.out HS2.out HS3.out HS4.out ?_))
  (try simp only [Exit.inBlock, Exit.then])
  exact bodyPost_ret (results_cell1 rfl rfl (setRow_heap _ _ _ _ _ _ HAL.out) Tryz.underlying38 rfl (info_msg wishM none 0)) rfl ⟨rfl, below_setRow ((Below.refl _ _).alloc (Nat.le_refl _) _) (Nat.le_refl _)⟩

theorem adjs_nil (W : World) : AdjsIn W none [] := fun i hi => absurd hi (by simp)
theorem wish_enc (W : World) : Calls Tryz.prog 20 #[.agg #[.int .i64 4, .int .i64 0, .int .u32 0, .int .u32 0, .int .i64 0, .bool false, .slice none 0 0, .int .i64 0, .int .u32 0, .int .u32 0, .int .i64 0, .int .i64 0, .int .u32 0, .int .i64 0, .int .i64 0, .int .i64 0, .int .u32 0, .int .u64 0, .int .u64 0, .int .u64 0, .int .u64 0, .int .i64 7, .int .i64 15, .int .i64 2, .int .u32 1, .int .u32 3, .int .u8 129, .int .i64 0, .int .u32 0, .int .i64 0, .int .u32 0, .int .u32 0]] W fun e W' => e = .returned (.tuple #[.string wishM.enc, .int .i64 0]) ∧ Below W.heap.size W W' := by
  have h := mencode_any wishM none 0 W wish_ok (adjs_nil W) (by simp [wishM, Ms.zero, Rc.zero])
  unfold Ms.encS Ms.err at h
  rw [wish_chk, if_pos rfl, if_pos rfl] at h
  exact h
theorem wish_dec (W : World) : Calls Tryz.prog 4 #[.string wishM.enc] W (DecM W wishM 0) := by
  have h := mdecode_any wishM.enc W (by rw [wish_size]; decide)
  rw [(decM_enc wish_ok wish_chk).1, (decM_enc wish_ok wish_chk).2] at h
  exact h
set_option maxHeartbeats 6400000 in
theorem works_any (W : World) : Calls Tryz.prog 9 #[] W fun e W' => e = .returned (.bool true) ∧ Below W.heap.size W W' := by
  have HWI := Lib.hid wish_any
  obtain ⟨E, hE⟩ : ∃ E, E = wishM.enc := ⟨_, rfl⟩
  have HEN := Lib.hid wish_enc
  have HDE := Lib.hid wish_dec
  rw [← hE] at HEN HDE
  have hsz : E.size = 15 := by rw [hE]; exact wish_size
  have hfr : E.extract 0 13 = ⟨#[4, 7, 15, 2, 0, 0, 0, 1, 0, 0, 0, 3, 129]⟩ := by rw [hE]; exact wish_front
  clear hE
  go_enter Tryz.func9, Tryz.ntmps9
  go_wp2_with fail
  refine (HWI.out W).mono ?_
  rintro e V1 ⟨rfl, hb⟩
  have HB1 := Lib.hid hb
  clear hb
  go_wp2_with fail
  refine (HEN.out V1).mono ?_
  rintro e V2 ⟨rfl, hb⟩
  have HB2 := Lib.hid (HB1.out.trans (hb.mono HB1.out.size))
  clear hb
  go_wp2_with fail
  refine (HDE.out V2).mono ?_
  rintro e V ⟨sa, sc, rfl, har, hb⟩
  unfold Ms.ag
  have HB := Lib.hid (HB2.out.trans (hb.mono HB2.out.size))
  have HAL := Lib.hid (hal_new V #[.int .i64 0, .int .i64 0, .int .u32 0, .int .u32 0, .int .i64 0, .bool false, .slice none 0 0, .int .i64 0, .int .u32 0, .int .u32 0, .int .i64 0, .int .i64 0, .int .u32 0, .int .i64 0, .int .i64 0, .int .i64 0, .int .u32 0, .int .u64 0, .int .u64 0, .int .u64 0, .int .u64 0, .int .i64 0, .int .i64 0, .int .i64 0, .int .u32 0, .int .u32 0, .int .u8 0, .int .i64 0, .int .u32 0, .int .i64 0, .int .u32 0, .int .u32 0] 38)
  have HS2 := Lib.hid (info_msg' wishM sa sc)
  have HS3 := Lib.hid (show (#[.int .i64 0, .int .i64 0, .int .u32 0, .int .u32 0, .int .i64 0, .bool false, .slice none 0 0, .int .i64 0, .int .u32 0, .int .u32 0, .int .i64 0, .int .i64 0, .int .u32 0, .int .i64 0, .int .i64 0, .int .i64 0, .int .u32 0, .int .u64 0, .int .u64 0, .int .u64 0, .int .u64 0, .int .i64 0, .int .i64 0, .int .i64 0, .int .u32 0, .int .u32 0, .int .u8 0, .int .i64 0, .int .u32 0, .int .i64 0, .int .u32 0, .int .u32 0] : Array Value).size = (wishM.cs sa sc).size from rfl)
  have HS4 := Lib.hid (cs_one wishM sa sc)
  clear har hb
  go_wp2_with ((with_reducible refine wpList_store_row rfl 38 (.tmp 3) (.tmp 13) rfl rfl V.heap.size rfl 38 #[.int .i64 0, .int .i64 0, .int .u32 0, .int .u32 0, .int .i64 0, .bool false, .slice none 0 0, .int .i64 0, .int .u32 0, .int .u32 0, .int .i64 0, .int .i64 0, .int .u32 0, .int .i64 0, .int .i64 0, .int .i64 0, .int .u32 0, .int .u64 0, .int .u64 0, .int .u64 0, .int .u64 0, .int .i64 0, .int .i64 0, .int .i64 0, .int .u32 0, .int .u32 0, .int .u8 0, .int .i64 0, .int .u32 0, .int .i64 0, .int .u32 0, .int .u32 0] (wishM.cs sa sc) rfl HAL.out HS2.out HS3.out HS4.out ?_))
  obtain ⟨Y, hY⟩ : ∃ Y, Y = (V.alloc (.cells #[.int .i64 0, .int .i64 0, .int .u32 0, .int .u32 0, .int .i64 0, .bool false, .slice none 0 0, .int .i64 0, .int .u32 0, .int .u32 0, .int .i64 0, .int .i64 0, .int .u32 0, .int .i64 0, .int .i64 0, .int .i64 0, .int .u32 0, .int .u64 0, .int .u64 0, .int .u64 0, .int .u64 0, .int .i64 0, .int .i64 0, .int .i64 0, .int .u32 0, .int .u32 0, .int .u8 0, .int .i64 0, .int .u32 0, .int .i64 0, .int .u32 0, .int .u32 0] 38)).setRow V.heap.size (wishM.cs sa sc) := ⟨_, rfl⟩
  have hgY : BoxM V.heap.size wishM sa sc Y := by rw [hY]; exact setRow_heap _ _ _ _ _ _ HAL.out
  have hbY : Below V.heap.size V Y := by rw [hY]; exact below_setRow ((Below.refl _ _).alloc (Nat.le_refl _) _) (Nat.le_refl _)
  have HBY := Lib.hid (HB.out.trans (hbY.mono HB.out.size))
  have HGY := Lib.hid hgY
  have X0 := Lib.hid (show ∀ Z, Below Y.heap.size Y Z → Z.cell? ⟨V.heap.size, 0, none⟩ = some (.int .i64 4) from fun Z hZ => (HGY.out.later hZ).cell rfl)
  have X21 := Lib.hid (show ∀ Z, Below Y.heap.size Y Z → Z.cell? ⟨V.heap.size, 21, none⟩ = some (.int .i64 7) from fun Z hZ => (HGY.out.later hZ).cell rfl)
  have X23 := Lib.hid (show ∀ Z, Below Y.heap.size Y Z → Z.cell? ⟨V.heap.size, 23, none⟩ = some (.int .i64 2) from fun Z hZ => (HGY.out.later hZ).cell rfl)
  have X24 := Lib.hid (show ∀ Z, Below Y.heap.size Y Z → Z.cell? ⟨V.heap.size, 24, none⟩ = some (.int .u32 1) from fun Z hZ => (HGY.out.later hZ).cell rfl)
  have X25 := Lib.hid (show ∀ Z, Below Y.heap.size Y Z → Z.cell? ⟨V.heap.size, 25, none⟩ = some (.int .u32 3) from fun Z hZ => (HGY.out.later hZ).cell rfl)
  have X26 := Lib.hid (show ∀ Z, Below Y.heap.size Y Z → Z.cell? ⟨V.heap.size, 26, none⟩ = some (.int .u8 129) from fun Z hZ => (HGY.out.later hZ).cell rfl)
  rw [← hY]
  clear hY hgY hbY
  obtain ⟨U, hU⟩ : ∃ U, U = Y.drew := ⟨_, rfl⟩
  have HU := Lib.hid (show Below Y.heap.size Y U by rw [hU]; exact drew_below _)
  refine wp_region_ord [(0, true), (1, true), (2, true), (3, true), (4, true), (5, true), (6, true), (7, true), (8, true), (9, true), (10, true), (11, true), (12, true), (13, true), (14, true), (15, true), (16, true), (17, true), (18, true), (19, true), (20, true), (21, true), (22, true), (23, true), (24, true), (25, true), (26, true), (27, true), (28, true), (29, false), (30, true), (31, true), (32, true), (33, true)] (fun Z => Below Y.heap.size Y Z) (by kernel_rfl) (by kernel_rfl) (by decide) (by kernel_rfl) (fun d _ _ _ _ h => by cases d <;> first | exact h | exact h.trans ((drew_below _).mono h.size)) (by rw [← hU]; exact HU.out) ?_
  rw [← hU]
  clear hU
  iterate 29 ((apply wpOrd_take rfl rfl (by kernel_rfl); (intro Z hZ; have y0 := X0.out Z hZ; have y21 := X21.out Z hZ; have y23 := X23.out Z hZ; have y24 := X24.out Z hZ; have y25 := X25.out Z hZ; have y26 := X26.out Z hZ; go_simp; rfl)); (try simp only [List.setIfInBounds_toArray, List.set_cons_succ, List.set_cons_zero]))
  apply wpOrd_do rfl (by kernel_rfl)
  intro K hK
  go_simp
  refine (HWI.out U).mono ?_
  rintro e Z ⟨rfl, hb⟩
  have HZ := Lib.hid (HU.out.trans (hb.mono HU.out.size))
  refine hK _ _ HZ.out ?_
  clear hK K hb
  iterate 4 ((apply wpOrd_take rfl rfl (by kernel_rfl); (intro Z hZ; go_simp; rfl)); (try simp only [List.setIfInBounds_toArray, List.set_cons_succ, List.set_cons_zero]))
  refine wpOrd_nil ?_
  go_wp2_with fail
  go_returns
  exact ⟨rfl, HBY.out.trans (HZ.out.mono HBY.out.size)⟩

end Go.Proofs.YtickjmkkgcfkhaaGreat
