/- The message, plain: it comes back from its bytes; no bytes more or fewer are read as it. No program is in sight. -/
import Derived.Test.YtickjmkkgcfkhaaMsM
set_option linter.unusedSimpArgs false
set_option linter.unusedVariables false
set_option maxRecDepth 100000
set_option maxRecDepth 100000
namespace Go.Proofs.Ytickjmkkgcfkhaa

theorem chk_kd {m : Ms} (h : m.chk = true) : (m.kd = 1 ∨ m.kd = 2 ∨ m.kd = 3 ∨ m.kd = 4 ∨ m.kd = 5) ∧ m.fit = true ∧ m.may = true := by
  unfold Ms.chk Ms.isk at h
  rw [Bool.and_eq_true, Bool.and_eq_true, Bool.and_eq_true, decide_eq_true_eq, decide_eq_true_eq] at h
  exact ⟨by omega, h.1.2, h.2⟩
theorem nul_is {r : Rc} (h : r.nul = true) : r = Rc.zero := by
  unfold Rc.nul at h
  simp only [Bool.and_eq_true, beq_iff_eq, Bool.not_eq_true'] at h
  obtain ⟨⟨⟨⟨⟨h1, h2⟩, h3⟩, h4⟩, h5⟩, h6⟩ := h
  obtain ⟨o, e, s, c, i, a⟩ := r
  simp only at h1 h2 h3 h4 h5 h6
  obtain rfl : a = [] := List.eq_nil_of_length_eq_zero h6
  subst h1 h2 h3 h4 h5
  rfl
theorem zy_is {m : Ms} (h : m.zy = true) : m.dst = 0 ∧ m.hops = 0 := by
  unfold Ms.zy at h
  simpa using h
theorem one_of {n : Int} (h : 0 ≤ n ∧ n < 256) : n.toNat < 256 ^ 1 := by omega
/-- A kind's parts come back. -/
theorem got_lay {m : Ms} (hok : m.ok) (hc : m.chk = true) : redOk m.kd m.lay = true ∧ Ms.got m.kd m.lay = m := by
  obtain ⟨hk, hf, hm⟩ := chk_kd hc
  obtain ⟨o1, o2, o3, o4, o5, o6, o7, o8⟩ := hok
  obtain ⟨kd, rc, st, hd, ds, hp, wi, ak⟩ := m
  simp only at hk
  unfold Ms.fit at hf
  unfold Ms.may at hm
  unfold Ms.lay
  simp only at hf hm o1 o2 o3 o4 o5 o6 o7 o8 ⊢
  rcases hk with rfl | rfl | rfl | rfl | rfl
  · rw [if_pos rfl] at hf hm ⊢
    simp only [Bool.and_eq_true] at hf
    obtain ⟨⟨⟨⟨f1, f2⟩, f3⟩, f4⟩, f5⟩ := hf
    obtain ⟨d1, d2⟩ := dec_enc o2 hm
    have f1' := of_decide_eq_true f1; have f2' := of_decide_eq_true f2; have f4' := of_decide_eq_true f4; have f5' := of_decide_eq_true f5
    obtain ⟨f3a, f3b⟩ := zy_is f3
    simp only at f1' f2' f4' f5' f3a f3b
    subst f1' f2' f4' f5' f3a f3b
    have hR : decR rc.enc = rc := by unfold decR; rw [d1, if_pos rfl, d2]
    have hE : decE rc.enc = 0 := by unfold decE; rw [d1, if_pos rfl]
    refine ⟨?_, ?_⟩
    · show decide (decE rc.enc = 0) = true; rw [hE]; rfl
    · show ({ Ms.zero with kd := 1, rc := decR rc.enc } : Ms) = _; rw [hR]; rfl
  · rw [if_neg (by decide), if_pos rfl] at hf hm ⊢
    simp only [Bool.and_eq_true] at hf
    obtain ⟨⟨⟨⟨f1, f2⟩, f3⟩, f4⟩, f5⟩ := hf
    have d2 := St.dec_enc o3 hm
    have f1' := nul_is f1; have f2' := of_decide_eq_true f2; have f4' := of_decide_eq_true f4; have f5' := of_decide_eq_true f5
    obtain ⟨f3a, f3b⟩ := zy_is f3
    simp only at f1' f2' f4' f5' f3a f3b
    subst f1' f2' f4' f5' f3a f3b
    have d1 : decSOk st.enc = true := by unfold decSOk; rw [st.enc_len, d2, hm]; rfl
    have hR : decS st.enc = st := by unfold decS; rw [d1, if_pos rfl, d2]
    have hE : decSE st.enc = 0 := by unfold decSE; rw [d1, if_pos rfl]
    refine ⟨?_, ?_⟩
    · show decide (decSE st.enc = 0) = true; rw [hE]; rfl
    · show ({ Ms.zero with kd := 2, st := decS st.enc } : Ms) = _; rw [hR]; rfl
  · rw [if_neg (by decide), if_neg (by decide), if_pos rfl] at hf hm ⊢
    simp only [Bool.and_eq_true] at hf
    obtain ⟨⟨⟨⟨f1, f2⟩, f3⟩, f4⟩, f5⟩ := hf
    obtain ⟨d1, d2⟩ := decH_enc o4 hm
    have f1' := nul_is f1; have f2' := of_decide_eq_true f2; have f4' := of_decide_eq_true f4; have f5' := of_decide_eq_true f5
    obtain ⟨f3a, f3b⟩ := zy_is f3
    simp only at f1' f2' f4' f5' f3a f3b
    subst f1' f2' f4' f5' f3a f3b
    refine ⟨?_, ?_⟩
    · show decide (decHE (bs hd.enc.data.toList) = 0) = true; rw [bs_of, d1]; rfl
    · show ({ Ms.zero with kd := 3, hd := decH (bs hd.enc.data.toList) } : Ms) = _; rw [bs_of, d2]; rfl
  · rw [if_neg (by decide), if_neg (by decide), if_neg (by decide), if_pos rfl] at hf hm ⊢
    simp only [Bool.and_eq_true] at hf
    obtain ⟨⟨⟨f1, f2⟩, f3⟩, f5⟩ := hf
    have f1' := nul_is f1; have f2' := of_decide_eq_true f2; have f3' := of_decide_eq_true f3; have f5' := of_decide_eq_true f5
    simp only at f1' f2' f3' f5'
    subst f1' f2' f3' f5'
    rw [Bool.and_eq_true] at hm
    obtain ⟨hw, hm⟩ := hm
    unfold Ms.way at hw
    unfold Wi.may at hm
    simp only [rtr, Bool.and_eq_true, decide_eq_true_eq] at hw hm
    obtain ⟨w1, w2, w3, w4⟩ := o7
    obtain ⟨wf, we, wv, wg⟩ := wi
    simp only at hw hm w1 w2 w3 w4 ⊢
    obtain ⟨L, hL⟩ : ∃ L, L = nb ds.toNat 1 ++ nb hp.toNat 1 ++ nb wf.toNat 1 ++ nb we 4 ++ nb wv 4 ++ nb wg 1 := ⟨_, rfl⟩
    have s0 : seg L 0 1 = ds.toNat := by
      rw [hL, List.append_assoc, List.append_assoc, List.append_assoc, List.append_assoc]; exact seg_at (pre := []) rfl (by omega)
    have s1 : seg L 1 1 = hp.toNat := by
      rw [hL, List.append_assoc, List.append_assoc, List.append_assoc]; exact seg_at (pre := nb ds.toNat 1) (by simp [nb_len]) (by omega)
    have s2 : seg L 2 1 = wf.toNat := by
      rw [hL, List.append_assoc, List.append_assoc]; exact seg_at (pre := nb ds.toNat 1 ++ nb hp.toNat 1) (by simp [nb_len]) (by omega)
    have s3 : seg L 3 4 = we := by
      rw [hL, List.append_assoc]; exact seg_at (pre := nb ds.toNat 1 ++ nb hp.toNat 1 ++ nb wf.toNat 1) (by simp [nb_len]) (by omega)
    have s7 : seg L 7 4 = wv := by
      rw [hL]; exact seg_at (pre := nb ds.toNat 1 ++ nb hp.toNat 1 ++ nb wf.toNat 1 ++ nb we 4) (by simp [nb_len]) (by omega)
    have s11 : seg L 11 1 = wg := by
      have := seg_at (pre := nb ds.toNat 1 ++ nb hp.toNat 1 ++ nb wf.toNat 1 ++ nb we 4 ++ nb wv 4) (suf := []) (a := 11) (k := 1) (v := wg) (by simp [nb_len]) (by omega)
      rw [List.append_nil] at this
      rw [hL]; exact this
    rw [← hL]
    refine ⟨?_, ?_⟩
    · show decide (L.length = 12) = true
      rw [hL]; simp [nb_len]
    · show ({ Ms.zero with kd := 4, dst := (seg L 0 1 : Nat), hops := (seg L 1 1 : Nat), wi := ⟨(seg L 2 1 : Nat), seg L 3 4, seg L 7 4, seg L 11 1⟩ } : Ms) = _
      rw [s0, s1, s2, s3, s7, s11, Int.toNat_of_nonneg (by omega), Int.toNat_of_nonneg (by omega), Int.toNat_of_nonneg (by omega)]
      rfl
  · rw [if_neg (by decide), if_neg (by decide), if_neg (by decide), if_neg (by decide)] at hf hm ⊢
    simp only [Bool.and_eq_true] at hf
    obtain ⟨⟨⟨f1, f2⟩, f3⟩, f5⟩ := hf
    have f1' := nul_is f1; have f2' := of_decide_eq_true f2; have f3' := of_decide_eq_true f3; have f5' := of_decide_eq_true f5
    simp only at f1' f2' f3' f5'
    subst f1' f2' f3' f5'
    rw [Bool.and_eq_true] at hm
    obtain ⟨hw, hm⟩ := hm
    unfold Ms.way at hw
    unfold Ak.may at hm
    simp only [rtr, Bool.and_eq_true, decide_eq_true_eq] at hw hm
    obtain ⟨w1, w2, w3, w4, w5⟩ := o8
    obtain ⟨wf, we, wt, wl, wv⟩ := ak
    simp only at hw hm w1 w2 w3 w4 w5 ⊢
    obtain ⟨L, hL⟩ : ∃ L, L = nb ds.toNat 1 ++ nb hp.toNat 1 ++ nb wf.toNat 1 ++ nb we 4 ++ nb wt.toNat 1 ++ nb wl 4 ++ nb wv 4 := ⟨_, rfl⟩
    have s0 : seg L 0 1 = ds.toNat := by
      rw [hL, List.append_assoc, List.append_assoc, List.append_assoc, List.append_assoc, List.append_assoc]; exact seg_at (pre := []) rfl (by omega)
    have s1 : seg L 1 1 = hp.toNat := by
      rw [hL, List.append_assoc, List.append_assoc, List.append_assoc, List.append_assoc]; exact seg_at (pre := nb ds.toNat 1) (by simp [nb_len]) (by omega)
    have s2 : seg L 2 1 = wf.toNat := by
      rw [hL, List.append_assoc, List.append_assoc, List.append_assoc]; exact seg_at (pre := nb ds.toNat 1 ++ nb hp.toNat 1) (by simp [nb_len]) (by omega)
    have s3 : seg L 3 4 = we := by
      rw [hL, List.append_assoc, List.append_assoc]; exact seg_at (pre := nb ds.toNat 1 ++ nb hp.toNat 1 ++ nb wf.toNat 1) (by simp [nb_len]) (by omega)
    have s7 : seg L 7 1 = wt.toNat := by
      rw [hL, List.append_assoc]; exact seg_at (pre := nb ds.toNat 1 ++ nb hp.toNat 1 ++ nb wf.toNat 1 ++ nb we 4) (by simp [nb_len]) (by omega)
    have s8 : seg L 8 4 = wl := by
      rw [hL]; exact seg_at (pre := nb ds.toNat 1 ++ nb hp.toNat 1 ++ nb wf.toNat 1 ++ nb we 4 ++ nb wt.toNat 1) (by simp [nb_len]) (by omega)
    have s12 : seg L 12 4 = wv := by
      have := seg_at (pre := nb ds.toNat 1 ++ nb hp.toNat 1 ++ nb wf.toNat 1 ++ nb we 4 ++ nb wt.toNat 1 ++ nb wl 4) (suf := []) (a := 12) (k := 4) (v := wv) (by simp [nb_len]) (by omega)
      rw [List.append_nil] at this
      rw [hL]; exact this
    rw [← hL]
    refine ⟨?_, ?_⟩
    · show decide (L.length = 16) = true
      rw [hL]; simp [nb_len]
    · show ({ Ms.zero with kd := 5, dst := (seg L 0 1 : Nat), hops := (seg L 1 1 : Nat), ak := ⟨(seg L 2 1 : Nat), seg L 3 4, (seg L 7 1 : Nat), seg L 8 4, seg L 12 4⟩ } : Ms) = _
      rw [s0, s1, s2, s3, s7, s8, s12, Int.toNat_of_nonneg (by omega), Int.toNat_of_nonneg (by omega), Int.toNat_of_nonneg (by omega), Int.toNat_of_nonneg (by omega)]
      rfl

end Go.Proofs.Ytickjmkkgcfkhaa
