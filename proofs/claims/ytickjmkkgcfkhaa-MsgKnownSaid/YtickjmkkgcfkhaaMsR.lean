/- The message, plain: it comes back from its bytes, and from no others of another length; bytes with one turned. No program is in sight. -/
import Derived.Test.YtickjmkkgcfkhaaMsQ
set_option linter.unusedSimpArgs false
set_option linter.unusedVariables false
set_option maxRecDepth 100000
set_option maxRecDepth 100000
namespace Go.Proofs.Ytickjmkkgcfkhaa

theorem lay_bounds {m : Ms} (h : m.chk = true) : 8 < m.lay.length ∧ m.lay.length ≤ 100 := by
  unfold Ms.chk at h
  rw [Bool.and_eq_true] at h
  have h2 := h.2
  unfold Ms.may at h2
  unfold Ms.lay
  split
  · rename_i hk
    rw [if_pos hk] at h2
    simp only [Rc.chk, Bool.and_eq_true, decide_eq_true_eq] at h2
    rw [Rc.enc_len]; omega
  · split
    · rw [St.enc_len]; omega
    · split
      · rename_i h3 h4 hk
        rw [if_neg h3, if_neg h4, if_pos hk] at h2
        have hw := wide_cases (Hd.chk_is h2).1
        rw [size_len]
        unfold Hd.enc
        rw [sealB_size, bs_size, Hd.body_len]
        omega
      · split <;> simp [nb_len]
theorem menc_open (m : Ms) : openE m.enc = 0 ∧ (openS m.enc).data.toList = m.body ∧ m.enc.size = m.lay.length + 3 := by
  unfold Ms.enc
  obtain ⟨h1, h2⟩ := sealB_open (bs m.body)
  refine ⟨h1, by rw [h2]; rfl, ?_⟩
  rw [sealB_size, bs_size]
  rfl
theorem body_kind {m : Ms} (h : m.chk = true) : kindOf m.body = m.kd ∧ m.body.tail = m.lay := by
  obtain ⟨hk, _, _⟩ := chk_kd h
  refine ⟨?_, rfl⟩
  show (((toU8 m.kd.toNat).toNat : Nat) : Int) = m.kd
  rw [toU8_toNat]
  omega
theorem menc_size {m : Ms} (h : m.chk = true) : 11 < m.enc.size ∧ m.enc.size ≤ 103 := by
  have h1 := lay_bounds h
  have h2 := (menc_open m).2.2
  omega
/-- A message that may be comes back from its bytes. -/
theorem decM_enc {m : Ms} (hok : m.ok) (hc : m.chk = true) : decME m.enc = 0 ∧ decM m.enc = m := by
  obtain ⟨h1, h2, h3⟩ := menc_open m
  obtain ⟨h4, h5⟩ := body_kind hc
  have h6 := lay_bounds hc
  obtain ⟨g1, g2⟩ := got_lay hok hc
  obtain ⟨hk, _, _⟩ := chk_kd hc
  have hb : bodyOk (openS m.enc).data.toList = true := by
    unfold bodyOk
    rw [h2, h4, h5, g1, g2, hc]
    simp only [Bool.and_eq_true, decide_eq_true_eq, and_true]
    omega
  have hd : decME m.enc = 0 := by
    unfold decME
    rw [if_neg (by omega), if_neg (by omega), if_pos h1, hb, if_pos rfl]
  refine ⟨hd, ?_⟩
  unfold decM
  rw [hd, if_pos rfl, h2, h4, h5, g2]

theorem seg_pre {l l' : List UInt8} {a k : Nat} (h : l.take (a + k) = l'.take (a + k)) : seg l a k = seg l' a k := by
  unfold seg
  congr 1
  have h1 : ((l.take (a + k)).drop a) = ((l'.take (a + k)).drop a) := by rw [h]
  rw [List.drop_take, List.drop_take, show a + k - a = k from by omega] at h1
  exact h1
/-- Parts of another length, alike as far as both go, are none of the kind. -/
theorem red_other {m : Ms} (hok : m.ok) (hc : m.chk = true) {l : List UInt8} (h8 : 8 ≤ l.length) (hl : l.length ≠ m.lay.length) (hp : ∀ j, j ≤ l.length → j ≤ m.lay.length → l.take j = m.lay.take j) : redOk m.kd l = false := by
  obtain ⟨hk, hf, hm⟩ := chk_kd hc
  have hbd := lay_bounds hc
  unfold Ms.may at hm
  unfold redOk
  rcases hk with hk | hk | hk | hk | hk
  · rw [hk, if_pos rfl] at hm ⊢
    have e : m.lay = m.rc.enc := by unfold Ms.lay; rw [hk]; rfl
    rw [e] at hl hp hbd
    have hd := (dec_enc hok.2.1 hm).1
    have hd2 := hd
    unfold decOk at hd2
    simp only [Bool.and_eq_true, decide_eq_true_eq] at hd2
    refine decide_eq_false ?_
    unfold decE
    have : decOk l = false := by
      rw [← Bool.not_eq_true]
      intro h
      unfold decOk at h
      simp only [Bool.and_eq_true, decide_eq_true_eq] at h
      have hs : seg l 12 1 = seg m.rc.enc 12 1 := seg_pre (hp 13 (by omega) (by omega))
      have h1 := h.1.2
      have h2 := hd2.1.2
      rw [hs] at h1
      omega
    rw [this]; decide
  · rw [hk, if_neg (by decide), if_pos rfl] at hm ⊢
    have e : m.lay = m.st.enc := by unfold Ms.lay; rw [hk]; rfl
    rw [e, St.enc_len] at hl
    refine decide_eq_false ?_
    unfold decSE decSOk
    rw [decide_eq_false hl, Bool.false_and]; decide
  · rw [hk, if_neg (by decide), if_neg (by decide), if_pos rfl] at hm ⊢
    have e : m.lay = m.hd.enc.data.toList := by unfold Ms.lay; rw [hk]; rfl
    rw [e] at hl hp hbd
    refine decide_eq_false ?_
    have := decH_other hok.2.2.2.1 hm (s := bs l) (by rw [bs_size]; rw [size_len] at hl; exact hl) (by
      show seg l 0 1 = _
      exact seg_pre (hp 1 (by omega) (by omega)))
    rw [this]; decide
  · rw [hk, if_neg (by decide), if_neg (by decide), if_neg (by decide), if_pos rfl]
    refine decide_eq_false fun h => hl ?_
    unfold Ms.lay
    rw [hk, h]
    show 12 = (nb m.dst.toNat 1 ++ nb m.hops.toNat 1 ++ nb m.wi.frm.toNat 1 ++ nb m.wi.ep 4 ++ nb m.wi.ver 4 ++ nb m.wi.grp 1).length
    simp [nb_len]
  · rw [hk, if_neg (by decide), if_neg (by decide), if_neg (by decide), if_neg (by decide)]
    refine decide_eq_false fun h => hl ?_
    unfold Ms.lay
    rw [hk, h]
    show 16 = (nb m.dst.toNat 1 ++ nb m.hops.toNat 1 ++ nb m.ak.frm.toNat 1 ++ nb m.ak.ep 4 ++ nb m.ak.dst.toNat 1 ++ nb m.ak.lif 4 ++ nb m.ak.ver 4).length
    simp [nb_len]
/-- Bytes of another length, alike as far as both go, are no message. -/
theorem decM_other {m : Ms} (hok : m.ok) (hc : m.chk = true) {s : ByteArray} (hs : s.size ≠ m.enc.size) (h11 : 11 ≤ s.size) (hp : ∀ j, j ≤ s.size → j ≤ m.enc.size → s.data.toList.take j = m.enc.data.toList.take j) : decME s ≠ 0 := by
  obtain ⟨h1, h2, h3⟩ := menc_open m
  obtain ⟨h4, h5⟩ := body_kind hc
  have h6 := lay_bounds hc
  intro h
  have hEB : openE s = 0 ∧ bodyOk (openS s).data.toList = true := by
    unfold decME at h
    by_cases q1 : 512 < s.size
    · rw [if_pos q1] at h; cases h
    · rw [if_neg q1, if_neg (by omega)] at h
      by_cases q2 : openE s = 0
      · rw [if_pos q2] at h
        by_cases q3 : bodyOk (openS s).data.toList = true
        · exact ⟨q2, q3⟩
        · rw [if_neg q3] at h; cases h
      · rw [if_neg q2] at h; exact absurd h q2
  obtain ⟨hE, hB⟩ := hEB
  obtain ⟨q1, q2⟩ := open_sealB hE
  obtain ⟨b, hb⟩ : ∃ b, b = (openS s).data.toList := ⟨_, rfl⟩
  have hbl : b.length = s.size - 2 := by rw [hb, size_len]; omega
  have hpre : ∀ j, j ≤ b.length → s.data.toList.take j = b.take j := fun j hj => by
    rw [← q1, sealB_list, ← hb, List.take_append_of_le_length hj]
  have hpre2 : ∀ j, j ≤ m.body.length → m.enc.data.toList.take j = m.body.take j := fun j hj => by
    unfold Ms.enc
    rw [sealB_list, bs_toList, List.take_append_of_le_length hj]
  have hbd : m.body.length = m.lay.length + 1 := rfl
  have hh : ∀ j, j ≤ b.length → j ≤ m.body.length → b.take j = m.body.take j := fun j j1 j2 => by
    rw [← hpre j j1, ← hpre2 j j2]
    exact hp j (by omega) (by omega)
  obtain ⟨x, t, hbx⟩ : ∃ x t, b = x :: t := by
    cases hbb : b with
    | nil => rw [hbb] at hbl; simp at hbl; omega
    | cons x t => exact ⟨x, t, rfl⟩
  have hx : [x] = [toU8 m.kd.toNat] := by
    have := hh 1 (by omega) (by omega)
    rw [hbx] at this
    exact this
  have hkd : kindOf b = m.kd := by
    rw [← h4, hbx]
    show ((x.toNat : Nat) : Int) = (((toU8 m.kd.toNat).toNat : Nat) : Int)
    rw [List.cons.inj hx |>.1]
  have ht : t.length = b.length - 1 := by rw [hbx]; simp
  have hr := red_other hok hc (l := t) (by omega) (by omega) (fun j j1 j2 => by
    have := hh (j + 1) (by omega) (by omega)
    rw [hbx] at this
    exact (List.cons.inj this).2)
  unfold bodyOk at hB
  rw [← hb, hkd] at hB
  have htl : b.tail = t := by rw [hbx]; rfl
  rw [htl, hr] at hB
  simp at hB

end Go.Proofs.Ytickjmkkgcfkhaa
