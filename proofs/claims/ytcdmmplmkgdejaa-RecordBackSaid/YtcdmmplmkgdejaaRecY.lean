/- Plain words for the law RecordBack. -/
import Derived.Test.YtcdmmplmkgdejaaRecX
set_option linter.unusedSimpArgs false
set_option linter.unusedVariables false
namespace Go.Proofs.Ytcdmmplmkgdejaa
open Go.RowKit Go.ChangeShapes Go.WideShapes

/-- No bytes of a record are a beginning of another's. -/
theorem decOk_prefix {l x : List UInt8} (h : decOk l = true) (h2 : decOk (l ++ x) = true) : x = [] := by
  simp only [decOk, Bool.and_eq_true, decide_eq_true_eq] at h h2
  obtain ⟨⟨⟨h1, _⟩, h3⟩, _⟩ := h
  obtain ⟨⟨⟨_, _⟩, g3⟩, _⟩ := h2
  have e : seg (l ++ x) 12 1 = seg l 12 1 := by
    unfold seg
    rw [List.drop_append_of_le_length (by omega), List.take_append_of_le_length (by rw [List.length_drop]; omega)]
  rw [e, List.length_append] at g3
  exact List.eq_nil_of_length_eq_zero (by omega)
theorem decOk_more {r : Rc} (hok : r.ok) (hc : r.chk = true) {x : List UInt8} (hx : x ≠ []) : decOk (r.enc ++ x) = false := by
  cases h : decOk (r.enc ++ x) with
  | false => rfl
  | true => exact absurd (decOk_prefix (dec_enc hok hc).1 h) hx
theorem decOk_less {r : Rc} (hok : r.ok) (hc : r.chk = true) {n : Nat} (hn : n < r.enc.length) : decOk (r.enc.take n) = false := by
  cases h : decOk (r.enc.take n) with
  | false => rfl
  | true =>
    have h2 := (dec_enc hok hc).1
    rw [← List.take_append_drop n r.enc] at h2
    have := decOk_prefix h h2
    have hl := congrArg List.length this
    rw [List.length_drop, List.length_nil] at hl
    omega
theorem chk_may {r : Rc} (h : r.chk = true) : r.st.may = true := by
  simp only [Rc.chk, Bool.and_eq_true, decide_eq_true_eq] at h
  obtain ⟨⟨⟨⟨⟨⟨h1, h2⟩, h3⟩, _⟩, _⟩, _⟩, _⟩ := h
  unfold St.may
  rw [decide_eq_true (show 0 < r.st.ep from Nat.pos_of_ne_zero h2), decide_eq_true (show 0 < r.st.sq from Nat.pos_of_ne_zero h3), Bool.and_true, Bool.and_true]
  exact h1
theorem st_ok {r : Rc} (h : r.ok) : r.st.ok := ⟨h.1, h.2.1, h.2.2.1⟩
theorem st_enc (r : Rc) : r.enc.take 9 = r.st.enc := by
  unfold Rc.enc Rc.head St.enc Rc.st
  simp only [List.append_assoc]
  simp only [List.take_append, nb_len]
  rw [List.take_of_length_le (by rw [nb_len]; omega), List.take_of_length_le (by rw [nb_len]; omega), List.take_of_length_le (by rw [nb_len]; omega)]
  simp
theorem decS_st {r : Rc} (hok : r.ok) (hc : r.chk = true) : decS r.st.enc = r.st ∧ decSE r.st.enc = 0 := by
  have h : decSOk r.st.enc = true := by
    unfold decSOk
    rw [St.dec_enc (st_ok hok) (chk_may hc), chk_may hc, St.enc_len]; rfl
  unfold decS decSE
  rw [if_pos h, if_pos h, St.dec_enc (st_ok hok) (chk_may hc)]
  exact ⟨rfl, rfl⟩
theorem bsb_append (a : List UInt8) (b : ByteArray) : (bs a ++ b).data.toList = a ++ b.data.toList := by simp [bs]
theorem bs_extract (a : List UInt8) (n : Nat) : ((bs a).extract 0 n).data.toList = a.take n := by simp [bs]
end Go.Proofs.Ytcdmmplmkgdejaa
