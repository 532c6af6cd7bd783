/- Plain words for the record's laws: what is read may be told, what the calls answer in the cases. -/
import Derived.Test.YtickjmkkgcfkhaaGreatRecL
set_option linter.unusedSimpArgs false
set_option linter.unusedVariables false
set_option maxRecDepth 100000
namespace Go.Proofs.YtickjmkkgcfkhaaGreat
open Go.RowKit Go.ChangeShapes Go.WideShapes

theorem cand_ok (l : List UInt8) : (cand l).ok := by
  have h0 := seg_lt l 0 1
  have h1 := seg_lt l 1 4
  have h2 := seg_lt l 5 4
  have h3 := seg_lt l 9 2
  exact ⟨by simp only [cand]; omega, by simp only [cand]; omega, by simp only [cand]; omega, by simp only [cand]; omega⟩
theorem decR_ok (l : List UInt8) : (decR l).ok := by
  unfold decR
  split
  · exact cand_ok l
  · unfold Rc.ok Rc.zero; simp
theorem candS_ok (l : List UInt8) : (candS l).ok := by
  have h0 := seg_lt l 0 1
  have h1 := seg_lt l 1 4
  have h2 := seg_lt l 5 4
  exact ⟨by simp only [candS]; omega, by simp only [candS]; omega, by simp only [candS]; omega⟩
theorem bs_list (s : ByteArray) : bs s.data.toList = s := by cases s; rfl
theorem decOk_chk {l : List UInt8} (h : decOk l = true) : (cand l).chk = true := by
  simp only [decOk, Bool.and_eq_true] at h
  exact h.2
theorem decOk_len {l : List UInt8} (h : decOk l = true) : 13 ≤ l.length := by
  simp only [decOk, Bool.and_eq_true, decide_eq_true_eq] at h
  exact h.1.1.1
theorem chk_len {r : Rc} (h : r.chk = true) : r.adjs.length ≤ 16 := by
  simp only [Rc.chk, Bool.and_eq_true, decide_eq_true_eq] at h
  omega
theorem decS_no {l : List UInt8} (h : l.length ≠ 9) : decSOk l = false := by
  unfold decSOk; rw [decide_eq_false h, Bool.false_and]

/-- 'Encode' of a record that may be. -/
theorem encode_okay (r : Rc) (sa : Option Addr) (sc : Nat) (W : World) (hA : AdjsIn W sa r.adjs) (hok : r.ok) (hc : r.chk = true) :
    Calls Tryz.prog 45 #[.agg #[.int .i64 r.org, .int .u32 r.ep, .int .u32 r.sq, .int .i64 r.clm, .bool r.ing, .slice sa r.adjs.length sc]] W fun e W' => e = .returned (.tuple #[.string (bs r.enc), .int .i64 0]) ∧ Below W.heap.size W W' := by
  have h := encode_any r sa sc W hA (by have := chk_len hc; simp only [maxLen]; omega) hok
  unfold Rc.encS Rc.err at h
  rw [hc, if_pos rfl, if_pos rfl] at h
  exact h
/-- 'EncodeStamp' of a stamp that may be. -/
theorem encst_okay (s : St) (W : World) (hok : s.ok) (hc : s.may = true) :
    Calls Tryz.prog 49 #[.agg #[.int .i64 s.org, .int .u32 s.ep, .int .u32 s.sq]] W fun e W' => e = .returned (.tuple #[.string (bs s.enc), .int .i64 0]) ∧ Below W.heap.size W W' := by
  have h := encst_any s W hok
  unfold St.encS St.encE at h
  rw [hc, if_pos rfl, if_pos rfl] at h
  exact h
/-- 'DecodeStamp', cell by cell. -/
theorem decst_cells (s : ByteArray) (W : World) (hs : s.size ≤ 140737488355328) (x : St) (g : Int) (hx : x = decS s.data.toList) (hg : g = decSE s.data.toList) :
    Calls Tryz.prog 52 #[.string s] W fun e W' => e = .returned (.tuple #[.agg #[.int .i64 x.org, .int .u32 x.ep, .int .u32 x.sq], .int .i64 g]) ∧ Below W.heap.size W W' := by
  subst hx; subst hg
  exact decst_any s W hs
/-- 'Decode', cell by cell. -/
theorem decode_cells (s : ByteArray) (W : World) (hs : s.size ≤ 140737488355328) (r : Rc) (d : Int) (hr : r = decR s.data.toList) (hd : d = decE s.data.toList) :
    Calls Tryz.prog 47 #[.string s] W fun e W' => ∃ sa sc, e = .returned (.tuple #[.agg #[.int .i64 r.org, .int .u32 r.ep, .int .u32 r.sq, .int .i64 r.clm, .bool r.ing, .slice sa r.adjs.length sc], .int .i64 d]) ∧ ARow W' W.heap.size sa sc r.adjs ∧ Below W.heap.size W W' := by
  subst hr; subst hd
  exact decode_any s W hs

end Go.Proofs.YtickjmkkgcfkhaaGreat
