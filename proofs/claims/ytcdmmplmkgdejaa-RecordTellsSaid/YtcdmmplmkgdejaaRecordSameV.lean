/- The law RecordSame: its arguments laid open, its walk joined. -/
import Derived.Test.YtcdmmplmkgdejaaRecordSameW
set_option linter.unusedSimpArgs false
set_option linter.unusedVariables false
namespace Go.Proofs.Ytcdmmplmkgdejaa
open Go.ChangeShapes Go.WideShapes Go.ChangeAt Go.RowKit Go.Deep

theorem record_open2 {H : Type} {enc : TypeId × Value → H} {r : Reach} {base : Nat} {W : World} {v : Value} {d : DataW H} {p : List MemPlace} (hv : Value.okWide Try.prog W r base 25 v) (h : DataW.Trod enc Try.prog W 0 (fun _ => true) true 25 v d p) (hwt : ∀ n ∈ d.weights Try.prog 25, n ≤ reachBytes) :
    ∃ x : Rc × Option Addr × Nat, v = x.1.ag x.2.1 x.2.2 ∧ x.1.ok ∧ AdjsIn W x.2.1 x.1.adjs ∧ x.1.adjs.length ≤ maxLen ∧ (∀ a ∈ x.1.adjs, (-9223372036854775808 ≤ a.1 ∧ a.1 ≤ 9223372036854775807) ∧ (-9223372036854775808 ≤ a.2 ∧ a.2 ≤ 9223372036854775807)) ∧ x.1.adjs.length ≤ x.2.2 ∧ (x.1.adjs.length + 1) * 16 ≤ 140737488355328 ∧ (x.2.1 = none → x.1.adjs = [] ∧ x.2.2 = 0) := by
  obtain ⟨cs, rfl, hsz⟩ := okWide_struct Try.underlying25 hv
  obtain ⟨fuel, hf⟩ := h
  have hX := leafy_of (n := 6) _ [3, 22, 22, 3, 4, 23] fuel _ _ (by kernel_rfl) hf
  obtain ⟨n0, e0, b0⟩ := hX.int (j := 0) rfl Try.underlying3
  obtain ⟨n1, e1, b1⟩ := hX.int (j := 1) rfl Try.underlying22
  obtain ⟨n2, e2, b2⟩ := hX.int (j := 2) rfl Try.underlying22
  obtain ⟨n3, e3, b3⟩ := hX.int (j := 3) rfl Try.underlying3
  obtain ⟨n4, e4⟩ := hX.bool (j := 4) rfl Try.underlying4
  have c0 := bounds_i64 b0; have c1 := bounds_u32 b1; have c2 := bounds_u32 b2; have c3 := bounds_i64 b3
  obtain ⟨k1, rfl⟩ : ∃ k : Nat, n1 = k := ⟨n1.toNat, by omega⟩
  obtain ⟨k2, rfl⟩ : ∃ k : Nat, n2 = k := ⟨n2.toNat, by omega⟩
  have hl : cs.toList.length = 6 := hX.1
  obtain ⟨sa, len, cap, es, hlc', hcm'⟩ := Leafy.slice' hX (j := 5) rfl Try.underlying23
  obtain ⟨m, y, h1, hyw⟩ := hX.2 5 _ _ rfl es
  obtain ⟨rows, hrl, hfr, hc, hds, hlc, hcm, hnil⟩ := slice_rows (n := 6) (ts := [3, 3]) (d := y.1) (p := y.2) Try.underlying23 (by kernel_rfl) (by kernel_rfl) ⟨m, h1⟩
  obtain ⟨xs, rfl, hok⟩ := all_form (f := fun a : Int × Int => [Value.int .i64 a.1, Value.int .i64 a.2]) (Q := fun a => (-9223372036854775808 ≤ a.1 ∧ a.1 ≤ 9223372036854775807) ∧ (-9223372036854775808 ≤ a.2 ∧ a.2 ≤ 9223372036854775807)) rows (by
    intro i row hr
    obtain ⟨X, hY, _⟩ := hfr i row hr
    obtain ⟨m0, f0, g0⟩ := hY.int (j := 0) rfl Try.underlying3
    obtain ⟨m1, f1, g1⟩ := hY.int (j := 1) rfl Try.underlying3
    refine ⟨(m0, m1), ⟨bounds_i64 g0, bounds_i64 g1⟩, ?_⟩
    have hl := hY.1
    match row, hl with
    | [x0, x1], _ => simp at f0 f1; rw [f0, f1])
  rw [List.length_map] at hrl
  refine ⟨(⟨n0, k1, k2, n3, n4, xs⟩, sa, cap), ?_, ?_, adjs_of hc, by simp only; omega, hok, by simp only; omega, ?_, ?_⟩
  · obtain ⟨l⟩ := cs
    replace hl : l.length = 6 := hl
    replace e0 : l[0]? = _ := e0
    replace e1 : l[1]? = _ := e1
    replace e2 : l[2]? = _ := e2
    replace e3 : l[3]? = _ := e3
    replace e4 : l[4]? = _ := e4
    replace es : l[5]? = _ := es
    match l, hl with
    | [x0, x1, x2, x3, x4, x5], _ => simp at e0 e1 e2 e3 e4 es; rw [e0, e1, e2, e3, e4, es, ← hrl]; rfl
  · exact ⟨by simp only; omega, by simp only; omega, by simp only; omega, by simp only; omega⟩
  · simp only
    rw [hrl]
    rcases hds with h0 | ⟨a, b, hd, ha⟩
    · omega
    · have hm : (a.length + b.length) * Try.prog.bytesOf 31 ∈ y.1.weights Try.prog 23 := by
        rw [hd]
        simp only [DataW.weights, Try.underlying23]
        exact List.mem_cons_self
      have h2 := hwt _ (hyw _ hm)
      rw [show Try.prog.bytesOf 31 = 16 from by kernel_rfl] at h2
      have : reachBytes = 140737488351232 := rfl
      omega
  · intro hn
    have hz := hnil hn
    simp only
    exact ⟨List.eq_nil_of_length_eq_zero (by omega), hz⟩

def ROpen (w : World) (x : Rc × Option Addr × Nat) : Prop := x.1.ok ∧ AdjsIn w x.2.1 x.1.adjs ∧ x.1.adjs.length ≤ maxLen ∧ (∀ a ∈ x.1.adjs, (-9223372036854775808 ≤ a.1 ∧ a.1 ≤ 9223372036854775807) ∧ (-9223372036854775808 ≤ a.2 ∧ a.2 ≤ 9223372036854775807)) ∧ x.1.adjs.length ≤ x.2.2 ∧ (x.1.adjs.length + 1) * 16 ≤ 140737488355328 ∧ (x.2.1 = none → x.1.adjs = [] ∧ x.2.2 = 0)
theorem own_any (x : Rc × Option Addr × Nat) (w W : World) (hx : ROpen w x) (hA : AdjsIn W x.2.1 x.1.adjs) : Calls Try.prog 15 #[x.1.ag x.2.1 x.2.2] W (OwnPost W x.1) := by
  obtain ⟨r, sa, sc⟩ := x
  obtain ⟨_, _, _, _, _, hb, hn⟩ := hx
  simp only at hb hn hA ⊢
  cases sa with
  | none =>
    obtain ⟨h1, rfl⟩ := hn rfl
    exact own_none r W h1
  | some ad => exact own_some r ad sc W hA hb
theorem recordSame_walk (x y : Rc × Option Addr × Nat) (w : World) (hx : ROpen w x) (hy : ROpen w y) :
    Calls Try.prog 5 #[x.1.ag x.2.1 x.2.2, y.1.ag y.2.1 y.2.2] w fun e w' => e = .returned (.bool true) ∧ Below w.heap.size w w' := by
  refine same_walk x.1 y.1 x.2.1 x.2.2 y.2.1 y.2.2 (x.1.sm y.1) w hx.2.1 hy.2.1 (fun sa sc sb sd W h1 h2 => same_any _ _ sa sc sb sd W h1 h2 hx.2.2.1 hy.2.2.1) (fun sa sc sb sd W h1 h2 => rsame_any _ _ sa sc sb sd W h1 h2 hx.2.2.1 hy.2.2.1) (fun sa sc sb sd W h1 h2 => ?_) (fun W h => own_any x w W hx h)
  have h := same_any x.1 x.1 sa sc sb sd W h1 h2 hx.2.2.1 hx.2.2.1
  rw [show x.1.sm x.1 = true from decide_eq_true rfl] at h
  exact h

end Go.Proofs.Ytcdmmplmkgdejaa
