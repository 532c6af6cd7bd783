/- Several texts in one: MsO, MsRD, MsRE, MsgTellsW. Each says in its own first comment what it proves. -/
import Derived.Test.YtickjmkkgcfkhaaMsB
import Derived.Test.YtickjmkkgcfkhaaLeaves
import Derived.Test.YtickjmkkgcfkhaaRowKit
import Derived.Test.YtickjmkkgcfkhaaMsG
import Derived.Test.YtickjmkkgcfkhaaRfB
import Derived.Test.YtickjmkkgcfkhaaMsS
import Derived.Test.YtickjmkkgcfkhaaRecL
import Derived.Test.YtickjmkkgcfkhaaMsRC
/- A message that came in, laid open. (Printed by mkmso.py.) -/
set_option linter.unusedSimpArgs false
set_option linter.unusedVariables false
set_option maxRecDepth 100000
namespace Go.Proofs.Ytickjmkkgcfkhaa
open Go.ChangeShapes Go.WideShapes Go.ChangeAt Go.RowKit Go.Deep

theorem Leafy.slice' {H : Type} {enc : TypeId × Value → H} {P : Program} {w : World} {base : Nat} {spare : Nat → Bool} {held : Bool} {ts : List TypeId} {cs : List Value} {W : List Nat} (h : Leafy enc P w base spare held ts cs W) {j : Nat} {t e : TypeId} (ht : ts[j]? = some t) (hu : P.underlying t = some (.slice e)) :
    ∃ a n cap, cs[j]? = some (.slice a n cap) ∧ n ≤ cap ∧ cap ≤ maxLen := by
  have hj : j < cs.length := by rw [h.1]; exact (List.getElem?_eq_some_iff.1 ht).1
  obtain ⟨m, y, h1, _⟩ := h.2 j t _ ht (List.getElem?_eq_getElem hj)
  rw [List.getElem?_eq_getElem hj]
  rcases DataW.trod_slice hu h1 with ⟨hcs, _⟩ | ⟨ad, len', cap', elems, rest, m', _, hcs, hx, hb, hl', hm, _⟩
  · simp only [List.cons.injEq, and_true] at hcs
    exact ⟨none, 0, 0, by rw [hcs], Nat.le_refl _, by simp [maxLen]⟩
  · simp only [List.cons.injEq, and_true] at hcs
    exact ⟨_, _, _, by rw [hcs], hl', hm⟩
theorem adjs_of {W : World} {a0 : Option Addr} {xs : List (Int × Int)}
    (h : ∀ (i j : Nat) (row : List Value) (c : Value), (xs.map fun a => [Value.int .i64 a.1, Value.int .i64 a.2])[i]? = some row → row[j]? = some c → ∃ ad, a0 = some ad ∧ W.cell? (ad.add (i * 2 + j)) = some c) : AdjsIn W a0 xs := fun i hi => by
  have hr : (xs.map fun a => [Value.int .i64 a.1, Value.int .i64 a.2])[i]? = some [Value.int .i64 (xs.getD i default).1, Value.int .i64 (xs.getD i default).2] := by
    rw [List.getElem?_map, List.getElem?_eq_getElem hi, List.getD_eq_getElem?_getD, List.getElem?_eq_getElem hi]; rfl
  obtain ⟨ad, h1, h2⟩ := h i 0 _ _ hr rfl
  obtain ⟨ad', h1', h3⟩ := h i 1 _ _ hr rfl
  rw [h1] at h1'
  simp only [Option.some.injEq] at h1'
  subst h1'
  refine ⟨ad, h1, h2, ?_⟩
  rw [add_field _ _ _ (by omega)] at h3
  exact h3

def MOpen (w : World) (x : Ms × Option Addr × Nat) : Prop := x.1.ok ∧ AdjsIn w x.2.1 x.1.rc.adjs ∧ x.1.rc.adjs.length ≤ x.2.2 ∧ x.2.2 ≤ maxLen ∧ (x.2.1 = none → x.1.rc.adjs = [] ∧ x.2.2 = 0)
set_option maxHeartbeats 1600000 in
theorem msg_open {H : Type} {enc : TypeId × Value → H} {r : Reach} {base : Nat} {W : World} {v : Value} {d : DataW H} {p : List MemPlace} (hv : Value.okWide Try.prog W r base 38 v) (h : DataW.Trod enc Try.prog W 0 (fun _ => true) true 38 v d p) (_ : ∀ n ∈ d.weights Try.prog 38, n ≤ reachBytes) :
    ∃ x : Ms × Option Addr × Nat, v = x.1.ag x.2.1 x.2.2 ∧ MOpen W x := by
  obtain ⟨cs, rfl, hsz⟩ := okWide_struct Try.underlying38 hv
  obtain ⟨fuel, hf⟩ := h
  have hX := leafy_of (n := 6) _ [3, 3, 22, 22, 3, 4, 23, 3, 22, 22, 3, 3, 22, 3, 3, 3, 22, 28, 28, 28, 28, 3, 3, 3, 22, 22, 5, 3, 22, 3, 22, 22] fuel _ _ (by kernel_rfl) hf
  obtain ⟨n0, e0, b0⟩ := hX.int (j := 0) rfl Try.underlying3
  have c0 := bounds_i64 b0
  obtain ⟨n1, e1, b1⟩ := hX.int (j := 1) rfl Try.underlying3
  have c1 := bounds_i64 b1
  obtain ⟨n2, e2, b2⟩ := hX.int (j := 2) rfl Try.underlying22
  have c2 := bounds_u32 b2
  obtain ⟨k2, rfl⟩ : ∃ k : Nat, n2 = k := ⟨n2.toNat, by omega⟩
  obtain ⟨n3, e3, b3⟩ := hX.int (j := 3) rfl Try.underlying22
  have c3 := bounds_u32 b3
  obtain ⟨k3, rfl⟩ : ∃ k : Nat, n3 = k := ⟨n3.toNat, by omega⟩
  obtain ⟨n4, e4, b4⟩ := hX.int (j := 4) rfl Try.underlying3
  have c4 := bounds_i64 b4
  obtain ⟨n5, e5⟩ := hX.bool (j := 5) rfl Try.underlying4
  obtain ⟨n7, e7, b7⟩ := hX.int (j := 7) rfl Try.underlying3
  have c7 := bounds_i64 b7
  obtain ⟨n8, e8, b8⟩ := hX.int (j := 8) rfl Try.underlying22
  have c8 := bounds_u32 b8
  obtain ⟨k8, rfl⟩ : ∃ k : Nat, n8 = k := ⟨n8.toNat, by omega⟩
  obtain ⟨n9, e9, b9⟩ := hX.int (j := 9) rfl Try.underlying22
  have c9 := bounds_u32 b9
  obtain ⟨k9, rfl⟩ : ∃ k : Nat, n9 = k := ⟨n9.toNat, by omega⟩
  obtain ⟨n10, e10, b10⟩ := hX.int (j := 10) rfl Try.underlying3
  have c10 := bounds_i64 b10
  obtain ⟨n11, e11, b11⟩ := hX.int (j := 11) rfl Try.underlying3
  have c11 := bounds_i64 b11
  obtain ⟨n12, e12, b12⟩ := hX.int (j := 12) rfl Try.underlying22
  have c12 := bounds_u32 b12
  obtain ⟨k12, rfl⟩ : ∃ k : Nat, n12 = k := ⟨n12.toNat, by omega⟩
  obtain ⟨n13, e13, b13⟩ := hX.int (j := 13) rfl Try.underlying3
  have c13 := bounds_i64 b13
  obtain ⟨n14, e14, b14⟩ := hX.int (j := 14) rfl Try.underlying3
  have c14 := bounds_i64 b14
  obtain ⟨n15, e15, b15⟩ := hX.int (j := 15) rfl Try.underlying3
  have c15 := bounds_i64 b15
  obtain ⟨n16, e16, b16⟩ := hX.int (j := 16) rfl Try.underlying22
  have c16 := bounds_u32 b16
  obtain ⟨k16, rfl⟩ : ∃ k : Nat, n16 = k := ⟨n16.toNat, by omega⟩
  obtain ⟨n17, e17, b17⟩ := hX.int (j := 17) rfl Try.underlying28
  have c17 := bounds_u64 b17
  obtain ⟨k17, rfl⟩ : ∃ k : Nat, n17 = k := ⟨n17.toNat, by omega⟩
  obtain ⟨n18, e18, b18⟩ := hX.int (j := 18) rfl Try.underlying28
  have c18 := bounds_u64 b18
  obtain ⟨k18, rfl⟩ : ∃ k : Nat, n18 = k := ⟨n18.toNat, by omega⟩
  obtain ⟨n19, e19, b19⟩ := hX.int (j := 19) rfl Try.underlying28
  have c19 := bounds_u64 b19
  obtain ⟨k19, rfl⟩ : ∃ k : Nat, n19 = k := ⟨n19.toNat, by omega⟩
  obtain ⟨n20, e20, b20⟩ := hX.int (j := 20) rfl Try.underlying28
  have c20 := bounds_u64 b20
  obtain ⟨k20, rfl⟩ : ∃ k : Nat, n20 = k := ⟨n20.toNat, by omega⟩
  obtain ⟨n21, e21, b21⟩ := hX.int (j := 21) rfl Try.underlying3
  have c21 := bounds_i64 b21
  obtain ⟨n22, e22, b22⟩ := hX.int (j := 22) rfl Try.underlying3
  have c22 := bounds_i64 b22
  obtain ⟨n23, e23, b23⟩ := hX.int (j := 23) rfl Try.underlying3
  have c23 := bounds_i64 b23
  obtain ⟨n24, e24, b24⟩ := hX.int (j := 24) rfl Try.underlying22
  have c24 := bounds_u32 b24
  obtain ⟨k24, rfl⟩ : ∃ k : Nat, n24 = k := ⟨n24.toNat, by omega⟩
  obtain ⟨n25, e25, b25⟩ := hX.int (j := 25) rfl Try.underlying22
  have c25 := bounds_u32 b25
  obtain ⟨k25, rfl⟩ : ∃ k : Nat, n25 = k := ⟨n25.toNat, by omega⟩
  obtain ⟨n26, e26, b26⟩ := hX.int (j := 26) rfl Try.underlying5
  have c26 := bounds_u8 b26
  obtain ⟨k26, rfl⟩ : ∃ k : Nat, n26 = k := ⟨n26.toNat, by omega⟩
  obtain ⟨n27, e27, b27⟩ := hX.int (j := 27) rfl Try.underlying3
  have c27 := bounds_i64 b27
  obtain ⟨n28, e28, b28⟩ := hX.int (j := 28) rfl Try.underlying22
  have c28 := bounds_u32 b28
  obtain ⟨k28, rfl⟩ : ∃ k : Nat, n28 = k := ⟨n28.toNat, by omega⟩
  obtain ⟨n29, e29, b29⟩ := hX.int (j := 29) rfl Try.underlying3
  have c29 := bounds_i64 b29
  obtain ⟨n30, e30, b30⟩ := hX.int (j := 30) rfl Try.underlying22
  have c30 := bounds_u32 b30
  obtain ⟨k30, rfl⟩ : ∃ k : Nat, n30 = k := ⟨n30.toNat, by omega⟩
  obtain ⟨n31, e31, b31⟩ := hX.int (j := 31) rfl Try.underlying22
  have c31 := bounds_u32 b31
  obtain ⟨k31, rfl⟩ : ∃ k : Nat, n31 = k := ⟨n31.toNat, by omega⟩
  have hl : cs.toList.length = 32 := hX.1
  obtain ⟨sa, len, cap, e6, hlc', hcm'⟩ := Leafy.slice' hX (j := 6) rfl Try.underlying23
  obtain ⟨m, y, h1, hyw⟩ := hX.2 6 _ _ rfl e6
  obtain ⟨rows, hrl, hfr, hc, hds, hlc, hcm, hnil⟩ := slice_rows (n := 6) (ts := [3, 3]) (d := y.1) (p := y.2) Try.underlying23 (by kernel_rfl) (by kernel_rfl) ⟨m, h1⟩
  obtain ⟨xs, rfl, hok⟩ := all_form (f := fun a : Int × Int => [Value.int .i64 a.1, Value.int .i64 a.2]) (Q := fun _ => True) rows (by
    intro i row hr
    obtain ⟨X, hY, _⟩ := hfr i row hr
    obtain ⟨m0, f0, g0⟩ := hY.int (j := 0) rfl Try.underlying3
    obtain ⟨m1, f1, g1⟩ := hY.int (j := 1) rfl Try.underlying3
    refine ⟨(m0, m1), trivial, ?_⟩
    have hl := hY.1
    match row, hl with
    | [x0, x1], _ => simp at f0 f1; rw [f0, f1])
  rw [List.length_map] at hrl
  refine ⟨(⟨n0, ⟨n1, k2, k3, n4, n5, xs⟩, ⟨n7, k8, k9⟩, ⟨n10, n11, k12, n13, n14, n15, k16, ⟨k17, k18, k19, k20⟩⟩, n21, n22, ⟨n23, k24, k25, k26⟩, ⟨n27, k28, n29, k30, k31⟩⟩, sa, cap), ?_, ?_, adjs_of hc, by simp only; omega, by simp only; omega, ?_⟩
  · obtain ⟨l⟩ := cs
    replace hl : l.length = 32 := hl
    replace e0 : l[0]? = _ := e0
    replace e1 : l[1]? = _ := e1
    replace e2 : l[2]? = _ := e2
    replace e3 : l[3]? = _ := e3
    replace e4 : l[4]? = _ := e4
    replace e5 : l[5]? = _ := e5
    replace e6 : l[6]? = _ := e6
    replace e7 : l[7]? = _ := e7
    replace e8 : l[8]? = _ := e8
    replace e9 : l[9]? = _ := e9
    replace e10 : l[10]? = _ := e10
    replace e11 : l[11]? = _ := e11
    replace e12 : l[12]? = _ := e12
    replace e13 : l[13]? = _ := e13
    replace e14 : l[14]? = _ := e14
    replace e15 : l[15]? = _ := e15
    replace e16 : l[16]? = _ := e16
    replace e17 : l[17]? = _ := e17
    replace e18 : l[18]? = _ := e18
    replace e19 : l[19]? = _ := e19
    replace e20 : l[20]? = _ := e20
    replace e21 : l[21]? = _ := e21
    replace e22 : l[22]? = _ := e22
    replace e23 : l[23]? = _ := e23
    replace e24 : l[24]? = _ := e24
    replace e25 : l[25]? = _ := e25
    replace e26 : l[26]? = _ := e26
    replace e27 : l[27]? = _ := e27
    replace e28 : l[28]? = _ := e28
    replace e29 : l[29]? = _ := e29
    replace e30 : l[30]? = _ := e30
    replace e31 : l[31]? = _ := e31
    match l, hl with
    | [x0, x1, x2, x3, x4, x5, x6, x7, x8, x9, x10, x11, x12, x13, x14, x15, x16, x17, x18, x19, x20, x21, x22, x23, x24, x25, x26, x27, x28, x29, x30, x31], _ => simp at e0 e1 e2 e3 e4 e5 e6 e7 e8 e9 e10 e11 e12 e13 e14 e15 e16 e17 e18 e19 e20 e21 e22 e23 e24 e25 e26 e27 e28 e29 e30 e31; rw [e0, e1, e2, e3, e4, e5, e6, e7, e8, e9, e10, e11, e12, e13, e14, e15, e16, e17, e18, e19, e20, e21, e22, e23, e24, e25, e26, e27, e28, e29, e30, e31, ← hrl]; rfl
  · exact ⟨⟨by simp only; omega, by simp only; omega⟩, ⟨by simp only; omega, by simp only; omega, by simp only; omega, by simp only; omega⟩, ⟨by simp only; omega, by simp only; omega, by simp only; omega⟩, ⟨⟨by simp only; omega, by simp only; omega⟩, ⟨by simp only; omega, by simp only; omega⟩, by simp only; omega, ⟨by simp only; omega, by simp only; omega⟩, ⟨by simp only; omega, by simp only; omega⟩, ⟨by simp only; omega, by simp only; omega⟩, by simp only; omega, ⟨by simp only; omega, by simp only; omega, by simp only; omega, by simp only; omega⟩⟩, ⟨by simp only; omega, by simp only; omega⟩, ⟨by simp only; omega, by simp only; omega⟩, ⟨⟨by simp only; omega, by simp only; omega⟩, by simp only; omega, by simp only; omega, by simp only; omega⟩, ⟨⟨by simp only; omega, by simp only; omega⟩, by simp only; omega, ⟨by simp only; omega, by simp only; omega⟩, by simp only; omega, by simp only; omega⟩⟩
  · intro hn
    have hz := hnil hn
    simp only
    exact ⟨List.eq_nil_of_length_eq_zero (by omega), hz⟩

end Go.Proofs.Ytickjmkkgcfkhaa

/- Contract of the reference's Same, of one message twice. (Printed by mkmsrd.py.) -/
set_option linter.unusedSimpArgs false
set_option linter.unusedVariables false
set_option maxRecDepth 100000
namespace Go.Proofs.Ytickjmkkgcfkhaa
open Go.RowKit Go.ChangeShapes Go.WideShapes

set_option maxHeartbeats 6400000 in
theorem rmsame_any (m : Ms) (sa : Option Addr) (sc : Nat) (ta : Option Addr) (tc : Nat) (W : World) (hm : m.ok) (hA : AdjsIn W sa m.rc.adjs) (hB : AdjsIn W ta m.rc.adjs) (hl : m.rc.adjs.length ≤ maxLen) :
    Calls Try.prog 13 #[m.ag sa sc, m.ag ta tc] W fun e W' => e = .returned (.bool true) ∧ Below W.heap.size W W' := by
  obtain ⟨W1, hW1⟩ : ∃ W1, W1 = (W.alloc (.cells (m.cs sa sc) 38)).alloc (.cells (m.cs ta tc) 38) := ⟨_, rfl⟩
  have hb1 : Below W.heap.size W W1 := by rw [hW1]; exact ((Below.refl _ _).alloc (Nat.le_refl _) _).alloc (by rw [World.size_alloc]; omega) _
  have hx1 : BoxM W.heap.size m sa sc W1 := by rw [hW1]; exact heap_alloc2_old _ _ _
  have hx2 : BoxM (W.heap.size + 1) m ta tc W1 := by rw [hW1]; exact heap_alloc2_new _ _ _
  have HX1 := Lib.hid hx1
  have HX2 := Lib.hid hx2
  have x0 : W1.cell? ⟨W.heap.size, 0, none⟩ = some (.int .i64 m.kd) := hx1.cell rfl
  have y0 : W1.cell? ⟨W.heap.size + 1, 0, none⟩ = some (.int .i64 m.kd) := hx2.cell rfl
  have x1 : W1.cell? ⟨W.heap.size, 1, none⟩ = some (.int .i64 m.rc.org) := hx1.cell rfl
  have y1 : W1.cell? ⟨W.heap.size + 1, 1, none⟩ = some (.int .i64 m.rc.org) := hx2.cell rfl
  have x2 : W1.cell? ⟨W.heap.size, 2, none⟩ = some (.int .u32 m.rc.ep) := hx1.cell rfl
  have y2 : W1.cell? ⟨W.heap.size + 1, 2, none⟩ = some (.int .u32 m.rc.ep) := hx2.cell rfl
  have x3 : W1.cell? ⟨W.heap.size, 3, none⟩ = some (.int .u32 m.rc.sq) := hx1.cell rfl
  have y3 : W1.cell? ⟨W.heap.size + 1, 3, none⟩ = some (.int .u32 m.rc.sq) := hx2.cell rfl
  have x4 : W1.cell? ⟨W.heap.size, 4, none⟩ = some (.int .i64 m.rc.clm) := hx1.cell rfl
  have y4 : W1.cell? ⟨W.heap.size + 1, 4, none⟩ = some (.int .i64 m.rc.clm) := hx2.cell rfl
  have x5 : W1.cell? ⟨W.heap.size, 5, none⟩ = some (.bool m.rc.ing) := hx1.cell rfl
  have y5 : W1.cell? ⟨W.heap.size + 1, 5, none⟩ = some (.bool m.rc.ing) := hx2.cell rfl
  have x6 : W1.cell? ⟨W.heap.size, 6, none⟩ = some (.slice sa m.rc.adjs.length sc) := hx1.cell rfl
  have y6 : W1.cell? ⟨W.heap.size + 1, 6, none⟩ = some (.slice ta m.rc.adjs.length tc) := hx2.cell rfl
  have HS := Lib.hid (show Calls Try.prog 35 #[.agg (m.rc.cs sa sc), .agg (m.rc.cs ta tc)] W1 fun e W' => e = .returned (.bool true) ∧ Below W1.heap.size W1 W' from by
    have h := rsame_any m.rc m.rc sa sc ta tc W1 (hA.later hb1) (hB.later hb1) hl hl
    rw [show m.rc.sm m.rc = true from decide_eq_true rfl] at h
    exact h)
  have HQ := Lib.hid (fun w => show (Op.equalIn 10000 32 (.agg m.hd.cs) (.agg m.hd.cs)).run Try.prog w = .ok true w from by
    have h := eq_hd m.hd m.hd hm.2.2.2.1 hm.2.2.2.1 w
    rw [decide_eq_true rfl] at h
    exact h)
  have HW1 := Lib.hid hW1
  have HB1 := Lib.hid hb1
  clear hW1 hb1 hx1 hx2 hm hA hB hl
  go_enter Try.func13, Try.ntmps13
  unfold Ms.ag at *
  unfold Rc.cs at *
  go_upto_region 1 with fail
  rw [← HW1.out]
  go_wp2_with fail
  refine HS.out.mono ?_
  rintro e V ⟨rfl, hb⟩
  have HB := Lib.hid (HB1.out.trans (hb.mono HB1.out.size))
  have HY1 := Lib.hid (HX1.out.later hb)
  have HY2 := Lib.hid (HX2.out.later hb)
  have heq := HQ.out
  unfold Hd.cs at heq
  clear hb x0 y0 x1 y1 x2 y2 x3 y3 x4 y4 x5 y5 x6 y6
  have vx7 : V.cell? ⟨W.heap.size, 7, none⟩ = some (.int .i64 m.st.org) := HY1.out.cell rfl
  have vy7 : V.cell? ⟨W.heap.size + 1, 7, none⟩ = some (.int .i64 m.st.org) := HY2.out.cell rfl
  have vx8 : V.cell? ⟨W.heap.size, 8, none⟩ = some (.int .u32 m.st.ep) := HY1.out.cell rfl
  have vy8 : V.cell? ⟨W.heap.size + 1, 8, none⟩ = some (.int .u32 m.st.ep) := HY2.out.cell rfl
  have vx9 : V.cell? ⟨W.heap.size, 9, none⟩ = some (.int .u32 m.st.sq) := HY1.out.cell rfl
  have vy9 : V.cell? ⟨W.heap.size + 1, 9, none⟩ = some (.int .u32 m.st.sq) := HY2.out.cell rfl
  have vx10 : V.cell? ⟨W.heap.size, 10, none⟩ = some (.int .i64 m.hd.wid) := HY1.out.cell rfl
  have vy10 : V.cell? ⟨W.heap.size + 1, 10, none⟩ = some (.int .i64 m.hd.wid) := HY2.out.cell rfl
  have vx11 : V.cell? ⟨W.heap.size, 11, none⟩ = some (.int .i64 m.hd.set) := HY1.out.cell rfl
  have vy11 : V.cell? ⟨W.heap.size + 1, 11, none⟩ = some (.int .i64 m.hd.set) := HY2.out.cell rfl
  have vx12 : V.cell? ⟨W.heap.size, 12, none⟩ = some (.int .u32 m.hd.ent) := HY1.out.cell rfl
  have vy12 : V.cell? ⟨W.heap.size + 1, 12, none⟩ = some (.int .u32 m.hd.ent) := HY2.out.cell rfl
  have vx13 : V.cell? ⟨W.heap.size, 13, none⟩ = some (.int .i64 m.hd.hops) := HY1.out.cell rfl
  have vy13 : V.cell? ⟨W.heap.size + 1, 13, none⟩ = some (.int .i64 m.hd.hops) := HY2.out.cell rfl
  have vx14 : V.cell? ⟨W.heap.size, 14, none⟩ = some (.int .i64 m.hd.src) := HY1.out.cell rfl
  have vy14 : V.cell? ⟨W.heap.size + 1, 14, none⟩ = some (.int .i64 m.hd.src) := HY2.out.cell rfl
  have vx15 : V.cell? ⟨W.heap.size, 15, none⟩ = some (.int .i64 m.hd.grp) := HY1.out.cell rfl
  have vy15 : V.cell? ⟨W.heap.size + 1, 15, none⟩ = some (.int .i64 m.hd.grp) := HY2.out.cell rfl
  have vx16 : V.cell? ⟨W.heap.size, 16, none⟩ = some (.int .u32 m.hd.id) := HY1.out.cell rfl
  have vy16 : V.cell? ⟨W.heap.size + 1, 16, none⟩ = some (.int .u32 m.hd.id) := HY2.out.cell rfl
  have vx17 : V.cell? ⟨W.heap.size, 17, none⟩ = some (.int .u64 m.hd.bits.a) := HY1.out.cell rfl
  have vy17 : V.cell? ⟨W.heap.size + 1, 17, none⟩ = some (.int .u64 m.hd.bits.a) := HY2.out.cell rfl
  have vx18 : V.cell? ⟨W.heap.size, 18, none⟩ = some (.int .u64 m.hd.bits.b) := HY1.out.cell rfl
  have vy18 : V.cell? ⟨W.heap.size + 1, 18, none⟩ = some (.int .u64 m.hd.bits.b) := HY2.out.cell rfl
  have vx19 : V.cell? ⟨W.heap.size, 19, none⟩ = some (.int .u64 m.hd.bits.c) := HY1.out.cell rfl
  have vy19 : V.cell? ⟨W.heap.size + 1, 19, none⟩ = some (.int .u64 m.hd.bits.c) := HY2.out.cell rfl
  have vx20 : V.cell? ⟨W.heap.size, 20, none⟩ = some (.int .u64 m.hd.bits.d) := HY1.out.cell rfl
  have vy20 : V.cell? ⟨W.heap.size + 1, 20, none⟩ = some (.int .u64 m.hd.bits.d) := HY2.out.cell rfl
  have vx21 : V.cell? ⟨W.heap.size, 21, none⟩ = some (.int .i64 m.dst) := HY1.out.cell rfl
  have vy21 : V.cell? ⟨W.heap.size + 1, 21, none⟩ = some (.int .i64 m.dst) := HY2.out.cell rfl
  have vx22 : V.cell? ⟨W.heap.size, 22, none⟩ = some (.int .i64 m.hops) := HY1.out.cell rfl
  have vy22 : V.cell? ⟨W.heap.size + 1, 22, none⟩ = some (.int .i64 m.hops) := HY2.out.cell rfl
  have vx23 : V.cell? ⟨W.heap.size, 23, none⟩ = some (.int .i64 m.wi.frm) := HY1.out.cell rfl
  have vy23 : V.cell? ⟨W.heap.size + 1, 23, none⟩ = some (.int .i64 m.wi.frm) := HY2.out.cell rfl
  have vx24 : V.cell? ⟨W.heap.size, 24, none⟩ = some (.int .u32 m.wi.ep) := HY1.out.cell rfl
  have vy24 : V.cell? ⟨W.heap.size + 1, 24, none⟩ = some (.int .u32 m.wi.ep) := HY2.out.cell rfl
  have vx25 : V.cell? ⟨W.heap.size, 25, none⟩ = some (.int .u32 m.wi.ver) := HY1.out.cell rfl
  have vy25 : V.cell? ⟨W.heap.size + 1, 25, none⟩ = some (.int .u32 m.wi.ver) := HY2.out.cell rfl
  have vx26 : V.cell? ⟨W.heap.size, 26, none⟩ = some (.int .u8 m.wi.grp) := HY1.out.cell rfl
  have vy26 : V.cell? ⟨W.heap.size + 1, 26, none⟩ = some (.int .u8 m.wi.grp) := HY2.out.cell rfl
  have vx27 : V.cell? ⟨W.heap.size, 27, none⟩ = some (.int .i64 m.ak.frm) := HY1.out.cell rfl
  have vy27 : V.cell? ⟨W.heap.size + 1, 27, none⟩ = some (.int .i64 m.ak.frm) := HY2.out.cell rfl
  have vx28 : V.cell? ⟨W.heap.size, 28, none⟩ = some (.int .u32 m.ak.ep) := HY1.out.cell rfl
  have vy28 : V.cell? ⟨W.heap.size + 1, 28, none⟩ = some (.int .u32 m.ak.ep) := HY2.out.cell rfl
  have vx29 : V.cell? ⟨W.heap.size, 29, none⟩ = some (.int .i64 m.ak.dst) := HY1.out.cell rfl
  have vy29 : V.cell? ⟨W.heap.size + 1, 29, none⟩ = some (.int .i64 m.ak.dst) := HY2.out.cell rfl
  have vx30 : V.cell? ⟨W.heap.size, 30, none⟩ = some (.int .u32 m.ak.lif) := HY1.out.cell rfl
  have vy30 : V.cell? ⟨W.heap.size + 1, 30, none⟩ = some (.int .u32 m.ak.lif) := HY2.out.cell rfl
  have vx31 : V.cell? ⟨W.heap.size, 31, none⟩ = some (.int .u32 m.ak.ver) := HY1.out.cell rfl
  have vy31 : V.cell? ⟨W.heap.size + 1, 31, none⟩ = some (.int .u32 m.ak.ver) := HY2.out.cell rfl
  go_wp2_with fail
  go_returns
  exact ⟨rfl, HB.out⟩

end Go.Proofs.Ytickjmkkgcfkhaa

/- Contract of the laws' owned: a message in memory of its own. -/
set_option linter.unusedSimpArgs false
set_option linter.unusedVariables false
set_option maxRecDepth 100000
namespace Go.Proofs.Ytickjmkkgcfkhaa
open Go.RowKit Go.ChangeShapes Go.WideShapes

theorem adjV_one (l : List (Int × Int)) : ∀ u ∈ adjV l, u.oneCell' = true := by
  intro u hu
  simp only [adjV, List.mem_flatMap, List.mem_cons, List.not_mem_nil, or_false] at hu
  obtain ⟨a, _, rfl | rfl⟩ := hu <;> rfl
theorem AdjsIn.news {W : World} {ad : Addr} {l : List (Int × Int)} (h : AdjsIn W (some ad) l) : ∀ j u, (adjV l)[j]? = some u → W.cell? (ad.add j) = some u := by
  intro j u hu
  have hj : j < (adjV l).length := (List.getElem?_eq_some_iff.1 hu).1
  rw [adjV_len] at hj
  obtain ⟨h1, h2⟩ := adjV_get l (j / 2) (by omega)
  obtain ⟨ad', e, c0, c1⟩ := h (j / 2) (by omega)
  simp only [Option.some.injEq] at e
  subst e
  rcases Nat.mod_two_eq_zero_or_one j with hm | hm
  · have hj2 : j / 2 * 2 = j := by omega
    rw [hj2] at h1 c0
    rw [hu] at h1
    rw [c0, h1]
  · have hj2 : j / 2 * 2 + 1 = j := by omega
    rw [hj2] at h2
    rw [hu] at h2
    have ha : ad.add j = ⟨(ad.add (j / 2 * 2)).block, (ad.add (j / 2 * 2)).off + 1, none⟩ := by
      rw [← hj2, show (j / 2 * 2 + 1) / 2 * 2 = j / 2 * 2 by omega]; exact add_field ad (j / 2 * 2) 1 (by omega)
    rw [ha, c1, h2]
theorem AdjsIn.take {W : World} {a : Option Addr} {l : List (Int × Int)} (h : AdjsIn W a l) (k : Nat) : AdjsIn W a (l.take k) := fun i hi => by
  rw [List.length_take] at hi
  obtain ⟨ad, h1, h2, h3⟩ := h i (by omega)
  have e : (l.take k).getD i default = l.getD i default := by rw [List.getD_eq_getElem?_getD, List.getD_eq_getElem?_getD, List.getElem?_take, if_pos (by omega)]
  exact ⟨ad, h1, by rw [e]; exact h2, by rw [e]; exact h3⟩
/-- A message of 20 neighbours at most. -/
def Ms.cut (m : Ms) : Ms := { m with rc := { m.rc with adjs := m.rc.adjs.take 20 } }
theorem Ms.cut_len (m : Ms) : m.cut.rc.adjs.length = min m.rc.adjs.length 20 := by unfold Ms.cut; simp [List.length_take]; omega
theorem Ms.cut_ok {m : Ms} (h : m.ok) : m.cut.ok := h
def OwnM (W : World) (m : Ms) (e : Ending) (V : World) : Prop := ∃ sa sc, e = .returned (m.ag sa sc) ∧ ARow V W.heap.size sa sc m.rc.adjs ∧ Below W.heap.size W V

theorem heap2_old (W : World) (o o' : Obj) : ((W.alloc o).alloc o').heap[W.heap.size]? = some o := (Below.heap_alloc _ o' _ (by rw [World.size_alloc]; omega)).trans (heap_alloc_new _ _)
theorem Ms.cut_cs (m : Ms) (sa : Option Addr) (sc : Nat) (a : Option Addr) (k cap : Nat) (hk : k = min m.rc.adjs.length 20) : (m.cs sa sc).setIfInBounds 6 (.slice a k cap) = m.cut.cs a cap := by
  subst hk
  rw [← Ms.cut_len]
  rfl
set_option maxHeartbeats 3200000 in
theorem owned_end (m : Ms) (sa : Option Addr) (sc : Nat) (W w1 Z : World) (a : Option Addr) (k cap : Nat) (hk : k = min m.rc.adjs.length 20) (hb : Below W.heap.size W w1) (hx : BoxM W.heap.size m sa sc w1) (hrow : Row w1 (W.heap.size + 2) 81 2 (.slice a k cap) k (adjV (m.rc.adjs.take k)))
    (hZ : Z = (w1.setCell ⟨W.heap.size, 6, none⟩ (.slice a k cap))) : BoxM W.heap.size m.cut a cap Z ∧ ARow Z (W.heap.size + 2) a cap m.cut.rc.adjs ∧ Below W.heap.size W Z := by
  refine ⟨?_, ?_, ?_⟩
  · unfold BoxM at *
    rw [hZ, setCell_eq_setRow _ _ _ _ _ _ _ hx, ← Ms.cut_cs m sa sc a k cap hk]
    exact setRow_heap _ _ _ _ _ _ hx
  · have e : m.cut.rc.adjs = m.rc.adjs.take k := by
      show m.rc.adjs.take 20 = m.rc.adjs.take k
      rw [hk]
      rcases Nat.le_total m.rc.adjs.length 20 with h | h
      · rw [List.take_of_length_le h, List.take_of_length_le (by omega)]
      · rw [show min m.rc.adjs.length 20 = 20 by omega]
    have hl : (m.rc.adjs.take k).length = k := by rw [List.length_take]; omega
    unfold ARow
    rw [e, hl]
    refine (Row.same hrow fun j hj => ?_)
    rw [hZ]
    exact heap_setCell_other _ _ _ _ (by have := (Row.lt hrow j hj).1; simp only; omega)
  · rw [hZ]
    exact hb.setCell (by simp only; omega) _
theorem wpList_append_nil {P : Program} {w : World} {ops : Array Oper} {rest : List Oper} {o : Oper} {a : Act} {Q : Exit → Act → World → Prop} (hgd : o.guard = none) (s x : Operand) (t : TypeId)
    (ho : o.op = .call { callee := .builtin .append, args := #[s, x], argTypes := #[t, t] }) (e : TypeId) (i : TypeInfo) (z : Value) (ht : P.underlying t = some (.slice e)) (hi : P.info? e = some i) (hz : i.zero = some z)
    (hs : a.eval s = .slice none 0 0) (hx : a.eval x = .slice none 0 0) (h : wpList P ops Q rest (a.put o.dst (.slice none 0 0)) w) : wpList P ops Q (o :: rest) a w := by
  refine wpList_plain hgd fun _ hK => ?_
  have hr : (Builtin.append_ #[t, t] o.type #[.slice none 0 0, .slice none 0 0]).run P w = .ok (.slice none 0 0) w := by
    simp [Builtin.append_, run_underlying ht, sizeOf, typeInfo, hi, Builtin.lenOf, Builtin.firstCells, Go.storeCells, Go.loadCells, loadCellsFrom, Sem.run_bind, Sem.run_pure]
  unfold Oper.wp execOp
  simp only [ho, resolve, invoke, builtin, Sem.run_bind, Sem.run_pure, Result.andThen_ok, List.map_toArray, List.map_cons, List.map_nil, hs, hx, hr]
  exact hK _ _ h
set_option maxHeartbeats 3200000 in
theorem owned_some (m : Ms) (ad : Addr) (sc : Nat) (W : World) (hA : AdjsIn W (some ad) m.rc.adjs) (hl : m.rc.adjs.length ≤ sc) (hsc : sc ≤ maxLen) :
    Calls Try.prog 8 #[m.ag (some ad) sc] W (OwnM W m.cut) := by
  obtain ⟨W1, hW1⟩ : ∃ W1, W1 = (W.alloc (.cells (m.cs (some ad) sc) 38)).alloc (.cells #[.int .i64 0, .int .i64 0, .int .u32 0, .int .u32 0, .int .i64 0, .bool false, .slice none 0 0, .int .i64 0, .int .u32 0, .int .u32 0, .int .i64 0, .int .i64 0, .int .u32 0, .int .i64 0, .int .i64 0, .int .i64 0, .int .u32 0, .int .u64 0, .int .u64 0, .int .u64 0, .int .u64 0, .int .i64 0, .int .i64 0, .int .i64 0, .int .u32 0, .int .u32 0, .int .u8 0, .int .i64 0, .int .u32 0, .int .i64 0, .int .u32 0, .int .u32 0] 38) := ⟨_, rfl⟩
  have hb1 : Below W.heap.size W W1 := by rw [hW1]; exact ((Below.refl _ _).alloc (Nat.le_refl _) _).alloc (by rw [World.size_alloc]; omega) _
  have hs1 : W1.heap.size = W.heap.size + 2 := by rw [hW1, World.size_alloc, World.size_alloc]
  have hbx : BoxM W.heap.size m (some ad) sc W1 := by rw [hW1]; exact heap2_old _ _ _
  have hbz : W1.heap[W.heap.size + 1]? = some (.cells #[.int .i64 0, .int .i64 0, .int .u32 0, .int .u32 0, .int .i64 0, .bool false, .slice none 0 0, .int .i64 0, .int .u32 0, .int .u32 0, .int .i64 0, .int .i64 0, .int .u32 0, .int .i64 0, .int .i64 0, .int .i64 0, .int .u32 0, .int .u64 0, .int .u64 0, .int .u64 0, .int .u64 0, .int .i64 0, .int .i64 0, .int .i64 0, .int .u32 0, .int .u32 0, .int .u8 0, .int .i64 0, .int .u32 0, .int .i64 0, .int .u32 0, .int .u32 0] 38 (0, 0)) := by rw [hW1]; exact heap_alloc2_new _ _ _
  obtain ⟨k, hk⟩ : ∃ k, k = min m.rc.adjs.length 20 := ⟨_, rfl⟩
  have hmin : min (m.rc.adjs.length : Int) 20 = (k : Int) := by omega
  have hk20 : k ≤ 20 := by omega
  have hks : k ≤ sc := by omega
  have hksi : (k : Int) ≤ (sc : Int) := by omega
  have HLEN := Lib.hid (show (adjV (m.rc.adjs.take k)).length = k * 2 by rw [adjV_len, List.length_take]; omega)
  have HNW := Lib.hid ((hA.later hb1).take k).news
  have HK := Lib.hid hk
  have HB1 := Lib.hid hb1
  have HS1 := Lib.hid hs1
  have HBX := Lib.hid hbx
  have HBZ := Lib.hid hbz
  obtain ⟨i0, hi, hz0, hz1, hz2⟩ := info_parts infoA
  have x6 : W1.cell? ⟨W.heap.size, 6, none⟩ = some (.slice (some ad) m.rc.adjs.length sc) := hbx.cell rfl
  have HW1 := Lib.hid hW1
  clear hW1 hb1 hs1 hbx hbz hk hl hA
  go_enter Try.func8, Try.ntmps8
  unfold Ms.ag at *
  go_upto_region 2 with fail
  rw [← HW1.out]
  go_wp2_with (at_builtin; refine wpList_append_row _ rfl (.tmp 4) (.tmp 13) 23 rfl (W.heap.size + 2) 81 i0 (.agg #[.int .i64 0, .int .i64 0]) 2 16 Try.underlying23 hi hz0 hz1 hz2 rfl (by decide) (.slice none 0 0) 0 [] rfl (Row.nil_ _ _ _ _) ad k sc (adjV (m.rc.adjs.take k)) rfl HLEN.out ?h1 (adjV_one _) ?h3 ?h4 ?h5 ?_)
  case h1 => exact HNW.out
  case h3 => unfold maxLen; omega
  case h4 => omega
  case h5 => rw [HS1.out]; exact Nat.le_refl _
  intro v1 w1 hrow hg _ _
  try rw [Nat.zero_add] at hrow
  try rw [List.nil_append] at hrow
  obtain ⟨a, cap, rfl, hc1, hc2⟩ := Row.shape hrow
  have HX := Lib.hid (show BoxM W.heap.size m (some ad) sc w1 from (hg.block _ (Array.getElem?_eq_some_iff.1 HBX.out).1 (fun e => by simp [Value.ownBlock] at e)).trans HBX.out)
  have HZ := Lib.hid (show w1.heap[W.heap.size + 1]? = some (.cells #[.int .i64 0, .int .i64 0, .int .u32 0, .int .u32 0, .int .i64 0, .bool false, .slice none 0 0, .int .i64 0, .int .u32 0, .int .u32 0, .int .i64 0, .int .i64 0, .int .u32 0, .int .i64 0, .int .i64 0, .int .i64 0, .int .u32 0, .int .u64 0, .int .u64 0, .int .u64 0, .int .u64 0, .int .i64 0, .int .i64 0, .int .i64 0, .int .u32 0, .int .u32 0, .int .u8 0, .int .i64 0, .int .u32 0, .int .i64 0, .int .u32 0, .int .u32 0] 38 (0, 0)) from (hg.block _ (Array.getElem?_eq_some_iff.1 HBZ.out).1 (fun e => by simp [Value.ownBlock] at e)).trans HBZ.out)
  have HB := Lib.hid (show Below W.heap.size W w1 from HB1.out.grown hg HB1.out.size (by intro q hq; simp [Value.ownBlock] at hq))
  have HR := Lib.hid hrow
  have x6' : w1.cell? ⟨W.heap.size, 6, none⟩ = some (.slice (some ad) m.rc.adjs.length sc) := HX.out.cell rfl
  have f6 : w1.frozen? ⟨W.heap.size, 6, none⟩ = false := frozen_of_row _ _ _ _ _ HX.out
  clear hrow hg x6
  go_upto_region 3 with fail
  obtain ⟨Z, hZ⟩ : ∃ Z, Z = w1.setCell ⟨W.heap.size, 6, none⟩ (.slice a k cap) := ⟨_, rfl⟩
  obtain ⟨e1, e2, e3⟩ := owned_end m (some ad) sc W w1 Z a k cap HK.out HB.out HX.out HR.out hZ
  have HE1 := Lib.hid e1
  have HE2 := Lib.hid e2
  have HE3 := Lib.hid e3
  have HZZ := Lib.hid (show Z.heap[W.heap.size + 1]? = some (.cells #[.int .i64 0, .int .i64 0, .int .u32 0, .int .u32 0, .int .i64 0, .bool false, .slice none 0 0, .int .i64 0, .int .u32 0, .int .u32 0, .int .i64 0, .int .i64 0, .int .u32 0, .int .i64 0, .int .i64 0, .int .i64 0, .int .u32 0, .int .u64 0, .int .u64 0, .int .u64 0, .int .u64 0, .int .i64 0, .int .i64 0, .int .i64 0, .int .u32 0, .int .u32 0, .int .u8 0, .int .i64 0, .int .u32 0, .int .i64 0, .int .u32 0, .int .u32 0] 38 (0, 0)) by rw [hZ]; exact (heap_setCell_other _ _ _ _ (by simp only; omega)).trans HZ.out)
  have HZE := Lib.hid hZ
  have HCC := Lib.hid (block_cells e1)
  have HSZ := Lib.hid (info_msg m.cut a cap)
  have HS2 := Lib.hid (info_msg' m.cut a cap)
  have HS3 := Lib.hid (show (#[.int .i64 0, .int .i64 0, .int .u32 0, .int .u32 0, .int .i64 0, .bool false, .slice none 0 0, .int .i64 0, .int .u32 0, .int .u32 0, .int .i64 0, .int .i64 0, .int .u32 0, .int .i64 0, .int .i64 0, .int .i64 0, .int .u32 0, .int .u64 0, .int .u64 0, .int .u64 0, .int .u64 0, .int .i64 0, .int .i64 0, .int .i64 0, .int .u32 0, .int .u32 0, .int .u8 0, .int .i64 0, .int .u32 0, .int .i64 0, .int .u32 0, .int .u32 0] : Array Value).size = (m.cut.cs a cap).size from rfl)
  have HS4 := Lib.hid (cs_one m.cut a cap)
  clear e1 e2 e3 hZ x6' f6
  rw [← HZE.out]
  go_wp2_with (first | ((with_reducible refine wpList_load_cs rfl 38 (.tmp 1) rfl ⟨W.heap.size, 0, none⟩ rfl (m.cut.cs a cap).toList _ HCC.out Try.underlying38 rfl HSZ.out ?_); rw [Array.toArray_toList]) | (with_reducible refine wpList_store_row rfl 38 (.tmp 2) (.tmp 17) rfl rfl (W.heap.size + 1) rfl 38 #[.int .i64 0, .int .i64 0, .int .u32 0, .int .u32 0, .int .i64 0, .bool false, .slice none 0 0, .int .i64 0, .int .u32 0, .int .u32 0, .int .i64 0, .int .i64 0, .int .u32 0, .int .i64 0, .int .i64 0, .int .i64 0, .int .u32 0, .int .u64 0, .int .u64 0, .int .u64 0, .int .u64 0, .int .i64 0, .int .i64 0, .int .i64 0, .int .u32 0, .int .u32 0, .int .u8 0, .int .i64 0, .int .u32 0, .int .i64 0, .int .u32 0, .int .u32 0] (m.cut.cs a cap) rfl HZZ.out HS2.out HS3.out HS4.out ?_))
  (try simp only [Exit.inBlock, Exit.then])
  exact bodyPost_ret (results_cell1 rfl rfl (setRow_heap _ _ _ _ _ _ HZZ.out) Try.underlying38 rfl (info_msg m.cut a cap)) rfl ⟨a, cap, rfl, (Row.same HE2.out fun j hj => setRow_other _ _ j _ (by
    have h1 := (Row.lt HE2.out j hj).1
    omega)).more (by omega), below_setRow HE3.out (by omega)⟩
set_option maxHeartbeats 3200000 in
theorem owned_none (m : Ms) (W : World) (h0 : m.rc.adjs = []) :
    Calls Try.prog 8 #[m.ag none 0] W (OwnM W m.cut) := by
  obtain ⟨W1, hW1⟩ : ∃ W1, W1 = (W.alloc (.cells (m.cs none 0) 38)).alloc (.cells #[.int .i64 0, .int .i64 0, .int .u32 0, .int .u32 0, .int .i64 0, .bool false, .slice none 0 0, .int .i64 0, .int .u32 0, .int .u32 0, .int .i64 0, .int .i64 0, .int .u32 0, .int .i64 0, .int .i64 0, .int .i64 0, .int .u32 0, .int .u64 0, .int .u64 0, .int .u64 0, .int .u64 0, .int .i64 0, .int .i64 0, .int .i64 0, .int .u32 0, .int .u32 0, .int .u8 0, .int .i64 0, .int .u32 0, .int .i64 0, .int .u32 0, .int .u32 0] 38) := ⟨_, rfl⟩
  have hb1 : Below W.heap.size W W1 := by rw [hW1]; exact ((Below.refl _ _).alloc (Nat.le_refl _) _).alloc (by rw [World.size_alloc]; omega) _
  have hbx : BoxM W.heap.size m none 0 W1 := by rw [hW1]; exact heap2_old _ _ _
  have hbz : W1.heap[W.heap.size + 1]? = some (.cells #[.int .i64 0, .int .i64 0, .int .u32 0, .int .u32 0, .int .i64 0, .bool false, .slice none 0 0, .int .i64 0, .int .u32 0, .int .u32 0, .int .i64 0, .int .i64 0, .int .u32 0, .int .i64 0, .int .i64 0, .int .i64 0, .int .u32 0, .int .u64 0, .int .u64 0, .int .u64 0, .int .u64 0, .int .i64 0, .int .i64 0, .int .i64 0, .int .u32 0, .int .u32 0, .int .u8 0, .int .i64 0, .int .u32 0, .int .i64 0, .int .u32 0, .int .u32 0] 38 (0, 0)) := by rw [hW1]; exact heap_alloc2_new _ _ _
  have HB1 := Lib.hid hb1
  have HBX := Lib.hid hbx
  have HBZ := Lib.hid hbz
  have HL0 := Lib.hid (show 0 = min m.rc.adjs.length 20 by rw [h0]; rfl)
  have HAJ := Lib.hid (show adjV (m.rc.adjs.take 0) = [] from rfl)
  obtain ⟨i0, hi, hz0, hz1, hz2⟩ := info_parts infoA
  have x6 : W1.cell? ⟨W.heap.size, 6, none⟩ = some (.slice none m.rc.adjs.length 0) := hbx.cell rfl
  rw [h0] at x6
  have f6 : W1.frozen? ⟨W.heap.size, 6, none⟩ = false := frozen_of_row _ _ _ _ _ hbx
  have HW1 := Lib.hid hW1
  clear hW1 hb1 hbx hbz h0
  go_enter Try.func8, Try.ntmps8
  unfold Ms.ag at *
  go_upto_region 2 with fail
  rw [← HW1.out]
  go_upto_region 3 with (at_builtin; refine wpList_append_nil rfl (.tmp 4) (.tmp 13) 23 rfl 81 i0 (.agg #[.int .i64 0, .int .i64 0]) Try.underlying23 hi hz0 rfl rfl ?_)
  obtain ⟨Z, hZ⟩ : ∃ Z, Z = W1.setCell ⟨W.heap.size, 6, none⟩ (.slice none 0 0) := ⟨_, rfl⟩
  obtain ⟨e1, e2, e3⟩ := owned_end m none 0 W W1 Z none 0 0 HL0.out HB1.out HBX.out (by rw [HAJ.out]; exact Row.nil_ _ _ _ _) hZ
  have HE1 := Lib.hid e1
  have HE2 := Lib.hid e2
  have HE3 := Lib.hid e3
  have HZZ := Lib.hid (show Z.heap[W.heap.size + 1]? = some (.cells #[.int .i64 0, .int .i64 0, .int .u32 0, .int .u32 0, .int .i64 0, .bool false, .slice none 0 0, .int .i64 0, .int .u32 0, .int .u32 0, .int .i64 0, .int .i64 0, .int .u32 0, .int .i64 0, .int .i64 0, .int .i64 0, .int .u32 0, .int .u64 0, .int .u64 0, .int .u64 0, .int .u64 0, .int .i64 0, .int .i64 0, .int .i64 0, .int .u32 0, .int .u32 0, .int .u8 0, .int .i64 0, .int .u32 0, .int .i64 0, .int .u32 0, .int .u32 0] 38 (0, 0)) by rw [hZ]; exact (heap_setCell_other _ _ _ _ (by simp only; omega)).trans HBZ.out)
  have HZE := Lib.hid hZ
  have HCC := Lib.hid (block_cells e1)
  have HSZ := Lib.hid (info_msg m.cut none 0)
  have HS2 := Lib.hid (info_msg' m.cut none 0)
  have HS3 := Lib.hid (show (#[.int .i64 0, .int .i64 0, .int .u32 0, .int .u32 0, .int .i64 0, .bool false, .slice none 0 0, .int .i64 0, .int .u32 0, .int .u32 0, .int .i64 0, .int .i64 0, .int .u32 0, .int .i64 0, .int .i64 0, .int .i64 0, .int .u32 0, .int .u64 0, .int .u64 0, .int .u64 0, .int .u64 0, .int .i64 0, .int .i64 0, .int .i64 0, .int .u32 0, .int .u32 0, .int .u8 0, .int .i64 0, .int .u32 0, .int .i64 0, .int .u32 0, .int .u32 0] : Array Value).size = (m.cut.cs none 0).size from rfl)
  have HS4 := Lib.hid (cs_one m.cut none 0)
  clear e1 e2 e3 hZ x6 f6
  rw [← HZE.out]
  go_wp2_with (first | ((with_reducible refine wpList_load_cs rfl 38 (.tmp 1) rfl ⟨W.heap.size, 0, none⟩ rfl (m.cut.cs none 0).toList _ HCC.out Try.underlying38 rfl HSZ.out ?_); rw [Array.toArray_toList]) | (with_reducible refine wpList_store_row rfl 38 (.tmp 2) (.tmp 17) rfl rfl (W.heap.size + 1) rfl 38 #[.int .i64 0, .int .i64 0, .int .u32 0, .int .u32 0, .int .i64 0, .bool false, .slice none 0 0, .int .i64 0, .int .u32 0, .int .u32 0, .int .i64 0, .int .i64 0, .int .u32 0, .int .i64 0, .int .i64 0, .int .i64 0, .int .u32 0, .int .u64 0, .int .u64 0, .int .u64 0, .int .u64 0, .int .i64 0, .int .i64 0, .int .i64 0, .int .u32 0, .int .u32 0, .int .u8 0, .int .i64 0, .int .u32 0, .int .i64 0, .int .u32 0, .int .u32 0] (m.cut.cs none 0) rfl HZZ.out HS2.out HS3.out HS4.out ?_))
  (try simp only [Exit.inBlock, Exit.then])
  exact bodyPost_ret (results_cell1 rfl rfl (setRow_heap _ _ _ _ _ _ HZZ.out) Try.underlying38 rfl (info_msg m.cut none 0)) rfl ⟨none, 0, rfl, (Row.same HE2.out fun j hj => setRow_other _ _ j _ (by
    have h1 := (Row.lt HE2.out j hj).1
    omega)).more (by omega), below_setRow HE3.out (by omega)⟩
theorem owned_any (x : Ms × Option Addr × Nat) (w W : World) (hx : MOpen w x) (hA : AdjsIn W x.2.1 x.1.rc.adjs) : Calls Try.prog 8 #[x.1.ag x.2.1 x.2.2] W (OwnM W x.1.cut) := by
  obtain ⟨m, sa, sc⟩ := x
  obtain ⟨_, _, h1, h2, h3⟩ := hx
  simp only at h1 h2 h3 hA ⊢
  cases sa with
  | none =>
    obtain ⟨h4, rfl⟩ := h3 rfl
    exact owned_none m W h4
  | some ad => exact owned_some m ad sc W hA h1 h2

end Go.Proofs.Ytickjmkkgcfkhaa

/- The walk of the law MsgTells. (Printed by mkmsgtells.py.) -/
set_option linter.unusedSimpArgs false
set_option linter.unusedVariables false
set_option maxRecDepth 100000
namespace Go.Proofs.Ytickjmkkgcfkhaa
open Go.RowKit Go.ChangeShapes Go.WideShapes

theorem wpOQ_store {P : Program} {ops : Array Oper} {Q : Exit → Act → World → Prop} {S : World → Prop} {i : Nat} {o : Oper} {r : OQ} {a : Act} {w : World} (ho : ops[i]? = some o) (hd : o.dst = none) (hw : Region.wanted o (yielded ops a.tmps) = true) (ty : TypeId) (p x : Operand) (hop : o.op = .store ty p x)
    (g : Nat) (hp : a.eval p = .pointer (some ⟨g, 0, none⟩)) (t : TypeId) (c c' : Array Value) (hx : a.eval x = .agg c') (hg : w.heap[g]? = some (.cells c t (0, 0))) (hi : (P.info? ty).map (·.size) = some c'.size) (hs : c.size = c'.size) (h1 : c'.all (·.oneCell') = true)
    (hS : S (w.setRow g c')) (h : wpOQ P ops Q S r a (w.setRow g c')) : wpOQ P ops Q S (.one i r) a w :=
  wpOQ_do ho hw fun K hK => by
    have hr : (execOp a.eval o).run P w = .ok .skip (w.setRow g c') := by
      unfold execOp
      simp only [hop, hp, hx, Instr.storeAt, Instr.sureAddr, Sem.run_bind, Sem.run_pure, Result.andThen_ok, run_storeVar_row w g t ty c c' hg hi hs h1]
    unfold Oper.wp
    rw [hr, Oper.upon_skip, hd]
    exact hK _ _ hS h
theorem blk {g : Nat} {o : Obj} {V X : World} (h : V.heap[g]? = some o) (hb : Below V.heap.size V X) : X.heap[g]? = some o := (hb.block g (Array.getElem?_eq_some_iff.1 h).1).trans h
/-- While both messages are made. -/
structure TlS (W : World) (m : Ms) (sa : Option Addr) (sc : Nat) (V : World) : Prop where
  bel : Below W.heap.size W V
  box : BoxM W.heap.size m sa sc V
theorem TlS.later {W V X : World} {m : Ms} {sa : Option Addr} {sc : Nat} (h : TlS W m sa sc V) (hb : Below V.heap.size V X) : TlS W m sa sc X := ⟨h.bel.trans (hb.mono h.bel.size), h.box.later hb⟩
theorem TlS.setRow {W V : World} {m : Ms} {sa : Option Addr} {sc g : Nat} {c : Array Value} (h : TlS W m sa sc V) (hg : W.heap.size < g) : TlS W m sa sc (V.setRow g c) :=
  ⟨below_setRow h.bel (by omega), (setRow_other V g _ c (by omega)).trans h.box⟩
/-- Both messages in memory. -/
structure TlR (W : World) (M : Ms) (g1 g2 : Nat) (sa : Option Addr) (sc : Nat) (ta : Option Addr) (tc : Nat) (V : World) : Prop where
  bel : Below W.heap.size W V
  b1 : BoxM g1 M sa sc V
  b2 : BoxM g2 M ta tc V
  a1 : AdjsIn V sa M.rc.adjs
  a2 : AdjsIn V ta M.rc.adjs
theorem TlR.later {W V X : World} {M : Ms} {g1 g2 : Nat} {sa : Option Addr} {sc : Nat} {ta : Option Addr} {tc : Nat} (h : TlR W M g1 g2 sa sc ta tc V) (hb : Below V.heap.size V X) : TlR W M g1 g2 sa sc ta tc X :=
  ⟨h.bel.trans (hb.mono h.bel.size), h.b1.later hb, h.b2.later hb, h.a1.later hb, h.a2.later hb⟩
theorem tl_end {W Z : World} {M : Ms} {g1 g2 B C : Nat} {sa ta : Option Addr} {sc tc : Nat} (hb : Below W.heap.size W Z) (h1 : Z.heap[g1]? = some (.cells #[.int .i64 0, .int .i64 0, .int .u32 0, .int .u32 0, .int .i64 0, .bool false, .slice none 0 0, .int .i64 0, .int .u32 0, .int .u32 0, .int .i64 0, .int .i64 0, .int .u32 0, .int .i64 0, .int .i64 0, .int .i64 0, .int .u32 0, .int .u64 0, .int .u64 0, .int .u64 0, .int .u64 0, .int .i64 0, .int .i64 0, .int .i64 0, .int .u32 0, .int .u32 0, .int .u8 0, .int .i64 0, .int .u32 0, .int .i64 0, .int .u32 0, .int .u32 0] 38 (0, 0))) (h2 : Z.heap[g2]? = some (.cells #[.int .i64 0, .int .i64 0, .int .u32 0, .int .u32 0, .int .i64 0, .bool false, .slice none 0 0, .int .i64 0, .int .u32 0, .int .u32 0, .int .i64 0, .int .i64 0, .int .u32 0, .int .i64 0, .int .i64 0, .int .i64 0, .int .u32 0, .int .u64 0, .int .u64 0, .int .u64 0, .int .u64 0, .int .i64 0, .int .i64 0, .int .i64 0, .int .u32 0, .int .u32 0, .int .u8 0, .int .i64 0, .int .u32 0, .int .i64 0, .int .u32 0, .int .u32 0] 38 (0, 0))) (hr1 : ARow Z B sa sc M.rc.adjs) (hr2 : ARow Z C ta tc M.rc.adjs)
    (n11 : ∀ k, (Value.slice sa M.rc.adjs.length sc).ownBlock = some k → k ≠ g1) (n12 : ∀ k, (Value.slice sa M.rc.adjs.length sc).ownBlock = some k → k ≠ g2) (n21 : ∀ k, (Value.slice ta M.rc.adjs.length tc).ownBlock = some k → k ≠ g1) (n22 : ∀ k, (Value.slice ta M.rc.adjs.length tc).ownBlock = some k → k ≠ g2) (hg : g1 ≠ g2) (l1 : W.heap.size < g1) (l2 : W.heap.size < g2) :
    TlR W M g1 g2 sa sc ta tc ((Z.setRow g1 (M.cs sa sc)).setRow g2 (M.cs ta tc)) := by
  refine ⟨below_setRow (below_setRow hb (by omega)) (by omega), (setRow_other _ g2 g1 _ hg).trans (setRow_heap _ _ _ _ _ _ h1), setRow_heap _ _ _ _ _ _ ((setRow_other _ g1 g2 _ (fun e => hg e.symm)).trans h2), ?_, ?_⟩
  · exact ARow.adjs (B := B) (sc := sc) (hr1.same fun k hk => (setRow_other _ g2 k _ (n12 k hk)).trans (setRow_other _ g1 k _ (n11 k hk)))
  · exact ARow.adjs (B := C) (sc := tc) (hr2.same fun k hk => (setRow_other _ g2 k _ (n22 k hk)).trans (setRow_other _ g1 k _ (n21 k hk)))
theorem AdjsIn.later_below {W V : World} {a : Option Addr} {xs : List (Int × Int)} (h : AdjsIn W a xs) (hb : Below W.heap.size W V) : AdjsIn V a xs := h.later hb

set_option maxHeartbeats 12800000 in
theorem tells_walk (m : Ms) (sa : Option Addr) (sc : Nat) (W : World) (hA : AdjsIn W sa m.rc.adjs) (M : Ms)
    (hOW : ∀ V, AdjsIn V sa m.rc.adjs → Calls Try.prog 8 #[.agg (m.cs sa sc)] V (OwnM V M))
    (hEN : ∀ V ta tc, AdjsIn V ta M.rc.adjs → Calls Try.prog 9 #[.agg (M.cs ta tc)] V fun e X => e = .returned (.tuple #[.string M.encS, .int .i64 M.err]) ∧ Below V.heap.size V X)
    (hRE : ∀ V ta tc, AdjsIn V ta M.rc.adjs → Calls Try.prog 10 #[.agg (M.cs ta tc)] V fun e X => e = .returned (.tuple #[.string M.encS, .int .i64 M.err]) ∧ Below V.heap.size V X)
    (hCK : ∀ V ta tc, AdjsIn V ta M.rc.adjs → Calls Try.prog 11 #[.agg (M.cs ta tc)] V fun e X => e = .returned (.int .i64 M.err) ∧ Below V.heap.size V X)
    (hRC : ∀ V ta tc, AdjsIn V ta M.rc.adjs → Calls Try.prog 12 #[.agg (M.cs ta tc)] V fun e X => e = .returned (.int .i64 M.err) ∧ Below V.heap.size V X)
    (hSM : ∀ V ra rc ta tc, AdjsIn V ra M.rc.adjs → AdjsIn V ta M.rc.adjs → Calls Try.prog 13 #[.agg (M.cs ra rc), .agg (M.cs ta tc)] V fun e X => e = .returned (.bool true) ∧ Below V.heap.size V X) :
    Calls Try.prog 3 #[.agg (m.cs sa sc)] W fun e W' => e = .returned (.bool true) ∧ Below W.heap.size W W' := by
  obtain ⟨W1, hW1⟩ : ∃ W1, W1 = W.alloc (.cells (m.cs sa sc) 38) := ⟨_, rfl⟩
  have hb1 : Below W.heap.size W W1 := by rw [hW1]; exact (Below.refl _ _).alloc (Nat.le_refl _) _
  have HS00 := Lib.hid (show TlS W m sa sc W1 from ⟨hb1, by rw [hW1]; exact heap_alloc_new _ _⟩)
  have HSZ := Lib.hid (info_msg m sa sc)
  have HOW := Lib.hid hOW
  have HEN := Lib.hid hEN
  have HRE := Lib.hid hRE
  have HCK := Lib.hid hCK
  have HRC := Lib.hid hRC
  have HSM := Lib.hid hSM
  have HA := Lib.hid hA
  have HW1 := Lib.hid hW1
  obtain ⟨ES, hES⟩ : ∃ s, s = M.encS := ⟨_, rfl⟩
  obtain ⟨EE, hEE⟩ : ∃ s, s = M.err := ⟨_, rfl⟩
  rw [← hES, ← hEE] at HEN HRE
  rw [← hEE] at HCK HRC
  clear hW1 hb1 hA hOW hEN hRE hCK hRC hSM hES hEE
  go_enter Try.func3, Try.ntmps3
  go_upto_region 1 with fail
  rw [← HW1.out]
  go_cut [3, 4] (fun s3 s4 wx => ∃ g1 g2 ra rc ta tc, s3 = .pointer (some ⟨g1, 0, none⟩) ∧ s4 = .pointer (some ⟨g2, 0, none⟩) ∧ TlR W M g1 g2 ra rc ta tc wx)
  case first =>
    obtain ⟨Z0, hU⟩ : ∃ X, X = W1.drew := ⟨_, rfl⟩
    have HS0 := Lib.hid (show TlS W m sa sc Z0 by rw [hU]; exact HS00.out.later (drew_below _))
    refine wp_region_tree3 (.look 0 (.look 2 (.three 1 (.three 3 (.two 4 (.one 5 (.one 6 (.one 7 .nil))) 5 (.one 4 (.one 6 (.one 7 .nil)))) 4 (.two 3 (.one 5 (.one 6 (.one 7 .nil))) 5 (.one 3 (.one 6 (.one 7 .nil)))) 5 (.two 3 (.one 4 (.one 6 (.one 7 .nil))) 4 (.one 3 (.one 6 (.one 7 .nil))))) 4 (.two 1 (.two 3 (.one 5 (.one 6 (.one 7 .nil))) 5 (.one 3 (.one 6 (.one 7 .nil)))) 5 (.one 1 (.one 3 (.one 6 (.one 7 .nil))))) 5 (.two 1 (.two 3 (.one 4 (.one 6 (.one 7 .nil))) 4 (.one 3 (.one 6 (.one 7 .nil)))) 4 (.one 1 (.one 3 (.one 6 (.one 7 .nil)))))))) (TlS W m sa sc) (by kernel_rfl) (by kernel_rfl) (by decide) (by kernel_rfl) (fun d _ _ _ _ h => by cases d <;> first | exact h | exact h.later (drew_below _)) (by rw [← hU]; exact HS0.out) ?_
    rw [← hU]
    clear hU
    iterate 2 (((apply wpOQ_take rfl rfl (by kernel_rfl); (intro V hV; exact run_load_cs _ _ 38 (.tmp 1) rfl ⟨W.heap.size, 0, none⟩ rfl (m.cs sa sc).toList _ (block_cells hV.box) Try.underlying38 rfl HSZ.out)); (try simp only [List.setIfInBounds_toArray, List.set_cons_succ, List.set_cons_zero])); rw [Array.toArray_toList])
    apply wpOQ_three
    · skip
      apply wpOQ_do rfl (by kernel_rfl)
      intro K hK
      go_simp
      refine (HOW.out Z0 (HA.out.later_below HS0.out.bel)).mono ?_
      rintro e Z1 ⟨ra, rc, rfl, har, hb⟩
      unfold Ms.ag
      have HS1 := Lib.hid (HS0.out.later hb)
      have HRp1 := Lib.hid har
      refine hK _ _ HS1.out ?_
      clear hK K hb har
      apply wpOQ_three
      · skip
        apply wpOQ_do rfl (by kernel_rfl)
        intro K hK
        go_simp
        refine (HOW.out Z1 (HA.out.later_below HS1.out.bel)).mono ?_
        rintro e Z2 ⟨ta, tc, rfl, har, hb⟩
        unfold Ms.ag
        have HS2 := Lib.hid (HS1.out.later hb)
        have HRp2 := Lib.hid (Row.later HRp1.out hb)
        have HRq2 := Lib.hid har
        refine hK _ _ HS2.out ?_
        clear hK K hb har
        apply wpOQ_two
        · skip
          apply wpOQ_do rfl (by kernel_rfl)
          intro K hK
          go_simp
          obtain ⟨ga, hg⟩ : ∃ g, g = Z2.heap.size := ⟨_, rfl⟩
          obtain ⟨Z3, hZ⟩ : ∃ X, X = Z2.alloc (.cells #[.int .i64 0, .int .i64 0, .int .u32 0, .int .u32 0, .int .i64 0, .bool false, .slice none 0 0, .int .i64 0, .int .u32 0, .int .u32 0, .int .i64 0, .int .i64 0, .int .u32 0, .int .i64 0, .int .i64 0, .int .i64 0, .int .u32 0, .int .u64 0, .int .u64 0, .int .u64 0, .int .u64 0, .int .i64 0, .int .i64 0, .int .i64 0, .int .u32 0, .int .u32 0, .int .u8 0, .int .i64 0, .int .u32 0, .int .i64 0, .int .u32 0, .int .u32 0] 38) := ⟨_, rfl⟩
          have hb : Below Z2.heap.size Z2 Z3 := by rw [hZ]; exact (Below.refl _ _).alloc (Nat.le_refl _) _
          have HS3 := Lib.hid (HS2.out.later hb)
          have HRp3 := Lib.hid (Row.later HRp2.out hb)
          have HRq3 := Lib.hid (Row.later HRq2.out hb)
          have HGa3 := Lib.hid (show Z3.heap[ga]? = some (.cells #[.int .i64 0, .int .i64 0, .int .u32 0, .int .u32 0, .int .i64 0, .bool false, .slice none 0 0, .int .i64 0, .int .u32 0, .int .u32 0, .int .i64 0, .int .i64 0, .int .u32 0, .int .i64 0, .int .i64 0, .int .i64 0, .int .u32 0, .int .u64 0, .int .u64 0, .int .u64 0, .int .u64 0, .int .i64 0, .int .i64 0, .int .i64 0, .int .u32 0, .int .u32 0, .int .u8 0, .int .i64 0, .int .u32 0, .int .i64 0, .int .u32 0, .int .u32 0] 38 (0, 0)) by rw [hZ, hg]; exact heap_alloc_new _ _)
          have HLa := Lib.hid (show W.heap.size < ga by
            have h2 := (Array.getElem?_eq_some_iff.1 HS2.out.box).1
            omega)
          have HNpa := Lib.hid (show ∀ k, (Value.slice ra M.rc.adjs.length rc).ownBlock = some k → k ≠ ga from fun k hk e => by
            have h1 := (Row.lt HRp2.out k hk).2
            omega)
          have HNqa := Lib.hid (show ∀ k, (Value.slice ta M.rc.adjs.length tc).ownBlock = some k → k ≠ ga from fun k hk e => by
            have h1 := (Row.lt HRq2.out k hk).2
            omega)
          rw [← hZ, ← hg]
          refine hK _ _ HS3.out ?_
          clear hK K hb hZ hg
          apply wpOQ_do rfl (by kernel_rfl)
          intro K hK
          go_simp
          obtain ⟨gb, hg⟩ : ∃ g, g = Z3.heap.size := ⟨_, rfl⟩
          obtain ⟨Z4, hZ⟩ : ∃ X, X = Z3.alloc (.cells #[.int .i64 0, .int .i64 0, .int .u32 0, .int .u32 0, .int .i64 0, .bool false, .slice none 0 0, .int .i64 0, .int .u32 0, .int .u32 0, .int .i64 0, .int .i64 0, .int .u32 0, .int .i64 0, .int .i64 0, .int .i64 0, .int .u32 0, .int .u64 0, .int .u64 0, .int .u64 0, .int .u64 0, .int .i64 0, .int .i64 0, .int .i64 0, .int .u32 0, .int .u32 0, .int .u8 0, .int .i64 0, .int .u32 0, .int .i64 0, .int .u32 0, .int .u32 0] 38) := ⟨_, rfl⟩
          have hb : Below Z3.heap.size Z3 Z4 := by rw [hZ]; exact (Below.refl _ _).alloc (Nat.le_refl _) _
          have HS4 := Lib.hid (HS3.out.later hb)
          have HRp4 := Lib.hid (Row.later HRp3.out hb)
          have HRq4 := Lib.hid (Row.later HRq3.out hb)
          have HGa4 := Lib.hid (blk HGa3.out hb)
          have HGb4 := Lib.hid (show Z4.heap[gb]? = some (.cells #[.int .i64 0, .int .i64 0, .int .u32 0, .int .u32 0, .int .i64 0, .bool false, .slice none 0 0, .int .i64 0, .int .u32 0, .int .u32 0, .int .i64 0, .int .i64 0, .int .u32 0, .int .i64 0, .int .i64 0, .int .i64 0, .int .u32 0, .int .u64 0, .int .u64 0, .int .u64 0, .int .u64 0, .int .i64 0, .int .i64 0, .int .i64 0, .int .u32 0, .int .u32 0, .int .u8 0, .int .i64 0, .int .u32 0, .int .i64 0, .int .u32 0, .int .u32 0] 38 (0, 0)) by rw [hZ, hg]; exact heap_alloc_new _ _)
          have HLb := Lib.hid (show W.heap.size < gb by
            have h2 := (Array.getElem?_eq_some_iff.1 HS3.out.box).1
            omega)
          have HNpb := Lib.hid (show ∀ k, (Value.slice ra M.rc.adjs.length rc).ownBlock = some k → k ≠ gb from fun k hk e => by
            have h1 := (Row.lt HRp3.out k hk).2
            omega)
          have HNqb := Lib.hid (show ∀ k, (Value.slice ta M.rc.adjs.length tc).ownBlock = some k → k ≠ gb from fun k hk e => by
            have h1 := (Row.lt HRq3.out k hk).2
            omega)
          have HAB := Lib.hid (show ga ≠ gb from fun e => by
            have h2 := (Array.getElem?_eq_some_iff.1 HGa3.out).1
            omega)
          rw [← hZ, ← hg]
          refine hK _ _ HS4.out ?_
          clear hK K hb hZ hg
          refine wpOQ_store rfl rfl (by kernel_rfl) 38 (.tmp 3) (.tmp 10) rfl ga rfl 38 _ (M.cs ra rc) rfl HGa4.out (info_msg' M ra rc) rfl (cs_one M ra rc) (HS4.out.setRow HLa.out) ?_
          refine wpOQ_store rfl rfl (by kernel_rfl) 38 (.tmp 4) (.tmp 12) rfl gb rfl 38 _ (M.cs ta tc) rfl ((setRow_other _ ga gb _ (fun e => HAB.out e.symm)).trans HGb4.out) (info_msg' M ta tc) rfl (cs_one M ta tc) ((HS4.out.setRow HLa.out).setRow HLb.out) ?_
          refine wpOQ_nil ?_
          go_wp2_with fail
          go_meet
          exact ⟨ga, gb, ra, rc, ta, tc, rfl, rfl, tl_end HS4.out.bel HGa4.out HGb4.out HRp4.out HRq4.out HNpa.out HNpb.out HNqa.out HNqb.out HAB.out HLa.out HLb.out⟩
        · skip
          apply wpOQ_do rfl (by kernel_rfl)
          intro K hK
          go_simp
          obtain ⟨gb, hg⟩ : ∃ g, g = Z2.heap.size := ⟨_, rfl⟩
          obtain ⟨Z3, hZ⟩ : ∃ X, X = Z2.alloc (.cells #[.int .i64 0, .int .i64 0, .int .u32 0, .int .u32 0, .int .i64 0, .bool false, .slice none 0 0, .int .i64 0, .int .u32 0, .int .u32 0, .int .i64 0, .int .i64 0, .int .u32 0, .int .i64 0, .int .i64 0, .int .i64 0, .int .u32 0, .int .u64 0, .int .u64 0, .int .u64 0, .int .u64 0, .int .i64 0, .int .i64 0, .int .i64 0, .int .u32 0, .int .u32 0, .int .u8 0, .int .i64 0, .int .u32 0, .int .i64 0, .int .u32 0, .int .u32 0] 38) := ⟨_, rfl⟩
          have hb : Below Z2.heap.size Z2 Z3 := by rw [hZ]; exact (Below.refl _ _).alloc (Nat.le_refl _) _
          have HS3 := Lib.hid (HS2.out.later hb)
          have HRp3 := Lib.hid (Row.later HRp2.out hb)
          have HRq3 := Lib.hid (Row.later HRq2.out hb)
          have HGb3 := Lib.hid (show Z3.heap[gb]? = some (.cells #[.int .i64 0, .int .i64 0, .int .u32 0, .int .u32 0, .int .i64 0, .bool false, .slice none 0 0, .int .i64 0, .int .u32 0, .int .u32 0, .int .i64 0, .int .i64 0, .int .u32 0, .int .i64 0, .int .i64 0, .int .i64 0, .int .u32 0, .int .u64 0, .int .u64 0, .int .u64 0, .int .u64 0, .int .i64 0, .int .i64 0, .int .i64 0, .int .u32 0, .int .u32 0, .int .u8 0, .int .i64 0, .int .u32 0, .int .i64 0, .int .u32 0, .int .u32 0] 38 (0, 0)) by rw [hZ, hg]; exact heap_alloc_new _ _)
          have HLb := Lib.hid (show W.heap.size < gb by
            have h2 := (Array.getElem?_eq_some_iff.1 HS2.out.box).1
            omega)
          have HNpb := Lib.hid (show ∀ k, (Value.slice ra M.rc.adjs.length rc).ownBlock = some k → k ≠ gb from fun k hk e => by
            have h1 := (Row.lt HRp2.out k hk).2
            omega)
          have HNqb := Lib.hid (show ∀ k, (Value.slice ta M.rc.adjs.length tc).ownBlock = some k → k ≠ gb from fun k hk e => by
            have h1 := (Row.lt HRq2.out k hk).2
            omega)
          rw [← hZ, ← hg]
          refine hK _ _ HS3.out ?_
          clear hK K hb hZ hg
          apply wpOQ_do rfl (by kernel_rfl)
          intro K hK
          go_simp
          obtain ⟨ga, hg⟩ : ∃ g, g = Z3.heap.size := ⟨_, rfl⟩
          obtain ⟨Z4, hZ⟩ : ∃ X, X = Z3.alloc (.cells #[.int .i64 0, .int .i64 0, .int .u32 0, .int .u32 0, .int .i64 0, .bool false, .slice none 0 0, .int .i64 0, .int .u32 0, .int .u32 0, .int .i64 0, .int .i64 0, .int .u32 0, .int .i64 0, .int .i64 0, .int .i64 0, .int .u32 0, .int .u64 0, .int .u64 0, .int .u64 0, .int .u64 0, .int .i64 0, .int .i64 0, .int .i64 0, .int .u32 0, .int .u32 0, .int .u8 0, .int .i64 0, .int .u32 0, .int .i64 0, .int .u32 0, .int .u32 0] 38) := ⟨_, rfl⟩
          have hb : Below Z3.heap.size Z3 Z4 := by rw [hZ]; exact (Below.refl _ _).alloc (Nat.le_refl _) _
          have HS4 := Lib.hid (HS3.out.later hb)
          have HRp4 := Lib.hid (Row.later HRp3.out hb)
          have HRq4 := Lib.hid (Row.later HRq3.out hb)
          have HGb4 := Lib.hid (blk HGb3.out hb)
          have HGa4 := Lib.hid (show Z4.heap[ga]? = some (.cells #[.int .i64 0, .int .i64 0, .int .u32 0, .int .u32 0, .int .i64 0, .bool false, .slice none 0 0, .int .i64 0, .int .u32 0, .int .u32 0, .int .i64 0, .int .i64 0, .int .u32 0, .int .i64 0, .int .i64 0, .int .i64 0, .int .u32 0, .int .u64 0, .int .u64 0, .int .u64 0, .int .u64 0, .int .i64 0, .int .i64 0, .int .i64 0, .int .u32 0, .int .u32 0, .int .u8 0, .int .i64 0, .int .u32 0, .int .i64 0, .int .u32 0, .int .u32 0] 38 (0, 0)) by rw [hZ, hg]; exact heap_alloc_new _ _)
          have HLa := Lib.hid (show W.heap.size < ga by
            have h2 := (Array.getElem?_eq_some_iff.1 HS3.out.box).1
            omega)
          have HNpa := Lib.hid (show ∀ k, (Value.slice ra M.rc.adjs.length rc).ownBlock = some k → k ≠ ga from fun k hk e => by
            have h1 := (Row.lt HRp3.out k hk).2
            omega)
          have HNqa := Lib.hid (show ∀ k, (Value.slice ta M.rc.adjs.length tc).ownBlock = some k → k ≠ ga from fun k hk e => by
            have h1 := (Row.lt HRq3.out k hk).2
            omega)
          have HAB := Lib.hid (show ga ≠ gb from fun e => by
            have h2 := (Array.getElem?_eq_some_iff.1 HGb3.out).1
            omega)
          rw [← hZ, ← hg]
          refine hK _ _ HS4.out ?_
          clear hK K hb hZ hg
          refine wpOQ_store rfl rfl (by kernel_rfl) 38 (.tmp 3) (.tmp 10) rfl ga rfl 38 _ (M.cs ra rc) rfl HGa4.out (info_msg' M ra rc) rfl (cs_one M ra rc) (HS4.out.setRow HLa.out) ?_
          refine wpOQ_store rfl rfl (by kernel_rfl) 38 (.tmp 4) (.tmp 12) rfl gb rfl 38 _ (M.cs ta tc) rfl ((setRow_other _ ga gb _ (fun e => HAB.out e.symm)).trans HGb4.out) (info_msg' M ta tc) rfl (cs_one M ta tc) ((HS4.out.setRow HLa.out).setRow HLb.out) ?_
          refine wpOQ_nil ?_
          go_wp2_with fail
          go_meet
          exact ⟨ga, gb, ra, rc, ta, tc, rfl, rfl, tl_end HS4.out.bel HGa4.out HGb4.out HRp4.out HRq4.out HNpa.out HNpb.out HNqa.out HNqb.out HAB.out HLa.out HLb.out⟩
      · skip
        apply wpOQ_do rfl (by kernel_rfl)
        intro K hK
        go_simp
        obtain ⟨ga, hg⟩ : ∃ g, g = Z1.heap.size := ⟨_, rfl⟩
        obtain ⟨Z2, hZ⟩ : ∃ X, X = Z1.alloc (.cells #[.int .i64 0, .int .i64 0, .int .u32 0, .int .u32 0, .int .i64 0, .bool false, .slice none 0 0, .int .i64 0, .int .u32 0, .int .u32 0, .int .i64 0, .int .i64 0, .int .u32 0, .int .i64 0, .int .i64 0, .int .i64 0, .int .u32 0, .int .u64 0, .int .u64 0, .int .u64 0, .int .u64 0, .int .i64 0, .int .i64 0, .int .i64 0, .int .u32 0, .int .u32 0, .int .u8 0, .int .i64 0, .int .u32 0, .int .i64 0, .int .u32 0, .int .u32 0] 38) := ⟨_, rfl⟩
        have hb : Below Z1.heap.size Z1 Z2 := by rw [hZ]; exact (Below.refl _ _).alloc (Nat.le_refl _) _
        have HS2 := Lib.hid (HS1.out.later hb)
        have HRp2 := Lib.hid (Row.later HRp1.out hb)
        have HGa2 := Lib.hid (show Z2.heap[ga]? = some (.cells #[.int .i64 0, .int .i64 0, .int .u32 0, .int .u32 0, .int .i64 0, .bool false, .slice none 0 0, .int .i64 0, .int .u32 0, .int .u32 0, .int .i64 0, .int .i64 0, .int .u32 0, .int .i64 0, .int .i64 0, .int .i64 0, .int .u32 0, .int .u64 0, .int .u64 0, .int .u64 0, .int .u64 0, .int .i64 0, .int .i64 0, .int .i64 0, .int .u32 0, .int .u32 0, .int .u8 0, .int .i64 0, .int .u32 0, .int .i64 0, .int .u32 0, .int .u32 0] 38 (0, 0)) by rw [hZ, hg]; exact heap_alloc_new _ _)
        have HLa := Lib.hid (show W.heap.size < ga by
          have h2 := (Array.getElem?_eq_some_iff.1 HS1.out.box).1
          omega)
        have HNpa := Lib.hid (show ∀ k, (Value.slice ra M.rc.adjs.length rc).ownBlock = some k → k ≠ ga from fun k hk e => by
          have h1 := (Row.lt HRp1.out k hk).2
          omega)
        rw [← hZ, ← hg]
        refine hK _ _ HS2.out ?_
        clear hK K hb hZ hg
        apply wpOQ_two
        · skip
          apply wpOQ_do rfl (by kernel_rfl)
          intro K hK
          go_simp
          refine (HOW.out Z2 (HA.out.later_below HS2.out.bel)).mono ?_
          rintro e Z3 ⟨ta, tc, rfl, har, hb⟩
          unfold Ms.ag
          have HS3 := Lib.hid (HS2.out.later hb)
          have HRp3 := Lib.hid (Row.later HRp2.out hb)
          have HGa3 := Lib.hid (blk HGa2.out hb)
          have HRq3 := Lib.hid har
          have HNqa := Lib.hid (show ∀ k, (Value.slice ta M.rc.adjs.length tc).ownBlock = some k → k ≠ ga from fun k hk e => by
            have h1 := (Row.lt har k hk).1
            have h2 := (Array.getElem?_eq_some_iff.1 HGa2.out).1
            omega)
          refine hK _ _ HS3.out ?_
          clear hK K hb har
          apply wpOQ_do rfl (by kernel_rfl)
          intro K hK
          go_simp
          obtain ⟨gb, hg⟩ : ∃ g, g = Z3.heap.size := ⟨_, rfl⟩
          obtain ⟨Z4, hZ⟩ : ∃ X, X = Z3.alloc (.cells #[.int .i64 0, .int .i64 0, .int .u32 0, .int .u32 0, .int .i64 0, .bool false, .slice none 0 0, .int .i64 0, .int .u32 0, .int .u32 0, .int .i64 0, .int .i64 0, .int .u32 0, .int .i64 0, .int .i64 0, .int .i64 0, .int .u32 0, .int .u64 0, .int .u64 0, .int .u64 0, .int .u64 0, .int .i64 0, .int .i64 0, .int .i64 0, .int .u32 0, .int .u32 0, .int .u8 0, .int .i64 0, .int .u32 0, .int .i64 0, .int .u32 0, .int .u32 0] 38) := ⟨_, rfl⟩
          have hb : Below Z3.heap.size Z3 Z4 := by rw [hZ]; exact (Below.refl _ _).alloc (Nat.le_refl _) _
          have HS4 := Lib.hid (HS3.out.later hb)
          have HRp4 := Lib.hid (Row.later HRp3.out hb)
          have HRq4 := Lib.hid (Row.later HRq3.out hb)
          have HGa4 := Lib.hid (blk HGa3.out hb)
          have HGb4 := Lib.hid (show Z4.heap[gb]? = some (.cells #[.int .i64 0, .int .i64 0, .int .u32 0, .int .u32 0, .int .i64 0, .bool false, .slice none 0 0, .int .i64 0, .int .u32 0, .int .u32 0, .int .i64 0, .int .i64 0, .int .u32 0, .int .i64 0, .int .i64 0, .int .i64 0, .int .u32 0, .int .u64 0, .int .u64 0, .int .u64 0, .int .u64 0, .int .i64 0, .int .i64 0, .int .i64 0, .int .u32 0, .int .u32 0, .int .u8 0, .int .i64 0, .int .u32 0, .int .i64 0, .int .u32 0, .int .u32 0] 38 (0, 0)) by rw [hZ, hg]; exact heap_alloc_new _ _)
          have HLb := Lib.hid (show W.heap.size < gb by
            have h2 := (Array.getElem?_eq_some_iff.1 HS3.out.box).1
            omega)
          have HNpb := Lib.hid (show ∀ k, (Value.slice ra M.rc.adjs.length rc).ownBlock = some k → k ≠ gb from fun k hk e => by
            have h1 := (Row.lt HRp3.out k hk).2
            omega)
          have HNqb := Lib.hid (show ∀ k, (Value.slice ta M.rc.adjs.length tc).ownBlock = some k → k ≠ gb from fun k hk e => by
            have h1 := (Row.lt HRq3.out k hk).2
            omega)
          have HAB := Lib.hid (show ga ≠ gb from fun e => by
            have h2 := (Array.getElem?_eq_some_iff.1 HGa3.out).1
            omega)
          rw [← hZ, ← hg]
          refine hK _ _ HS4.out ?_
          clear hK K hb hZ hg
          refine wpOQ_store rfl rfl (by kernel_rfl) 38 (.tmp 3) (.tmp 10) rfl ga rfl 38 _ (M.cs ra rc) rfl HGa4.out (info_msg' M ra rc) rfl (cs_one M ra rc) (HS4.out.setRow HLa.out) ?_
          refine wpOQ_store rfl rfl (by kernel_rfl) 38 (.tmp 4) (.tmp 12) rfl gb rfl 38 _ (M.cs ta tc) rfl ((setRow_other _ ga gb _ (fun e => HAB.out e.symm)).trans HGb4.out) (info_msg' M ta tc) rfl (cs_one M ta tc) ((HS4.out.setRow HLa.out).setRow HLb.out) ?_
          refine wpOQ_nil ?_
          go_wp2_with fail
          go_meet
          exact ⟨ga, gb, ra, rc, ta, tc, rfl, rfl, tl_end HS4.out.bel HGa4.out HGb4.out HRp4.out HRq4.out HNpa.out HNpb.out HNqa.out HNqb.out HAB.out HLa.out HLb.out⟩
        · skip
          apply wpOQ_do rfl (by kernel_rfl)
          intro K hK
          go_simp
          obtain ⟨gb, hg⟩ : ∃ g, g = Z2.heap.size := ⟨_, rfl⟩
          obtain ⟨Z3, hZ⟩ : ∃ X, X = Z2.alloc (.cells #[.int .i64 0, .int .i64 0, .int .u32 0, .int .u32 0, .int .i64 0, .bool false, .slice none 0 0, .int .i64 0, .int .u32 0, .int .u32 0, .int .i64 0, .int .i64 0, .int .u32 0, .int .i64 0, .int .i64 0, .int .i64 0, .int .u32 0, .int .u64 0, .int .u64 0, .int .u64 0, .int .u64 0, .int .i64 0, .int .i64 0, .int .i64 0, .int .u32 0, .int .u32 0, .int .u8 0, .int .i64 0, .int .u32 0, .int .i64 0, .int .u32 0, .int .u32 0] 38) := ⟨_, rfl⟩
          have hb : Below Z2.heap.size Z2 Z3 := by rw [hZ]; exact (Below.refl _ _).alloc (Nat.le_refl _) _
          have HS3 := Lib.hid (HS2.out.later hb)
          have HRp3 := Lib.hid (Row.later HRp2.out hb)
          have HGa3 := Lib.hid (blk HGa2.out hb)
          have HGb3 := Lib.hid (show Z3.heap[gb]? = some (.cells #[.int .i64 0, .int .i64 0, .int .u32 0, .int .u32 0, .int .i64 0, .bool false, .slice none 0 0, .int .i64 0, .int .u32 0, .int .u32 0, .int .i64 0, .int .i64 0, .int .u32 0, .int .i64 0, .int .i64 0, .int .i64 0, .int .u32 0, .int .u64 0, .int .u64 0, .int .u64 0, .int .u64 0, .int .i64 0, .int .i64 0, .int .i64 0, .int .u32 0, .int .u32 0, .int .u8 0, .int .i64 0, .int .u32 0, .int .i64 0, .int .u32 0, .int .u32 0] 38 (0, 0)) by rw [hZ, hg]; exact heap_alloc_new _ _)
          have HLb := Lib.hid (show W.heap.size < gb by
            have h2 := (Array.getElem?_eq_some_iff.1 HS2.out.box).1
            omega)
          have HNpb := Lib.hid (show ∀ k, (Value.slice ra M.rc.adjs.length rc).ownBlock = some k → k ≠ gb from fun k hk e => by
            have h1 := (Row.lt HRp2.out k hk).2
            omega)
          have HAB := Lib.hid (show ga ≠ gb from fun e => by
            have h2 := (Array.getElem?_eq_some_iff.1 HGa2.out).1
            omega)
          rw [← hZ, ← hg]
          refine hK _ _ HS3.out ?_
          clear hK K hb hZ hg
          apply wpOQ_do rfl (by kernel_rfl)
          intro K hK
          go_simp
          refine (HOW.out Z3 (HA.out.later_below HS3.out.bel)).mono ?_
          rintro e Z4 ⟨ta, tc, rfl, har, hb⟩
          unfold Ms.ag
          have HS4 := Lib.hid (HS3.out.later hb)
          have HRp4 := Lib.hid (Row.later HRp3.out hb)
          have HGa4 := Lib.hid (blk HGa3.out hb)
          have HGb4 := Lib.hid (blk HGb3.out hb)
          have HRq4 := Lib.hid har
          have HNqa := Lib.hid (show ∀ k, (Value.slice ta M.rc.adjs.length tc).ownBlock = some k → k ≠ ga from fun k hk e => by
            have h1 := (Row.lt har k hk).1
            have h2 := (Array.getElem?_eq_some_iff.1 HGa3.out).1
            omega)
          have HNqb := Lib.hid (show ∀ k, (Value.slice ta M.rc.adjs.length tc).ownBlock = some k → k ≠ gb from fun k hk e => by
            have h1 := (Row.lt har k hk).1
            have h2 := (Array.getElem?_eq_some_iff.1 HGb3.out).1
            omega)
          refine hK _ _ HS4.out ?_
          clear hK K hb har
          refine wpOQ_store rfl rfl (by kernel_rfl) 38 (.tmp 3) (.tmp 10) rfl ga rfl 38 _ (M.cs ra rc) rfl HGa4.out (info_msg' M ra rc) rfl (cs_one M ra rc) (HS4.out.setRow HLa.out) ?_
          refine wpOQ_store rfl rfl (by kernel_rfl) 38 (.tmp 4) (.tmp 12) rfl gb rfl 38 _ (M.cs ta tc) rfl ((setRow_other _ ga gb _ (fun e => HAB.out e.symm)).trans HGb4.out) (info_msg' M ta tc) rfl (cs_one M ta tc) ((HS4.out.setRow HLa.out).setRow HLb.out) ?_
          refine wpOQ_nil ?_
          go_wp2_with fail
          go_meet
          exact ⟨ga, gb, ra, rc, ta, tc, rfl, rfl, tl_end HS4.out.bel HGa4.out HGb4.out HRp4.out HRq4.out HNpa.out HNpb.out HNqa.out HNqb.out HAB.out HLa.out HLb.out⟩
      · skip
        apply wpOQ_do rfl (by kernel_rfl)
        intro K hK
        go_simp
        obtain ⟨gb, hg⟩ : ∃ g, g = Z1.heap.size := ⟨_, rfl⟩
        obtain ⟨Z2, hZ⟩ : ∃ X, X = Z1.alloc (.cells #[.int .i64 0, .int .i64 0, .int .u32 0, .int .u32 0, .int .i64 0, .bool false, .slice none 0 0, .int .i64 0, .int .u32 0, .int .u32 0, .int .i64 0, .int .i64 0, .int .u32 0, .int .i64 0, .int .i64 0, .int .i64 0, .int .u32 0, .int .u64 0, .int .u64 0, .int .u64 0, .int .u64 0, .int .i64 0, .int .i64 0, .int .i64 0, .int .u32 0, .int .u32 0, .int .u8 0, .int .i64 0, .int .u32 0, .int .i64 0, .int .u32 0, .int .u32 0] 38) := ⟨_, rfl⟩
        have hb : Below Z1.heap.size Z1 Z2 := by rw [hZ]; exact (Below.refl _ _).alloc (Nat.le_refl _) _
        have HS2 := Lib.hid (HS1.out.later hb)
        have HRp2 := Lib.hid (Row.later HRp1.out hb)
        have HGb2 := Lib.hid (show Z2.heap[gb]? = some (.cells #[.int .i64 0, .int .i64 0, .int .u32 0, .int .u32 0, .int .i64 0, .bool false, .slice none 0 0, .int .i64 0, .int .u32 0, .int .u32 0, .int .i64 0, .int .i64 0, .int .u32 0, .int .i64 0, .int .i64 0, .int .i64 0, .int .u32 0, .int .u64 0, .int .u64 0, .int .u64 0, .int .u64 0, .int .i64 0, .int .i64 0, .int .i64 0, .int .u32 0, .int .u32 0, .int .u8 0, .int .i64 0, .int .u32 0, .int .i64 0, .int .u32 0, .int .u32 0] 38 (0, 0)) by rw [hZ, hg]; exact heap_alloc_new _ _)
        have HLb := Lib.hid (show W.heap.size < gb by
          have h2 := (Array.getElem?_eq_some_iff.1 HS1.out.box).1
          omega)
        have HNpb := Lib.hid (show ∀ k, (Value.slice ra M.rc.adjs.length rc).ownBlock = some k → k ≠ gb from fun k hk e => by
          have h1 := (Row.lt HRp1.out k hk).2
          omega)
        rw [← hZ, ← hg]
        refine hK _ _ HS2.out ?_
        clear hK K hb hZ hg
        apply wpOQ_two
        · skip
          apply wpOQ_do rfl (by kernel_rfl)
          intro K hK
          go_simp
          refine (HOW.out Z2 (HA.out.later_below HS2.out.bel)).mono ?_
          rintro e Z3 ⟨ta, tc, rfl, har, hb⟩
          unfold Ms.ag
          have HS3 := Lib.hid (HS2.out.later hb)
          have HRp3 := Lib.hid (Row.later HRp2.out hb)
          have HGb3 := Lib.hid (blk HGb2.out hb)
          have HRq3 := Lib.hid har
          have HNqb := Lib.hid (show ∀ k, (Value.slice ta M.rc.adjs.length tc).ownBlock = some k → k ≠ gb from fun k hk e => by
            have h1 := (Row.lt har k hk).1
            have h2 := (Array.getElem?_eq_some_iff.1 HGb2.out).1
            omega)
          refine hK _ _ HS3.out ?_
          clear hK K hb har
          apply wpOQ_do rfl (by kernel_rfl)
          intro K hK
          go_simp
          obtain ⟨ga, hg⟩ : ∃ g, g = Z3.heap.size := ⟨_, rfl⟩
          obtain ⟨Z4, hZ⟩ : ∃ X, X = Z3.alloc (.cells #[.int .i64 0, .int .i64 0, .int .u32 0, .int .u32 0, .int .i64 0, .bool false, .slice none 0 0, .int .i64 0, .int .u32 0, .int .u32 0, .int .i64 0, .int .i64 0, .int .u32 0, .int .i64 0, .int .i64 0, .int .i64 0, .int .u32 0, .int .u64 0, .int .u64 0, .int .u64 0, .int .u64 0, .int .i64 0, .int .i64 0, .int .i64 0, .int .u32 0, .int .u32 0, .int .u8 0, .int .i64 0, .int .u32 0, .int .i64 0, .int .u32 0, .int .u32 0] 38) := ⟨_, rfl⟩
          have hb : Below Z3.heap.size Z3 Z4 := by rw [hZ]; exact (Below.refl _ _).alloc (Nat.le_refl _) _
          have HS4 := Lib.hid (HS3.out.later hb)
          have HRp4 := Lib.hid (Row.later HRp3.out hb)
          have HRq4 := Lib.hid (Row.later HRq3.out hb)
          have HGb4 := Lib.hid (blk HGb3.out hb)
          have HGa4 := Lib.hid (show Z4.heap[ga]? = some (.cells #[.int .i64 0, .int .i64 0, .int .u32 0, .int .u32 0, .int .i64 0, .bool false, .slice none 0 0, .int .i64 0, .int .u32 0, .int .u32 0, .int .i64 0, .int .i64 0, .int .u32 0, .int .i64 0, .int .i64 0, .int .i64 0, .int .u32 0, .int .u64 0, .int .u64 0, .int .u64 0, .int .u64 0, .int .i64 0, .int .i64 0, .int .i64 0, .int .u32 0, .int .u32 0, .int .u8 0, .int .i64 0, .int .u32 0, .int .i64 0, .int .u32 0, .int .u32 0] 38 (0, 0)) by rw [hZ, hg]; exact heap_alloc_new _ _)
          have HLa := Lib.hid (show W.heap.size < ga by
            have h2 := (Array.getElem?_eq_some_iff.1 HS3.out.box).1
            omega)
          have HNpa := Lib.hid (show ∀ k, (Value.slice ra M.rc.adjs.length rc).ownBlock = some k → k ≠ ga from fun k hk e => by
            have h1 := (Row.lt HRp3.out k hk).2
            omega)
          have HNqa := Lib.hid (show ∀ k, (Value.slice ta M.rc.adjs.length tc).ownBlock = some k → k ≠ ga from fun k hk e => by
            have h1 := (Row.lt HRq3.out k hk).2
            omega)
          have HAB := Lib.hid (show ga ≠ gb from fun e => by
            have h2 := (Array.getElem?_eq_some_iff.1 HGb3.out).1
            omega)
          rw [← hZ, ← hg]
          refine hK _ _ HS4.out ?_
          clear hK K hb hZ hg
          refine wpOQ_store rfl rfl (by kernel_rfl) 38 (.tmp 3) (.tmp 10) rfl ga rfl 38 _ (M.cs ra rc) rfl HGa4.out (info_msg' M ra rc) rfl (cs_one M ra rc) (HS4.out.setRow HLa.out) ?_
          refine wpOQ_store rfl rfl (by kernel_rfl) 38 (.tmp 4) (.tmp 12) rfl gb rfl 38 _ (M.cs ta tc) rfl ((setRow_other _ ga gb _ (fun e => HAB.out e.symm)).trans HGb4.out) (info_msg' M ta tc) rfl (cs_one M ta tc) ((HS4.out.setRow HLa.out).setRow HLb.out) ?_
          refine wpOQ_nil ?_
          go_wp2_with fail
          go_meet
          exact ⟨ga, gb, ra, rc, ta, tc, rfl, rfl, tl_end HS4.out.bel HGa4.out HGb4.out HRp4.out HRq4.out HNpa.out HNpb.out HNqa.out HNqb.out HAB.out HLa.out HLb.out⟩
        · skip
          apply wpOQ_do rfl (by kernel_rfl)
          intro K hK
          go_simp
          obtain ⟨ga, hg⟩ : ∃ g, g = Z2.heap.size := ⟨_, rfl⟩
          obtain ⟨Z3, hZ⟩ : ∃ X, X = Z2.alloc (.cells #[.int .i64 0, .int .i64 0, .int .u32 0, .int .u32 0, .int .i64 0, .bool false, .slice none 0 0, .int .i64 0, .int .u32 0, .int .u32 0, .int .i64 0, .int .i64 0, .int .u32 0, .int .i64 0, .int .i64 0, .int .i64 0, .int .u32 0, .int .u64 0, .int .u64 0, .int .u64 0, .int .u64 0, .int .i64 0, .int .i64 0, .int .i64 0, .int .u32 0, .int .u32 0, .int .u8 0, .int .i64 0, .int .u32 0, .int .i64 0, .int .u32 0, .int .u32 0] 38) := ⟨_, rfl⟩
          have hb : Below Z2.heap.size Z2 Z3 := by rw [hZ]; exact (Below.refl _ _).alloc (Nat.le_refl _) _
          have HS3 := Lib.hid (HS2.out.later hb)
          have HRp3 := Lib.hid (Row.later HRp2.out hb)
          have HGb3 := Lib.hid (blk HGb2.out hb)
          have HGa3 := Lib.hid (show Z3.heap[ga]? = some (.cells #[.int .i64 0, .int .i64 0, .int .u32 0, .int .u32 0, .int .i64 0, .bool false, .slice none 0 0, .int .i64 0, .int .u32 0, .int .u32 0, .int .i64 0, .int .i64 0, .int .u32 0, .int .i64 0, .int .i64 0, .int .i64 0, .int .u32 0, .int .u64 0, .int .u64 0, .int .u64 0, .int .u64 0, .int .i64 0, .int .i64 0, .int .i64 0, .int .u32 0, .int .u32 0, .int .u8 0, .int .i64 0, .int .u32 0, .int .i64 0, .int .u32 0, .int .u32 0] 38 (0, 0)) by rw [hZ, hg]; exact heap_alloc_new _ _)
          have HLa := Lib.hid (show W.heap.size < ga by
            have h2 := (Array.getElem?_eq_some_iff.1 HS2.out.box).1
            omega)
          have HNpa := Lib.hid (show ∀ k, (Value.slice ra M.rc.adjs.length rc).ownBlock = some k → k ≠ ga from fun k hk e => by
            have h1 := (Row.lt HRp2.out k hk).2
            omega)
          have HAB := Lib.hid (show ga ≠ gb from fun e => by
            have h2 := (Array.getElem?_eq_some_iff.1 HGb2.out).1
            omega)
          rw [← hZ, ← hg]
          refine hK _ _ HS3.out ?_
          clear hK K hb hZ hg
          apply wpOQ_do rfl (by kernel_rfl)
          intro K hK
          go_simp
          refine (HOW.out Z3 (HA.out.later_below HS3.out.bel)).mono ?_
          rintro e Z4 ⟨ta, tc, rfl, har, hb⟩
          unfold Ms.ag
          have HS4 := Lib.hid (HS3.out.later hb)
          have HRp4 := Lib.hid (Row.later HRp3.out hb)
          have HGa4 := Lib.hid (blk HGa3.out hb)
          have HGb4 := Lib.hid (blk HGb3.out hb)
          have HRq4 := Lib.hid har
          have HNqa := Lib.hid (show ∀ k, (Value.slice ta M.rc.adjs.length tc).ownBlock = some k → k ≠ ga from fun k hk e => by
            have h1 := (Row.lt har k hk).1
            have h2 := (Array.getElem?_eq_some_iff.1 HGa3.out).1
            omega)
          have HNqb := Lib.hid (show ∀ k, (Value.slice ta M.rc.adjs.length tc).ownBlock = some k → k ≠ gb from fun k hk e => by
            have h1 := (Row.lt har k hk).1
            have h2 := (Array.getElem?_eq_some_iff.1 HGb3.out).1
            omega)
          refine hK _ _ HS4.out ?_
          clear hK K hb har
          refine wpOQ_store rfl rfl (by kernel_rfl) 38 (.tmp 3) (.tmp 10) rfl ga rfl 38 _ (M.cs ra rc) rfl HGa4.out (info_msg' M ra rc) rfl (cs_one M ra rc) (HS4.out.setRow HLa.out) ?_
          refine wpOQ_store rfl rfl (by kernel_rfl) 38 (.tmp 4) (.tmp 12) rfl gb rfl 38 _ (M.cs ta tc) rfl ((setRow_other _ ga gb _ (fun e => HAB.out e.symm)).trans HGb4.out) (info_msg' M ta tc) rfl (cs_one M ta tc) ((HS4.out.setRow HLa.out).setRow HLb.out) ?_
          refine wpOQ_nil ?_
          go_wp2_with fail
          go_meet
          exact ⟨ga, gb, ra, rc, ta, tc, rfl, rfl, tl_end HS4.out.bel HGa4.out HGb4.out HRp4.out HRq4.out HNpa.out HNpb.out HNqa.out HNqb.out HAB.out HLa.out HLb.out⟩
    · skip
      apply wpOQ_do rfl (by kernel_rfl)
      intro K hK
      go_simp
      obtain ⟨ga, hg⟩ : ∃ g, g = Z0.heap.size := ⟨_, rfl⟩
      obtain ⟨Z1, hZ⟩ : ∃ X, X = Z0.alloc (.cells #[.int .i64 0, .int .i64 0, .int .u32 0, .int .u32 0, .int .i64 0, .bool false, .slice none 0 0, .int .i64 0, .int .u32 0, .int .u32 0, .int .i64 0, .int .i64 0, .int .u32 0, .int .i64 0, .int .i64 0, .int .i64 0, .int .u32 0, .int .u64 0, .int .u64 0, .int .u64 0, .int .u64 0, .int .i64 0, .int .i64 0, .int .i64 0, .int .u32 0, .int .u32 0, .int .u8 0, .int .i64 0, .int .u32 0, .int .i64 0, .int .u32 0, .int .u32 0] 38) := ⟨_, rfl⟩
      have hb : Below Z0.heap.size Z0 Z1 := by rw [hZ]; exact (Below.refl _ _).alloc (Nat.le_refl _) _
      have HS1 := Lib.hid (HS0.out.later hb)
      have HGa1 := Lib.hid (show Z1.heap[ga]? = some (.cells #[.int .i64 0, .int .i64 0, .int .u32 0, .int .u32 0, .int .i64 0, .bool false, .slice none 0 0, .int .i64 0, .int .u32 0, .int .u32 0, .int .i64 0, .int .i64 0, .int .u32 0, .int .i64 0, .int .i64 0, .int .i64 0, .int .u32 0, .int .u64 0, .int .u64 0, .int .u64 0, .int .u64 0, .int .i64 0, .int .i64 0, .int .i64 0, .int .u32 0, .int .u32 0, .int .u8 0, .int .i64 0, .int .u32 0, .int .i64 0, .int .u32 0, .int .u32 0] 38 (0, 0)) by rw [hZ, hg]; exact heap_alloc_new _ _)
      have HLa := Lib.hid (show W.heap.size < ga by
        have h2 := (Array.getElem?_eq_some_iff.1 HS0.out.box).1
        omega)
      rw [← hZ, ← hg]
      refine hK _ _ HS1.out ?_
      clear hK K hb hZ hg
      apply wpOQ_two
      · skip
        apply wpOQ_do rfl (by kernel_rfl)
        intro K hK
        go_simp
        refine (HOW.out Z1 (HA.out.later_below HS1.out.bel)).mono ?_
        rintro e Z2 ⟨ra, rc, rfl, har, hb⟩
        unfold Ms.ag
        have HS2 := Lib.hid (HS1.out.later hb)
        have HGa2 := Lib.hid (blk HGa1.out hb)
        have HRp2 := Lib.hid har
        have HNpa := Lib.hid (show ∀ k, (Value.slice ra M.rc.adjs.length rc).ownBlock = some k → k ≠ ga from fun k hk e => by
          have h1 := (Row.lt har k hk).1
          have h2 := (Array.getElem?_eq_some_iff.1 HGa1.out).1
          omega)
        refine hK _ _ HS2.out ?_
        clear hK K hb har
        apply wpOQ_two
        · skip
          apply wpOQ_do rfl (by kernel_rfl)
          intro K hK
          go_simp
          refine (HOW.out Z2 (HA.out.later_below HS2.out.bel)).mono ?_
          rintro e Z3 ⟨ta, tc, rfl, har, hb⟩
          unfold Ms.ag
          have HS3 := Lib.hid (HS2.out.later hb)
          have HRp3 := Lib.hid (Row.later HRp2.out hb)
          have HGa3 := Lib.hid (blk HGa2.out hb)
          have HRq3 := Lib.hid har
          have HNqa := Lib.hid (show ∀ k, (Value.slice ta M.rc.adjs.length tc).ownBlock = some k → k ≠ ga from fun k hk e => by
            have h1 := (Row.lt har k hk).1
            have h2 := (Array.getElem?_eq_some_iff.1 HGa2.out).1
            omega)
          refine hK _ _ HS3.out ?_
          clear hK K hb har
          apply wpOQ_do rfl (by kernel_rfl)
          intro K hK
          go_simp
          obtain ⟨gb, hg⟩ : ∃ g, g = Z3.heap.size := ⟨_, rfl⟩
          obtain ⟨Z4, hZ⟩ : ∃ X, X = Z3.alloc (.cells #[.int .i64 0, .int .i64 0, .int .u32 0, .int .u32 0, .int .i64 0, .bool false, .slice none 0 0, .int .i64 0, .int .u32 0, .int .u32 0, .int .i64 0, .int .i64 0, .int .u32 0, .int .i64 0, .int .i64 0, .int .i64 0, .int .u32 0, .int .u64 0, .int .u64 0, .int .u64 0, .int .u64 0, .int .i64 0, .int .i64 0, .int .i64 0, .int .u32 0, .int .u32 0, .int .u8 0, .int .i64 0, .int .u32 0, .int .i64 0, .int .u32 0, .int .u32 0] 38) := ⟨_, rfl⟩
          have hb : Below Z3.heap.size Z3 Z4 := by rw [hZ]; exact (Below.refl _ _).alloc (Nat.le_refl _) _
          have HS4 := Lib.hid (HS3.out.later hb)
          have HRp4 := Lib.hid (Row.later HRp3.out hb)
          have HRq4 := Lib.hid (Row.later HRq3.out hb)
          have HGa4 := Lib.hid (blk HGa3.out hb)
          have HGb4 := Lib.hid (show Z4.heap[gb]? = some (.cells #[.int .i64 0, .int .i64 0, .int .u32 0, .int .u32 0, .int .i64 0, .bool false, .slice none 0 0, .int .i64 0, .int .u32 0, .int .u32 0, .int .i64 0, .int .i64 0, .int .u32 0, .int .i64 0, .int .i64 0, .int .i64 0, .int .u32 0, .int .u64 0, .int .u64 0, .int .u64 0, .int .u64 0, .int .i64 0, .int .i64 0, .int .i64 0, .int .u32 0, .int .u32 0, .int .u8 0, .int .i64 0, .int .u32 0, .int .i64 0, .int .u32 0, .int .u32 0] 38 (0, 0)) by rw [hZ, hg]; exact heap_alloc_new _ _)
          have HLb := Lib.hid (show W.heap.size < gb by
            have h2 := (Array.getElem?_eq_some_iff.1 HS3.out.box).1
            omega)
          have HNpb := Lib.hid (show ∀ k, (Value.slice ra M.rc.adjs.length rc).ownBlock = some k → k ≠ gb from fun k hk e => by
            have h1 := (Row.lt HRp3.out k hk).2
            omega)
          have HNqb := Lib.hid (show ∀ k, (Value.slice ta M.rc.adjs.length tc).ownBlock = some k → k ≠ gb from fun k hk e => by
            have h1 := (Row.lt HRq3.out k hk).2
            omega)
          have HAB := Lib.hid (show ga ≠ gb from fun e => by
            have h2 := (Array.getElem?_eq_some_iff.1 HGa3.out).1
            omega)
          rw [← hZ, ← hg]
          refine hK _ _ HS4.out ?_
          clear hK K hb hZ hg
          refine wpOQ_store rfl rfl (by kernel_rfl) 38 (.tmp 3) (.tmp 10) rfl ga rfl 38 _ (M.cs ra rc) rfl HGa4.out (info_msg' M ra rc) rfl (cs_one M ra rc) (HS4.out.setRow HLa.out) ?_
          refine wpOQ_store rfl rfl (by kernel_rfl) 38 (.tmp 4) (.tmp 12) rfl gb rfl 38 _ (M.cs ta tc) rfl ((setRow_other _ ga gb _ (fun e => HAB.out e.symm)).trans HGb4.out) (info_msg' M ta tc) rfl (cs_one M ta tc) ((HS4.out.setRow HLa.out).setRow HLb.out) ?_
          refine wpOQ_nil ?_
          go_wp2_with fail
          go_meet
          exact ⟨ga, gb, ra, rc, ta, tc, rfl, rfl, tl_end HS4.out.bel HGa4.out HGb4.out HRp4.out HRq4.out HNpa.out HNpb.out HNqa.out HNqb.out HAB.out HLa.out HLb.out⟩
        · skip
          apply wpOQ_do rfl (by kernel_rfl)
          intro K hK
          go_simp
          obtain ⟨gb, hg⟩ : ∃ g, g = Z2.heap.size := ⟨_, rfl⟩
          obtain ⟨Z3, hZ⟩ : ∃ X, X = Z2.alloc (.cells #[.int .i64 0, .int .i64 0, .int .u32 0, .int .u32 0, .int .i64 0, .bool false, .slice none 0 0, .int .i64 0, .int .u32 0, .int .u32 0, .int .i64 0, .int .i64 0, .int .u32 0, .int .i64 0, .int .i64 0, .int .i64 0, .int .u32 0, .int .u64 0, .int .u64 0, .int .u64 0, .int .u64 0, .int .i64 0, .int .i64 0, .int .i64 0, .int .u32 0, .int .u32 0, .int .u8 0, .int .i64 0, .int .u32 0, .int .i64 0, .int .u32 0, .int .u32 0] 38) := ⟨_, rfl⟩
          have hb : Below Z2.heap.size Z2 Z3 := by rw [hZ]; exact (Below.refl _ _).alloc (Nat.le_refl _) _
          have HS3 := Lib.hid (HS2.out.later hb)
          have HRp3 := Lib.hid (Row.later HRp2.out hb)
          have HGa3 := Lib.hid (blk HGa2.out hb)
          have HGb3 := Lib.hid (show Z3.heap[gb]? = some (.cells #[.int .i64 0, .int .i64 0, .int .u32 0, .int .u32 0, .int .i64 0, .bool false, .slice none 0 0, .int .i64 0, .int .u32 0, .int .u32 0, .int .i64 0, .int .i64 0, .int .u32 0, .int .i64 0, .int .i64 0, .int .i64 0, .int .u32 0, .int .u64 0, .int .u64 0, .int .u64 0, .int .u64 0, .int .i64 0, .int .i64 0, .int .i64 0, .int .u32 0, .int .u32 0, .int .u8 0, .int .i64 0, .int .u32 0, .int .i64 0, .int .u32 0, .int .u32 0] 38 (0, 0)) by rw [hZ, hg]; exact heap_alloc_new _ _)
          have HLb := Lib.hid (show W.heap.size < gb by
            have h2 := (Array.getElem?_eq_some_iff.1 HS2.out.box).1
            omega)
          have HNpb := Lib.hid (show ∀ k, (Value.slice ra M.rc.adjs.length rc).ownBlock = some k → k ≠ gb from fun k hk e => by
            have h1 := (Row.lt HRp2.out k hk).2
            omega)
          have HAB := Lib.hid (show ga ≠ gb from fun e => by
            have h2 := (Array.getElem?_eq_some_iff.1 HGa2.out).1
            omega)
          rw [← hZ, ← hg]
          refine hK _ _ HS3.out ?_
          clear hK K hb hZ hg
          apply wpOQ_do rfl (by kernel_rfl)
          intro K hK
          go_simp
          refine (HOW.out Z3 (HA.out.later_below HS3.out.bel)).mono ?_
          rintro e Z4 ⟨ta, tc, rfl, har, hb⟩
          unfold Ms.ag
          have HS4 := Lib.hid (HS3.out.later hb)
          have HRp4 := Lib.hid (Row.later HRp3.out hb)
          have HGa4 := Lib.hid (blk HGa3.out hb)
          have HGb4 := Lib.hid (blk HGb3.out hb)
          have HRq4 := Lib.hid har
          have HNqa := Lib.hid (show ∀ k, (Value.slice ta M.rc.adjs.length tc).ownBlock = some k → k ≠ ga from fun k hk e => by
            have h1 := (Row.lt har k hk).1
            have h2 := (Array.getElem?_eq_some_iff.1 HGa3.out).1
            omega)
          have HNqb := Lib.hid (show ∀ k, (Value.slice ta M.rc.adjs.length tc).ownBlock = some k → k ≠ gb from fun k hk e => by
            have h1 := (Row.lt har k hk).1
            have h2 := (Array.getElem?_eq_some_iff.1 HGb3.out).1
            omega)
          refine hK _ _ HS4.out ?_
          clear hK K hb har
          refine wpOQ_store rfl rfl (by kernel_rfl) 38 (.tmp 3) (.tmp 10) rfl ga rfl 38 _ (M.cs ra rc) rfl HGa4.out (info_msg' M ra rc) rfl (cs_one M ra rc) (HS4.out.setRow HLa.out) ?_
          refine wpOQ_store rfl rfl (by kernel_rfl) 38 (.tmp 4) (.tmp 12) rfl gb rfl 38 _ (M.cs ta tc) rfl ((setRow_other _ ga gb _ (fun e => HAB.out e.symm)).trans HGb4.out) (info_msg' M ta tc) rfl (cs_one M ta tc) ((HS4.out.setRow HLa.out).setRow HLb.out) ?_
          refine wpOQ_nil ?_
          go_wp2_with fail
          go_meet
          exact ⟨ga, gb, ra, rc, ta, tc, rfl, rfl, tl_end HS4.out.bel HGa4.out HGb4.out HRp4.out HRq4.out HNpa.out HNpb.out HNqa.out HNqb.out HAB.out HLa.out HLb.out⟩
      · skip
        apply wpOQ_do rfl (by kernel_rfl)
        intro K hK
        go_simp
        obtain ⟨gb, hg⟩ : ∃ g, g = Z1.heap.size := ⟨_, rfl⟩
        obtain ⟨Z2, hZ⟩ : ∃ X, X = Z1.alloc (.cells #[.int .i64 0, .int .i64 0, .int .u32 0, .int .u32 0, .int .i64 0, .bool false, .slice none 0 0, .int .i64 0, .int .u32 0, .int .u32 0, .int .i64 0, .int .i64 0, .int .u32 0, .int .i64 0, .int .i64 0, .int .i64 0, .int .u32 0, .int .u64 0, .int .u64 0, .int .u64 0, .int .u64 0, .int .i64 0, .int .i64 0, .int .i64 0, .int .u32 0, .int .u32 0, .int .u8 0, .int .i64 0, .int .u32 0, .int .i64 0, .int .u32 0, .int .u32 0] 38) := ⟨_, rfl⟩
        have hb : Below Z1.heap.size Z1 Z2 := by rw [hZ]; exact (Below.refl _ _).alloc (Nat.le_refl _) _
        have HS2 := Lib.hid (HS1.out.later hb)
        have HGa2 := Lib.hid (blk HGa1.out hb)
        have HGb2 := Lib.hid (show Z2.heap[gb]? = some (.cells #[.int .i64 0, .int .i64 0, .int .u32 0, .int .u32 0, .int .i64 0, .bool false, .slice none 0 0, .int .i64 0, .int .u32 0, .int .u32 0, .int .i64 0, .int .i64 0, .int .u32 0, .int .i64 0, .int .i64 0, .int .i64 0, .int .u32 0, .int .u64 0, .int .u64 0, .int .u64 0, .int .u64 0, .int .i64 0, .int .i64 0, .int .i64 0, .int .u32 0, .int .u32 0, .int .u8 0, .int .i64 0, .int .u32 0, .int .i64 0, .int .u32 0, .int .u32 0] 38 (0, 0)) by rw [hZ, hg]; exact heap_alloc_new _ _)
        have HLb := Lib.hid (show W.heap.size < gb by
          have h2 := (Array.getElem?_eq_some_iff.1 HS1.out.box).1
          omega)
        have HAB := Lib.hid (show ga ≠ gb from fun e => by
          have h2 := (Array.getElem?_eq_some_iff.1 HGa1.out).1
          omega)
        rw [← hZ, ← hg]
        refine hK _ _ HS2.out ?_
        clear hK K hb hZ hg
        apply wpOQ_do rfl (by kernel_rfl)
        intro K hK
        go_simp
        refine (HOW.out Z2 (HA.out.later_below HS2.out.bel)).mono ?_
        rintro e Z3 ⟨ra, rc, rfl, har, hb⟩
        unfold Ms.ag
        have HS3 := Lib.hid (HS2.out.later hb)
        have HGa3 := Lib.hid (blk HGa2.out hb)
        have HGb3 := Lib.hid (blk HGb2.out hb)
        have HRp3 := Lib.hid har
        have HNpa := Lib.hid (show ∀ k, (Value.slice ra M.rc.adjs.length rc).ownBlock = some k → k ≠ ga from fun k hk e => by
          have h1 := (Row.lt har k hk).1
          have h2 := (Array.getElem?_eq_some_iff.1 HGa2.out).1
          omega)
        have HNpb := Lib.hid (show ∀ k, (Value.slice ra M.rc.adjs.length rc).ownBlock = some k → k ≠ gb from fun k hk e => by
          have h1 := (Row.lt har k hk).1
          have h2 := (Array.getElem?_eq_some_iff.1 HGb2.out).1
          omega)
        refine hK _ _ HS3.out ?_
        clear hK K hb har
        apply wpOQ_do rfl (by kernel_rfl)
        intro K hK
        go_simp
        refine (HOW.out Z3 (HA.out.later_below HS3.out.bel)).mono ?_
        rintro e Z4 ⟨ta, tc, rfl, har, hb⟩
        unfold Ms.ag
        have HS4 := Lib.hid (HS3.out.later hb)
        have HRp4 := Lib.hid (Row.later HRp3.out hb)
        have HGa4 := Lib.hid (blk HGa3.out hb)
        have HGb4 := Lib.hid (blk HGb3.out hb)
        have HRq4 := Lib.hid har
        have HNqa := Lib.hid (show ∀ k, (Value.slice ta M.rc.adjs.length tc).ownBlock = some k → k ≠ ga from fun k hk e => by
          have h1 := (Row.lt har k hk).1
          have h2 := (Array.getElem?_eq_some_iff.1 HGa3.out).1
          omega)
        have HNqb := Lib.hid (show ∀ k, (Value.slice ta M.rc.adjs.length tc).ownBlock = some k → k ≠ gb from fun k hk e => by
          have h1 := (Row.lt har k hk).1
          have h2 := (Array.getElem?_eq_some_iff.1 HGb3.out).1
          omega)
        refine hK _ _ HS4.out ?_
        clear hK K hb har
        refine wpOQ_store rfl rfl (by kernel_rfl) 38 (.tmp 3) (.tmp 10) rfl ga rfl 38 _ (M.cs ra rc) rfl HGa4.out (info_msg' M ra rc) rfl (cs_one M ra rc) (HS4.out.setRow HLa.out) ?_
        refine wpOQ_store rfl rfl (by kernel_rfl) 38 (.tmp 4) (.tmp 12) rfl gb rfl 38 _ (M.cs ta tc) rfl ((setRow_other _ ga gb _ (fun e => HAB.out e.symm)).trans HGb4.out) (info_msg' M ta tc) rfl (cs_one M ta tc) ((HS4.out.setRow HLa.out).setRow HLb.out) ?_
        refine wpOQ_nil ?_
        go_wp2_with fail
        go_meet
        exact ⟨ga, gb, ra, rc, ta, tc, rfl, rfl, tl_end HS4.out.bel HGa4.out HGb4.out HRp4.out HRq4.out HNpa.out HNpb.out HNqa.out HNqb.out HAB.out HLa.out HLb.out⟩
    · skip
      apply wpOQ_do rfl (by kernel_rfl)
      intro K hK
      go_simp
      obtain ⟨gb, hg⟩ : ∃ g, g = Z0.heap.size := ⟨_, rfl⟩
      obtain ⟨Z1, hZ⟩ : ∃ X, X = Z0.alloc (.cells #[.int .i64 0, .int .i64 0, .int .u32 0, .int .u32 0, .int .i64 0, .bool false, .slice none 0 0, .int .i64 0, .int .u32 0, .int .u32 0, .int .i64 0, .int .i64 0, .int .u32 0, .int .i64 0, .int .i64 0, .int .i64 0, .int .u32 0, .int .u64 0, .int .u64 0, .int .u64 0, .int .u64 0, .int .i64 0, .int .i64 0, .int .i64 0, .int .u32 0, .int .u32 0, .int .u8 0, .int .i64 0, .int .u32 0, .int .i64 0, .int .u32 0, .int .u32 0] 38) := ⟨_, rfl⟩
      have hb : Below Z0.heap.size Z0 Z1 := by rw [hZ]; exact (Below.refl _ _).alloc (Nat.le_refl _) _
      have HS1 := Lib.hid (HS0.out.later hb)
      have HGb1 := Lib.hid (show Z1.heap[gb]? = some (.cells #[.int .i64 0, .int .i64 0, .int .u32 0, .int .u32 0, .int .i64 0, .bool false, .slice none 0 0, .int .i64 0, .int .u32 0, .int .u32 0, .int .i64 0, .int .i64 0, .int .u32 0, .int .i64 0, .int .i64 0, .int .i64 0, .int .u32 0, .int .u64 0, .int .u64 0, .int .u64 0, .int .u64 0, .int .i64 0, .int .i64 0, .int .i64 0, .int .u32 0, .int .u32 0, .int .u8 0, .int .i64 0, .int .u32 0, .int .i64 0, .int .u32 0, .int .u32 0] 38 (0, 0)) by rw [hZ, hg]; exact heap_alloc_new _ _)
      have HLb := Lib.hid (show W.heap.size < gb by
        have h2 := (Array.getElem?_eq_some_iff.1 HS0.out.box).1
        omega)
      rw [← hZ, ← hg]
      refine hK _ _ HS1.out ?_
      clear hK K hb hZ hg
      apply wpOQ_two
      · skip
        apply wpOQ_do rfl (by kernel_rfl)
        intro K hK
        go_simp
        refine (HOW.out Z1 (HA.out.later_below HS1.out.bel)).mono ?_
        rintro e Z2 ⟨ra, rc, rfl, har, hb⟩
        unfold Ms.ag
        have HS2 := Lib.hid (HS1.out.later hb)
        have HGb2 := Lib.hid (blk HGb1.out hb)
        have HRp2 := Lib.hid har
        have HNpb := Lib.hid (show ∀ k, (Value.slice ra M.rc.adjs.length rc).ownBlock = some k → k ≠ gb from fun k hk e => by
          have h1 := (Row.lt har k hk).1
          have h2 := (Array.getElem?_eq_some_iff.1 HGb1.out).1
          omega)
        refine hK _ _ HS2.out ?_
        clear hK K hb har
        apply wpOQ_two
        · skip
          apply wpOQ_do rfl (by kernel_rfl)
          intro K hK
          go_simp
          refine (HOW.out Z2 (HA.out.later_below HS2.out.bel)).mono ?_
          rintro e Z3 ⟨ta, tc, rfl, har, hb⟩
          unfold Ms.ag
          have HS3 := Lib.hid (HS2.out.later hb)
          have HRp3 := Lib.hid (Row.later HRp2.out hb)
          have HGb3 := Lib.hid (blk HGb2.out hb)
          have HRq3 := Lib.hid har
          have HNqb := Lib.hid (show ∀ k, (Value.slice ta M.rc.adjs.length tc).ownBlock = some k → k ≠ gb from fun k hk e => by
            have h1 := (Row.lt har k hk).1
            have h2 := (Array.getElem?_eq_some_iff.1 HGb2.out).1
            omega)
          refine hK _ _ HS3.out ?_
          clear hK K hb har
          apply wpOQ_do rfl (by kernel_rfl)
          intro K hK
          go_simp
          obtain ⟨ga, hg⟩ : ∃ g, g = Z3.heap.size := ⟨_, rfl⟩
          obtain ⟨Z4, hZ⟩ : ∃ X, X = Z3.alloc (.cells #[.int .i64 0, .int .i64 0, .int .u32 0, .int .u32 0, .int .i64 0, .bool false, .slice none 0 0, .int .i64 0, .int .u32 0, .int .u32 0, .int .i64 0, .int .i64 0, .int .u32 0, .int .i64 0, .int .i64 0, .int .i64 0, .int .u32 0, .int .u64 0, .int .u64 0, .int .u64 0, .int .u64 0, .int .i64 0, .int .i64 0, .int .i64 0, .int .u32 0, .int .u32 0, .int .u8 0, .int .i64 0, .int .u32 0, .int .i64 0, .int .u32 0, .int .u32 0] 38) := ⟨_, rfl⟩
          have hb : Below Z3.heap.size Z3 Z4 := by rw [hZ]; exact (Below.refl _ _).alloc (Nat.le_refl _) _
          have HS4 := Lib.hid (HS3.out.later hb)
          have HRp4 := Lib.hid (Row.later HRp3.out hb)
          have HRq4 := Lib.hid (Row.later HRq3.out hb)
          have HGb4 := Lib.hid (blk HGb3.out hb)
          have HGa4 := Lib.hid (show Z4.heap[ga]? = some (.cells #[.int .i64 0, .int .i64 0, .int .u32 0, .int .u32 0, .int .i64 0, .bool false, .slice none 0 0, .int .i64 0, .int .u32 0, .int .u32 0, .int .i64 0, .int .i64 0, .int .u32 0, .int .i64 0, .int .i64 0, .int .i64 0, .int .u32 0, .int .u64 0, .int .u64 0, .int .u64 0, .int .u64 0, .int .i64 0, .int .i64 0, .int .i64 0, .int .u32 0, .int .u32 0, .int .u8 0, .int .i64 0, .int .u32 0, .int .i64 0, .int .u32 0, .int .u32 0] 38 (0, 0)) by rw [hZ, hg]; exact heap_alloc_new _ _)
          have HLa := Lib.hid (show W.heap.size < ga by
            have h2 := (Array.getElem?_eq_some_iff.1 HS3.out.box).1
            omega)
          have HNpa := Lib.hid (show ∀ k, (Value.slice ra M.rc.adjs.length rc).ownBlock = some k → k ≠ ga from fun k hk e => by
            have h1 := (Row.lt HRp3.out k hk).2
            omega)
          have HNqa := Lib.hid (show ∀ k, (Value.slice ta M.rc.adjs.length tc).ownBlock = some k → k ≠ ga from fun k hk e => by
            have h1 := (Row.lt HRq3.out k hk).2
            omega)
          have HAB := Lib.hid (show ga ≠ gb from fun e => by
            have h2 := (Array.getElem?_eq_some_iff.1 HGb3.out).1
            omega)
          rw [← hZ, ← hg]
          refine hK _ _ HS4.out ?_
          clear hK K hb hZ hg
          refine wpOQ_store rfl rfl (by kernel_rfl) 38 (.tmp 3) (.tmp 10) rfl ga rfl 38 _ (M.cs ra rc) rfl HGa4.out (info_msg' M ra rc) rfl (cs_one M ra rc) (HS4.out.setRow HLa.out) ?_
          refine wpOQ_store rfl rfl (by kernel_rfl) 38 (.tmp 4) (.tmp 12) rfl gb rfl 38 _ (M.cs ta tc) rfl ((setRow_other _ ga gb _ (fun e => HAB.out e.symm)).trans HGb4.out) (info_msg' M ta tc) rfl (cs_one M ta tc) ((HS4.out.setRow HLa.out).setRow HLb.out) ?_
          refine wpOQ_nil ?_
          go_wp2_with fail
          go_meet
          exact ⟨ga, gb, ra, rc, ta, tc, rfl, rfl, tl_end HS4.out.bel HGa4.out HGb4.out HRp4.out HRq4.out HNpa.out HNpb.out HNqa.out HNqb.out HAB.out HLa.out HLb.out⟩
        · skip
          apply wpOQ_do rfl (by kernel_rfl)
          intro K hK
          go_simp
          obtain ⟨ga, hg⟩ : ∃ g, g = Z2.heap.size := ⟨_, rfl⟩
          obtain ⟨Z3, hZ⟩ : ∃ X, X = Z2.alloc (.cells #[.int .i64 0, .int .i64 0, .int .u32 0, .int .u32 0, .int .i64 0, .bool false, .slice none 0 0, .int .i64 0, .int .u32 0, .int .u32 0, .int .i64 0, .int .i64 0, .int .u32 0, .int .i64 0, .int .i64 0, .int .i64 0, .int .u32 0, .int .u64 0, .int .u64 0, .int .u64 0, .int .u64 0, .int .i64 0, .int .i64 0, .int .i64 0, .int .u32 0, .int .u32 0, .int .u8 0, .int .i64 0, .int .u32 0, .int .i64 0, .int .u32 0, .int .u32 0] 38) := ⟨_, rfl⟩
          have hb : Below Z2.heap.size Z2 Z3 := by rw [hZ]; exact (Below.refl _ _).alloc (Nat.le_refl _) _
          have HS3 := Lib.hid (HS2.out.later hb)
          have HRp3 := Lib.hid (Row.later HRp2.out hb)
          have HGb3 := Lib.hid (blk HGb2.out hb)
          have HGa3 := Lib.hid (show Z3.heap[ga]? = some (.cells #[.int .i64 0, .int .i64 0, .int .u32 0, .int .u32 0, .int .i64 0, .bool false, .slice none 0 0, .int .i64 0, .int .u32 0, .int .u32 0, .int .i64 0, .int .i64 0, .int .u32 0, .int .i64 0, .int .i64 0, .int .i64 0, .int .u32 0, .int .u64 0, .int .u64 0, .int .u64 0, .int .u64 0, .int .i64 0, .int .i64 0, .int .i64 0, .int .u32 0, .int .u32 0, .int .u8 0, .int .i64 0, .int .u32 0, .int .i64 0, .int .u32 0, .int .u32 0] 38 (0, 0)) by rw [hZ, hg]; exact heap_alloc_new _ _)
          have HLa := Lib.hid (show W.heap.size < ga by
            have h2 := (Array.getElem?_eq_some_iff.1 HS2.out.box).1
            omega)
          have HNpa := Lib.hid (show ∀ k, (Value.slice ra M.rc.adjs.length rc).ownBlock = some k → k ≠ ga from fun k hk e => by
            have h1 := (Row.lt HRp2.out k hk).2
            omega)
          have HAB := Lib.hid (show ga ≠ gb from fun e => by
            have h2 := (Array.getElem?_eq_some_iff.1 HGb2.out).1
            omega)
          rw [← hZ, ← hg]
          refine hK _ _ HS3.out ?_
          clear hK K hb hZ hg
          apply wpOQ_do rfl (by kernel_rfl)
          intro K hK
          go_simp
          refine (HOW.out Z3 (HA.out.later_below HS3.out.bel)).mono ?_
          rintro e Z4 ⟨ta, tc, rfl, har, hb⟩
          unfold Ms.ag
          have HS4 := Lib.hid (HS3.out.later hb)
          have HRp4 := Lib.hid (Row.later HRp3.out hb)
          have HGa4 := Lib.hid (blk HGa3.out hb)
          have HGb4 := Lib.hid (blk HGb3.out hb)
          have HRq4 := Lib.hid har
          have HNqa := Lib.hid (show ∀ k, (Value.slice ta M.rc.adjs.length tc).ownBlock = some k → k ≠ ga from fun k hk e => by
            have h1 := (Row.lt har k hk).1
            have h2 := (Array.getElem?_eq_some_iff.1 HGa3.out).1
            omega)
          have HNqb := Lib.hid (show ∀ k, (Value.slice ta M.rc.adjs.length tc).ownBlock = some k → k ≠ gb from fun k hk e => by
            have h1 := (Row.lt har k hk).1
            have h2 := (Array.getElem?_eq_some_iff.1 HGb3.out).1
            omega)
          refine hK _ _ HS4.out ?_
          clear hK K hb har
          refine wpOQ_store rfl rfl (by kernel_rfl) 38 (.tmp 3) (.tmp 10) rfl ga rfl 38 _ (M.cs ra rc) rfl HGa4.out (info_msg' M ra rc) rfl (cs_one M ra rc) (HS4.out.setRow HLa.out) ?_
          refine wpOQ_store rfl rfl (by kernel_rfl) 38 (.tmp 4) (.tmp 12) rfl gb rfl 38 _ (M.cs ta tc) rfl ((setRow_other _ ga gb _ (fun e => HAB.out e.symm)).trans HGb4.out) (info_msg' M ta tc) rfl (cs_one M ta tc) ((HS4.out.setRow HLa.out).setRow HLb.out) ?_
          refine wpOQ_nil ?_
          go_wp2_with fail
          go_meet
          exact ⟨ga, gb, ra, rc, ta, tc, rfl, rfl, tl_end HS4.out.bel HGa4.out HGb4.out HRp4.out HRq4.out HNpa.out HNpb.out HNqa.out HNqb.out HAB.out HLa.out HLb.out⟩
      · skip
        apply wpOQ_do rfl (by kernel_rfl)
        intro K hK
        go_simp
        obtain ⟨ga, hg⟩ : ∃ g, g = Z1.heap.size := ⟨_, rfl⟩
        obtain ⟨Z2, hZ⟩ : ∃ X, X = Z1.alloc (.cells #[.int .i64 0, .int .i64 0, .int .u32 0, .int .u32 0, .int .i64 0, .bool false, .slice none 0 0, .int .i64 0, .int .u32 0, .int .u32 0, .int .i64 0, .int .i64 0, .int .u32 0, .int .i64 0, .int .i64 0, .int .i64 0, .int .u32 0, .int .u64 0, .int .u64 0, .int .u64 0, .int .u64 0, .int .i64 0, .int .i64 0, .int .i64 0, .int .u32 0, .int .u32 0, .int .u8 0, .int .i64 0, .int .u32 0, .int .i64 0, .int .u32 0, .int .u32 0] 38) := ⟨_, rfl⟩
        have hb : Below Z1.heap.size Z1 Z2 := by rw [hZ]; exact (Below.refl _ _).alloc (Nat.le_refl _) _
        have HS2 := Lib.hid (HS1.out.later hb)
        have HGb2 := Lib.hid (blk HGb1.out hb)
        have HGa2 := Lib.hid (show Z2.heap[ga]? = some (.cells #[.int .i64 0, .int .i64 0, .int .u32 0, .int .u32 0, .int .i64 0, .bool false, .slice none 0 0, .int .i64 0, .int .u32 0, .int .u32 0, .int .i64 0, .int .i64 0, .int .u32 0, .int .i64 0, .int .i64 0, .int .i64 0, .int .u32 0, .int .u64 0, .int .u64 0, .int .u64 0, .int .u64 0, .int .i64 0, .int .i64 0, .int .i64 0, .int .u32 0, .int .u32 0, .int .u8 0, .int .i64 0, .int .u32 0, .int .i64 0, .int .u32 0, .int .u32 0] 38 (0, 0)) by rw [hZ, hg]; exact heap_alloc_new _ _)
        have HLa := Lib.hid (show W.heap.size < ga by
          have h2 := (Array.getElem?_eq_some_iff.1 HS1.out.box).1
          omega)
        have HAB := Lib.hid (show ga ≠ gb from fun e => by
          have h2 := (Array.getElem?_eq_some_iff.1 HGb1.out).1
          omega)
        rw [← hZ, ← hg]
        refine hK _ _ HS2.out ?_
        clear hK K hb hZ hg
        apply wpOQ_do rfl (by kernel_rfl)
        intro K hK
        go_simp
        refine (HOW.out Z2 (HA.out.later_below HS2.out.bel)).mono ?_
        rintro e Z3 ⟨ra, rc, rfl, har, hb⟩
        unfold Ms.ag
        have HS3 := Lib.hid (HS2.out.later hb)
        have HGa3 := Lib.hid (blk HGa2.out hb)
        have HGb3 := Lib.hid (blk HGb2.out hb)
        have HRp3 := Lib.hid har
        have HNpa := Lib.hid (show ∀ k, (Value.slice ra M.rc.adjs.length rc).ownBlock = some k → k ≠ ga from fun k hk e => by
          have h1 := (Row.lt har k hk).1
          have h2 := (Array.getElem?_eq_some_iff.1 HGa2.out).1
          omega)
        have HNpb := Lib.hid (show ∀ k, (Value.slice ra M.rc.adjs.length rc).ownBlock = some k → k ≠ gb from fun k hk e => by
          have h1 := (Row.lt har k hk).1
          have h2 := (Array.getElem?_eq_some_iff.1 HGb2.out).1
          omega)
        refine hK _ _ HS3.out ?_
        clear hK K hb har
        apply wpOQ_do rfl (by kernel_rfl)
        intro K hK
        go_simp
        refine (HOW.out Z3 (HA.out.later_below HS3.out.bel)).mono ?_
        rintro e Z4 ⟨ta, tc, rfl, har, hb⟩
        unfold Ms.ag
        have HS4 := Lib.hid (HS3.out.later hb)
        have HRp4 := Lib.hid (Row.later HRp3.out hb)
        have HGa4 := Lib.hid (blk HGa3.out hb)
        have HGb4 := Lib.hid (blk HGb3.out hb)
        have HRq4 := Lib.hid har
        have HNqa := Lib.hid (show ∀ k, (Value.slice ta M.rc.adjs.length tc).ownBlock = some k → k ≠ ga from fun k hk e => by
          have h1 := (Row.lt har k hk).1
          have h2 := (Array.getElem?_eq_some_iff.1 HGa3.out).1
          omega)
        have HNqb := Lib.hid (show ∀ k, (Value.slice ta M.rc.adjs.length tc).ownBlock = some k → k ≠ gb from fun k hk e => by
          have h1 := (Row.lt har k hk).1
          have h2 := (Array.getElem?_eq_some_iff.1 HGb3.out).1
          omega)
        refine hK _ _ HS4.out ?_
        clear hK K hb har
        refine wpOQ_store rfl rfl (by kernel_rfl) 38 (.tmp 3) (.tmp 10) rfl ga rfl 38 _ (M.cs ra rc) rfl HGa4.out (info_msg' M ra rc) rfl (cs_one M ra rc) (HS4.out.setRow HLa.out) ?_
        refine wpOQ_store rfl rfl (by kernel_rfl) 38 (.tmp 4) (.tmp 12) rfl gb rfl 38 _ (M.cs ta tc) rfl ((setRow_other _ ga gb _ (fun e => HAB.out e.symm)).trans HGb4.out) (info_msg' M ta tc) rfl (cs_one M ta tc) ((HS4.out.setRow HLa.out).setRow HLb.out) ?_
        refine wpOQ_nil ?_
        go_wp2_with fail
        go_meet
        exact ⟨ga, gb, ra, rc, ta, tc, rfl, rfl, tl_end HS4.out.bel HGa4.out HGb4.out HRp4.out HRq4.out HNpa.out HNpb.out HNqa.out HNqb.out HAB.out HLa.out HLb.out⟩
  case rest =>
    obtain ⟨g1, g2, ra, rc, ta, tc, rfl, rfl, hR⟩ := hcut
    have HR0 := Lib.hid hR
    have HC1 := Lib.hid (block_cells hR.b1)
    have HI1 := Lib.hid (info_msg M ra rc)
    have HI2 := Lib.hid (info_msg M ta tc)
    clear hR
    go_wp2_with ((with_reducible refine wpList_load_cs rfl 38 (.tmp 3) rfl ⟨g1, 0, none⟩ rfl (M.cs ra rc).toList _ HC1.out Try.underlying38 rfl HI1.out ?_); rw [Array.toArray_toList])
    refine (HEN.out _ _ _ HR0.out.a1).mono ?_
    rintro e V1 ⟨rfl, hb⟩
    have HR1 := Lib.hid (HR0.out.later hb)
    have HC2 := Lib.hid (block_cells HR1.out.b2)
    clear hb
    go_wp2_with ((with_reducible refine wpList_load_cs rfl 38 (.tmp 4) rfl ⟨g2, 0, none⟩ rfl (M.cs ta tc).toList _ HC2.out Try.underlying38 rfl HI2.out ?_); rw [Array.toArray_toList])
    refine (HRE.out _ _ _ HR1.out.a2).mono ?_
    rintro e V2 ⟨rfl, hb⟩
    have HR2 := Lib.hid (HR1.out.later hb)
    clear hb
    go_wp2_with fail
    obtain ⟨V3, hU⟩ : ∃ X, X = V2.drew := ⟨_, rfl⟩
    have HR3 := Lib.hid (show TlR W M g1 g2 ra rc ta tc V3 by rw [hU]; exact HR2.out.later (drew_below _))
    have HUE := Lib.hid hU
    clear hU
    refine wp_region_ord [(0, true), (2, true), (1, false), (3, false), (4, true), (5, true), (6, true), (7, true), (8, true), (9, true), (10, true), (11, true), (12, true), (13, true), (14, true), (15, true), (16, true), (17, true), (18, false), (19, true), (20, true), (21, false), (22, true), (23, true)] (TlR W M g1 g2 ra rc ta tc) (by kernel_rfl) (by kernel_rfl) (by decide) (by kernel_rfl) (fun d _ _ _ _ h => by cases d <;> exact h) (by rw [← HUE.out]; exact HR3.out) ?_
    rw [← HUE.out]
    ((apply wpOrd_take rfl rfl (by kernel_rfl); (intro V hV; exact run_load_cs _ _ 38 (.tmp 3) rfl ⟨g1, 0, none⟩ rfl (M.cs ra rc).toList _ (block_cells hV.b1) Try.underlying38 rfl (info_msg M ra rc))); (try simp only [List.setIfInBounds_toArray, List.set_cons_succ, List.set_cons_zero])); rw [Array.toArray_toList]
    ((apply wpOrd_take rfl rfl (by kernel_rfl); (intro V hV; exact run_load_cs _ _ 38 (.tmp 4) rfl ⟨g2, 0, none⟩ rfl (M.cs ta tc).toList _ (block_cells hV.b2) Try.underlying38 rfl (info_msg M ta tc))); (try simp only [List.setIfInBounds_toArray, List.set_cons_succ, List.set_cons_zero])); rw [Array.toArray_toList]
    apply wpOrd_do rfl (by kernel_rfl)
    intro K hK
    go_simp
    refine (HCK.out _ _ _ HR3.out.a1).mono ?_
    rintro e V4 ⟨rfl, hb⟩
    have HR4 := Lib.hid (HR3.out.later hb)
    refine hK _ _ HR4.out ?_
    clear hK K hb
    apply wpOrd_do rfl (by kernel_rfl)
    intro K hK
    go_simp
    refine (HRC.out _ _ _ HR4.out.a2).mono ?_
    rintro e V5 ⟨rfl, hb⟩
    have HR5 := Lib.hid (HR4.out.later hb)
    refine hK _ _ HR5.out ?_
    clear hK K hb
    iterate 12 ((apply wpOrd_take rfl rfl (by kernel_rfl); (intro V hV; go_simp; rfl)); (try simp only [List.setIfInBounds_toArray, List.set_cons_succ, List.set_cons_zero]))
    ((apply wpOrd_take rfl rfl (by kernel_rfl); (intro V hV; exact run_load_cs _ _ 38 (.tmp 3) rfl ⟨g1, 0, none⟩ rfl (M.cs ra rc).toList _ (block_cells hV.b1) Try.underlying38 rfl (info_msg M ra rc))); (try simp only [List.setIfInBounds_toArray, List.set_cons_succ, List.set_cons_zero])); rw [Array.toArray_toList]
    ((apply wpOrd_take rfl rfl (by kernel_rfl); (intro V hV; exact run_load_cs _ _ 38 (.tmp 4) rfl ⟨g2, 0, none⟩ rfl (M.cs ta tc).toList _ (block_cells hV.b2) Try.underlying38 rfl (info_msg M ta tc))); (try simp only [List.setIfInBounds_toArray, List.set_cons_succ, List.set_cons_zero])); rw [Array.toArray_toList]
    apply wpOrd_do rfl (by kernel_rfl)
    intro K hK
    go_simp
    refine (HSM.out _ _ _ _ _ HR5.out.a1 HR5.out.a2).mono ?_
    rintro e V6 ⟨rfl, hb⟩
    have HR6 := Lib.hid (HR5.out.later hb)
    refine hK _ _ HR6.out ?_
    clear hK K hb
    iterate 2 ((apply wpOrd_take rfl rfl (by kernel_rfl); (intro V hV; go_simp; rfl)); (try simp only [List.setIfInBounds_toArray, List.set_cons_succ, List.set_cons_zero]))
    apply wpOrd_do rfl (by kernel_rfl)
    intro K hK
    go_simp
    refine (works_any _).mono ?_
    rintro e V7 ⟨rfl, hb⟩
    have HR7 := Lib.hid (HR6.out.later hb)
    refine hK _ _ HR7.out ?_
    clear hK K hb
    iterate 2 ((apply wpOrd_take rfl rfl (by kernel_rfl); (intro V hV; go_simp; rfl)); (try simp only [List.setIfInBounds_toArray, List.set_cons_succ, List.set_cons_zero]))
    refine wpOrd_nil ?_
    go_wp2_with fail
    go_returns
    exact ⟨rfl, HR7.out.bel⟩

theorem msgTells_walk (x : Ms × Option Addr × Nat) (w : World) (hx : MOpen w x) :
    Calls Try.prog 3 #[x.1.ag x.2.1 x.2.2] w fun e w' => e = .returned (.bool true) ∧ Below w.heap.size w w' := by
  have hok := hx.1
  have hl : x.1.cut.rc.adjs.length ≤ maxLen := by rw [Ms.cut_len]; unfold maxLen; omega
  exact tells_walk x.1 x.2.1 x.2.2 w hx.2.1 x.1.cut (fun V h => owned_any x w V hx h) (fun V ta tc h => mencode_any x.1.cut ta tc V (Ms.cut_ok hok) h hl) (fun V ta tc h => rmencode_any x.1.cut ta tc V (Ms.cut_ok hok) h hl)
    (fun V ta tc h => mcheck_any x.1.cut ta tc V (Ms.cut_ok hok) h hl) (fun V ta tc h => rmcheck_any x.1.cut ta tc V (Ms.cut_ok hok) h hl) (fun V ra rc ta tc h1 h2 => rmsame_any x.1.cut ra rc ta tc V (Ms.cut_ok hok) h1 h2 hl)

end Go.Proofs.Ytickjmkkgcfkhaa
