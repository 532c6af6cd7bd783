import Derived.Test.YtickjmkkgcfkhaaGreatRecE
import Derived.Test.YtickjmkkgcfkhaaGreatWireG1
/- Contracts of the reference's record: numbers laid; stamps' bytes. -/
set_option linter.unusedSimpArgs false
set_option linter.unusedVariables false
set_option maxRecDepth 100000
namespace Go.Proofs.YtickjmkkgcfkhaaGreat
open Go.RowKit Go.ChangeShapes Go.WideShapes

def pairV (vs : List (Nat × Nat)) : List Value := vs.flatMap fun x => [Value.int .u64 (x.1 : Int), Value.int .u64 (x.2 : Int)]
def pairB (vs : List (Nat × Nat)) : List UInt8 := vs.flatMap fun x => nb x.1 x.2
def pairOk (vs : List (Nat × Nat)) : Prop := ∀ x ∈ vs, (x.2 = 1 ∨ x.2 = 2 ∨ x.2 = 4 ∨ x.2 = 8) ∧ x.1 < 2 ^ (8 * x.2)
theorem pairV_get : ∀ (vs : List (Nat × Nat)) (k : Nat), k < vs.length → (pairV vs)[2 * k]? = some (.int .u64 ((vs.getD k default).1 : Nat)) ∧ (pairV vs)[2 * k + 1]? = some (.int .u64 ((vs.getD k default).2 : Nat))
  | [], _, h => by simp at h
  | x :: l, 0, _ => ⟨rfl, rfl⟩
  | x :: l, k + 1, h => by
    have ih := pairV_get l k (by simpa using h)
    have e : pairV (x :: l) = [Value.int .u64 (x.1 : Int), Value.int .u64 (x.2 : Int)] ++ pairV l := rfl
    rw [e, show 2 * (k + 1) = 2 * k + 2 from by omega, show 2 * k + 2 + 1 = (2 * k + 1) + 2 from by omega]
    exact ⟨ih.1, ih.2⟩
theorem pairB_len : ∀ vs : List (Nat × Nat), pairOk vs → (pairB vs).length ≤ 8 * vs.length
  | [], _ => Nat.le_refl _
  | x :: l, h => by
    have ih := pairB_len l fun y hy => h y (by simp [hy])
    have hx := (h x (by simp)).1
    show (nb x.1 x.2 ++ pairB l).length ≤ _
    rw [List.length_append, nb_len, List.length_cons]; omega
def PutsRel (W : World) (g : Nat) (vs : List (Nat × Nat)) (s i : Value) (wr : World) : Prop :=
  ∃ k : Nat, i = .int .i64 (2 * (k : Int)) ∧ s = .string (bs (pairB (vs.take k))) ∧ k ≤ vs.length ∧ wr.heap[g]? = some (.cells (pairV vs).toArray 28 (0, 0)) ∧ Below W.heap.size W wr
set_option maxRecDepth 100000 in
set_option maxHeartbeats 1600000 in
theorem puts_any (g n : Nat) (vs : List (Nat × Nat)) (W : World) (hn : n = 2 * vs.length) (hg : W.heap[g]? = some (.cells (pairV vs).toArray 28 (0, 0))) (hok : pairOk vs) (hl : vs.length ≤ 1000) :
    Calls Tryz.prog 72 #[.slice (some ⟨g, 0, none⟩) n n] W fun e W' => e = .returned (.string (bs (pairB vs))) ∧ Below W.heap.size W W' := by
  have h0 : PutsRel W g vs (.string (bs [])) (.int .i64 0) W := ⟨0, rfl, rfl, Nat.zero_le _, hg, Below.refl _ _⟩
  have hbs : (⟨#[]⟩ : ByteArray) = bs [] := rfl
  have hn2 : n ≤ 2000 := by omega
  have H0 := Lib.hid h0
  have HN := Lib.hid hn
  have HOK := Lib.hid hok
  clear h0 hg hok hn
  go_enter Tryz.func72, Tryz.ntmps72
  go_wp2_with fail
  go_loopw [3, 4] (fun s i wr => PutsRel W g vs s i wr) (fun _ i _ => 2001 - (intOf i).toNat)
  case atStart => exact H0.out
  case round =>
    obtain ⟨k, rfl, rfl, hk, hg, hb⟩ := hrel
    by_cases hlt : k < vs.length
    · obtain ⟨c0, c1⟩ := pairV_get vs k hlt
      obtain ⟨x, hx⟩ : ∃ x, x = vs.getD k default := ⟨_, rfl⟩
      have hmem : x ∈ vs := by rw [hx, List.getD_eq_getElem?_getD, List.getElem?_eq_getElem hlt]; exact List.getElem_mem hlt
      obtain ⟨hm, hv⟩ := HOK.out x hmem
      rw [← hx] at c0 c1
      obtain ⟨i, hi⟩ : ∃ i, i = 2 * k := ⟨_, rfl⟩
      have hii : 2 * (k : Int) = (i : Int) := by omega
      rw [← hi] at c0 c1
      have hin : (i : Int) + 1 < (n : Int) := by have := HN.out; omega
      have hin0 : (i : Int) < (n : Int) := by omega
      have hw1 : IntKind.i64.wrap ((i : Int) + 1) = ((i + 1 : Nat) : Int) := by rw [IntWalk.i64_in _ (by omega)]; omega
      have hd1 : decide ((i : Int) + 1 < (n : Int)) = true := decide_eq_true hin
      have hm1 : IntKind.i64.wrap (x.2 : Int) = (x.2 : Int) := IntWalk.i64_in _ (by omega)
      have hlen := pairB_len (vs.take k) (fun y hy => HOK.out y (List.mem_of_mem_take hy))
      have hlt' : (vs.take k).length ≤ 1000 := by rw [List.length_take]; omega
      have HP := Lib.hid (fun V => rput_yes (bs (pairB (vs.take k))) x.1 x.2 V hm hv (by rw [bs_size]; omega))
      have HT := Lib.hid (show pairB (vs.take (k + 1)) = pairB (vs.take k) ++ nb x.1 x.2 by
        rw [List.take_succ_eq_append_getElem hlt]
        rw [List.getD_eq_getElem?_getD, List.getElem?_eq_getElem hlt, Option.getD_some] at hx
        rw [← hx]
        simp [pairB])
      have HS := Lib.hid (show wr.drew.heap[g]? = some (.cells (pairV vs).toArray 28 (0, 0)) ∧ Below W.heap.size W wr.drew from ⟨hg, hb.trans ⟨rfl, rfl, rfl, Nat.le_refl _, fun _ _ => rfl⟩⟩)
      have HC := Lib.hid (show ∀ V : World, V.heap[g]? = some (.cells (pairV vs).toArray 28 (0, 0)) → V.cell? ⟨g, i, none⟩ = some (.int .u64 (x.1 : Nat)) ∧ V.cell? ⟨g, i + 1, none⟩ = some (.int .u64 (x.2 : Nat)) from fun V hV => ⟨(cell_of_row _ _ _ _ _ _ hV).trans (by rw [List.getElem?_toArray]; exact c0), (cell_of_row _ _ _ _ _ _ hV).trans (by rw [List.getElem?_toArray]; exact c1)⟩)
      have HI := Lib.hid hi
      clear c0 c1 hx hmem hm hv hlen hlt' hg hb hi
      go_wp2_with fail
      refine wp_region_ord [(0, true), (1, true), (2, true), (3, true), (4, true), (5, true), (6, true), (7, true), (8, true), (9, true), (10, true), (11, false), (12, true), (13, true), (14, true), (15, true)] (fun V => V.heap[g]? = some (.cells (pairV vs).toArray 28 (0, 0)) ∧ Below W.heap.size W V) (by kernel_rfl) (by kernel_rfl) (by decide) (by kernel_rfl) (fun d _ _ _ _ h => by cases d <;> exact h) HS.out ?_
      iterate 11 ((apply wpOrd_take rfl rfl (by kernel_rfl); (intro V hV; obtain ⟨y0, y1⟩ := HC.out V hV.1; go_simp; rfl)); (try simp only [List.setIfInBounds_toArray, List.set_cons_succ, List.set_cons_zero]))
      apply wpOrd_do rfl (by kernel_rfl)
      intro K hK
      go_simp
      refine (HP.out _).mono ?_
      rintro e V ⟨rfl, hb⟩
      have HSV := Lib.hid (show V.heap[g]? = some (.cells (pairV vs).toArray 28 (0, 0)) ∧ Below W.heap.size W V from ⟨(hb.block _ (Array.getElem?_eq_some_iff.1 HS.out.1).1).trans HS.out.1, HS.out.2.trans (hb.mono HS.out.2.size)⟩)
      refine hK _ _ HSV.out ?_
      clear hK K hb
      iterate 4 ((apply wpOrd_take rfl rfl (by kernel_rfl); (intro V hV; go_simp; rfl)); (try simp only [List.setIfInBounds_toArray, List.set_cons_succ, List.set_cons_zero]))
      refine wpOrd_nil ?_
      have HR := Lib.hid (show PutsRel W g vs (.string (bs (pairB (vs.take k) ++ nb x.1 x.2))) (.int .i64 ((i : Int) + 2)) V from ⟨k + 1, by have := HI.out; congr 1; omega, by rw [HT.out], hlt, HSV.out.1, HSV.out.2⟩)
      go_wp2_with fail
      go_roundw
      case rel => first | exact HR.out | ((repeat apply Exists.intro); exact ⟨HR.out, rfl⟩)
      case measure => simp [intOf]; omega
    · obtain rfl : k = vs.length := by omega
      obtain ⟨i, hi⟩ : ∃ i, i = 2 * vs.length := ⟨_, rfl⟩
      have hii : 2 * (vs.length : Int) = (i : Int) := by omega
      have hd1 : decide ((i : Int) + 1 < (n : Int)) = false := decide_eq_false (by have := HN.out; omega)
      have hin : ¬ ((i : Int) + 1 < (n : Int)) := by have := HN.out; omega
      have HT := Lib.hid (show pairB (vs.take vs.length) = pairB vs by rw [List.take_length])
      have HB := Lib.hid hb
      have hi2 : i ≤ 2000 := by omega
      clear hg hb hlt hi
      go_wp2_with fail
      go_returns
      exact ⟨by rw [← HT.out]; rfl, HB.out⟩

end Go.Proofs.YtickjmkkgcfkhaaGreat

/- Contracts of the record: the reference's bytes of a record; stamps' bytes. -/
set_option linter.unusedSimpArgs false
set_option linter.unusedVariables false
set_option maxRecDepth 100000
namespace Go.Proofs.YtickjmkkgcfkhaaGreat
open Go.RowKit Go.ChangeShapes Go.WideShapes

set_option maxRecDepth 100000 in
set_option maxHeartbeats 3200000 in
theorem rencode_no (r : Rc) (sa : Option Addr) (sc : Nat) (W : World) (hA : AdjsIn W sa r.adjs) (hl : r.adjs.length ≤ maxLen) (hc : r.chk = false) :
    Calls Tryz.prog 28 #[r.ag sa sc] W fun e W' => e = .returned (.tuple #[.string (bs []), .int .i64 2]) ∧ Below W.heap.size W W' := by
  obtain ⟨W1, hW1⟩ : ∃ W1, W1 = W.alloc (.cells (r.cs sa sc) 25) := ⟨_, rfl⟩
  have hb1 : Below W.heap.size W W1 := by rw [hW1]; exact (Below.refl _ _).alloc (Nat.le_refl _) _
  have HCH := Lib.hid (rcheck_any r sa sc W1 (hA.later hb1) hl)
  have HE := Lib.hid (show r.err = 2 by unfold Rc.err; rw [hc]; rfl)
  have HW1 := Lib.hid hW1
  have HB1 := Lib.hid hb1
  clear hW1 hb1 hA hc
  go_enter Tryz.func28, Tryz.ntmps28
  unfold Rc.ag Rc.cs at *
  go_wp2_with fail
  rw [← HW1.out]
  refine HCH.out.mono ?_
  rintro e V ⟨rfl, hb⟩
  rw [HE.out]
  have HB := Lib.hid (HB1.out.trans (hb.mono HB1.out.size))
  clear hb
  go_wp2_with fail
  go_ret2
  exact ⟨rfl, HB.out⟩

def REncRel (W : World) (r : Rc) (sa : Option Addr) (sc : Nat) (s i : Value) (wr : World) : Prop :=
  ∃ k : Nat, i = .int .i64 k ∧ s = .string (bs (r.head ++ encA (r.adjs.take k))) ∧ k ≤ r.adjs.length ∧ BoxR W.heap.size r sa sc wr ∧ Below W.heap.size W wr
set_option maxRecDepth 100000 in
set_option maxHeartbeats 3200000 in
theorem rencode_yes (r : Rc) (sa : Option Addr) (sc : Nat) (W : World) (hA : AdjsIn W sa r.adjs) (hl : r.adjs.length ≤ maxLen) (hok : r.ok) (hc : r.chk = true) :
    Calls Tryz.prog 28 #[r.ag sa sc] W fun e W' => e = .returned (.tuple #[.string (bs r.enc), .int .i64 0]) ∧ Below W.heap.size W W' := by
  obtain ⟨W1, hW1⟩ : ∃ W1, W1 = W.alloc (.cells (r.cs sa sc) 25) := ⟨_, rfl⟩
  have hb1 : Below W.heap.size W W1 := by rw [hW1]; exact (Below.refl _ _).alloc (Nat.le_refl _) _
  have hbx : BoxR W.heap.size r sa sc W1 := by rw [hW1]; exact heap_alloc_new _ _
  have HCH := Lib.hid (rcheck_any r sa sc W1 (hA.later hb1) hl)
  have HE := Lib.hid (show r.err = 0 by unfold Rc.err; rw [hc]; rfl)
  have hcc := hc
  simp only [Rc.chk, rtr, Bool.and_eq_true, decide_eq_true_eq] at hcc
  obtain ⟨⟨⟨⟨⟨⟨⟨c1, c2⟩, c3⟩, c4⟩, c5⟩, c6⟩, c7⟩, c8⟩ := hcc
  obtain ⟨_, o1, o2, _⟩ := hok
  have HBD := Lib.hid (chkA_bound _ _ _ c8)
  obtain ⟨o, ho⟩ : ∃ o : Nat, r.org = (o : Int) := ⟨r.org.toNat, by omega⟩
  obtain ⟨c, hcl⟩ : ∃ c : Nat, r.clm = (c : Int) := ⟨r.clm.toNat, by omega⟩
  obtain ⟨n, hn⟩ : ∃ n, n = r.adjs.length := ⟨_, rfl⟩
  obtain ⟨ig, hig⟩ : ∃ ig, r.ing = ig := ⟨_, rfl⟩
  have ho1 : o < 256 := by omega
  have hc1 : c < 65536 := by omega
  have hn1 : n ≤ 16 := by omega
  have hw0 : IntKind.u64.wrap (o : Int) = (o : Int) := IntWalk.u64_in _ (by omega)
  have hw1 : IntKind.u64.wrap (r.ep : Int) = (r.ep : Int) := IntWalk.u64_in _ (by omega)
  have hw2 : IntKind.u64.wrap (r.sq : Int) = (r.sq : Int) := IntWalk.u64_in _ (by omega)
  have hw3 : IntKind.u64.wrap (c : Int) = (c : Int) := IntWalk.u64_in _ (by omega)
  have hw4 : IntKind.u64.wrap (n : Int) = (n : Int) := IntWalk.u64_in _ (by omega)
  have hag : r.ag sa sc = .agg #[.int .i64 o, .int .u32 r.ep, .int .u32 r.sq, .int .i64 c, .bool ig, .slice sa n sc] := by unfold Rc.ag Rc.cs; rw [ho, hcl, hn, hig]
  have hcs : r.cs sa sc = #[.int .i64 o, .int .u32 r.ep, .int .u32 r.sq, .int .i64 c, .bool ig, .slice sa n sc] := by unfold Rc.cs; rw [ho, hcl, hn, hig]
  have HCE := Lib.hid (show ∀ V, BoxR W.heap.size r sa sc V → V.cell? ⟨W.heap.size, 0, none⟩ = some (.int .i64 o) ∧ V.cell? ⟨W.heap.size, 1, none⟩ = some (.int .u32 r.ep) ∧ V.cell? ⟨W.heap.size, 2, none⟩ = some (.int .u32 r.sq) ∧ V.cell? ⟨W.heap.size, 3, none⟩ = some (.int .i64 c) ∧ V.cell? ⟨W.heap.size, 4, none⟩ = some (.bool ig) ∧ V.cell? ⟨W.heap.size, 5, none⟩ = some (.slice sa n sc) from fun V h => by
    have := h.cells
    rw [ho, hcl, ← hn, hig] at this
    exact this)
  have HLE := Lib.hid (show r.head = nb o 1 ++ nb r.ep 4 ++ nb r.sq 4 ++ nb c 2 ++ nb (if ig then 1 else 0) 1 ++ nb n 1 by unfold Rc.head; rw [ho, hcl, ← hn, hig]; rfl)
  have HAD := Lib.hid (fun V (hV : Below W.heap.size W V) => hA.later hV)
  rw [hcs] at hW1
  rw [hag] at HCH ⊢
  have HW1 := Lib.hid hW1
  have HB1 := Lib.hid hb1
  have HBX := Lib.hid hbx
  have HN := Lib.hid hn
  obtain ⟨x0, x1, x2, x3, x4, x5⟩ := HCE.out _ hbx
  clear hW1 hb1 hA hc hbx ho hcl hn hig hag hcs c1 c2 c3 c4 c5 c6 c7 c8
  go_enter Tryz.func28, Tryz.ntmps28
  go_wp2_with fail
  rw [← HW1.out]
  refine HCH.out.mono ?_
  rintro e V ⟨rfl, hb⟩
  rw [HE.out]
  have HB := Lib.hid (HB1.out.trans (hb.mono HB1.out.size))
  have HBX2 := Lib.hid (HBX.out.later hb)
  clear hb x0 x1 x2 x3 x4 x5
  obtain ⟨x0, x1, x2, x3, x4, x5⟩ := HCE.out _ HBX2.out
  obtain ⟨iv, hiv⟩ : ∃ iv : Nat, iv = if ig then 1 else 0 := ⟨_, rfl⟩
  have hiv1 : iv < 256 := by rw [hiv]; split <;> omega
  obtain ⟨vs, hvs⟩ : ∃ vs : List (Nat × Nat), vs = [(o, 1), (r.ep, 4), (r.sq, 4), (c, 2), (iv, 1), (n, 1)] := ⟨_, rfl⟩
  have hvok : pairOk vs := by
    rw [hvs]
    intro x hx
    simp only [List.mem_cons, List.not_mem_nil, or_false] at hx
    rcases hx with rfl | rfl | rfl | rfl | rfl | rfl <;> refine ⟨by simp, ?_⟩ <;> simp only [Nat.reduceMul, Nat.reducePow] <;> omega
  have HPB := Lib.hid (show pairB vs = r.head by rw [HLE.out, hvs, hiv]; simp [pairB, List.append_assoc])
  have HPUT := Lib.hid (show ∀ (g : Nat) (Z : World), Z.heap[g]? = some (.cells #[.int .u64 o, .int .u64 1, .int .u64 r.ep, .int .u64 4, .int .u64 r.sq, .int .u64 4, .int .u64 c, .int .u64 2, .int .u64 iv, .int .u64 1, .int .u64 n, .int .u64 1] 28 (0, 0)) → _ from fun g Z h => puts_any g 12 vs Z (by rw [hvs]; rfl) (by rw [h, hvs]; rfl) hvok (by rw [hvs]; simp))
  clear hvs hvok
  have hii : (ig = false ∧ iv = 0) ∨ (ig = true ∧ iv = 1) := by cases ig <;> simp [hiv]
  clear hiv
  rcases hii with ⟨hi1, hi2⟩ | ⟨hi1, hi2⟩
  all_goals
    subst hi1
    subst hi2
    go_wp2_with fail
    have hal := fun (k : Nat) => heap_alloc_new V (.cells #[.int .u64 o, .int .u64 1, .int .u64 r.ep, .int .u64 4, .int .u64 r.sq, .int .u64 4, .int .u64 c, .int .u64 2, .int .u64 k, .int .u64 1, .int .u64 n, .int .u64 1] 28)
    refine (HPUT.out _ _ (hal _)).mono ?_
    clear hal
    rintro e V1 ⟨rfl, hb⟩
    have hbv : Below V.heap.size V V1 := ((Below.refl V.heap.size V).alloc (Nat.le_refl _) _).trans (hb.mono (by rw [World.size_alloc]; omega))
    rw [HPB.out]
    have HS1 := Lib.hid (And.intro (HBX2.out.later hbv) (HB.out.trans (hbv.mono HB.out.size)))
    clear hb hbv x0 x1 x2 x3 x4 x5
    have HR0 := Lib.hid (show REncRel W r sa sc (.string (bs r.head)) (.int .i64 0) V1 from ⟨0, rfl, by rw [List.take_zero]; simp [encA], Nat.zero_le _, HS1.out.1, HS1.out.2⟩)
    go_wp2_with fail
    go_loopw [5, 6] (fun s i wr => REncRel W r sa sc s i wr) (fun _ i _ => 17 - (intOf i).toNat)
    case atStart => exact HR0.out
    case round =>
      obtain ⟨k, rfl, rfl, hk, hbx, hb⟩ := hrel
      rw [← HN.out] at hk
      by_cases hlt : k < n
      · have hkl : k < r.adjs.length := by rw [← HN.out]; exact hlt
        have hlti : (k : Int) < (n : Int) := by omega
        obtain ⟨ad, ha, e0, e1⟩ := HAD.out wr hb k hkl
        obtain ⟨a, hae⟩ : ∃ a, a = r.adjs.getD k default := ⟨_, rfl⟩
        have hmem : a ∈ r.adjs := by rw [hae, List.getD_eq_getElem?_getD, List.getElem?_eq_getElem hkl]; exact List.getElem_mem hkl
        obtain ⟨b1, b2, b3, b4⟩ := HBD.out a hmem
        obtain ⟨to, hto⟩ : ∃ to : Nat, a.1 = (to : Int) := ⟨a.1.toNat, by omega⟩
        obtain ⟨co, hco⟩ : ∃ co : Nat, a.2 = (co : Int) := ⟨a.2.toNat, by omega⟩
        have ht1 : to < 256 := by omega
        have hc2 : co < 65536 := by omega
        have hx0 : IntKind.u64.wrap (to : Int) = (to : Int) := IntWalk.u64_in _ (by omega)
        have hx1 : IntKind.u64.wrap (co : Int) = (co : Int) := IntWalk.u64_in _ (by omega)
        have HEN := Lib.hid (show encA (r.adjs.take (k + 1)) = encA (r.adjs.take k) ++ pairB [(to, 1), (co, 2)] by
          rw [List.take_succ_eq_append_getElem hkl]
          have hae' := hae
          rw [List.getD_eq_getElem?_getD, List.getElem?_eq_getElem hkl, Option.getD_some] at hae'
          rw [← hae']
          simp [encA, pairB, hto, hco])
        have HCA := Lib.hid (show ∀ V, Below W.heap.size W V → V.cell? (ad.add (k * 2)) = some (.int .i64 to) ∧ V.cell? ⟨(ad.add (k * 2)).block, (ad.add (k * 2)).off + 1, none⟩ = some (.int .i64 co) from fun V hV => by
          obtain ⟨ad', h1, h2, h3⟩ := HAD.out V hV k hkl
          rw [ha] at h1
          simp only [Option.some.injEq] at h1
          subst h1
          rw [← hae, hto] at h2
          rw [← hae, hco] at h3
          exact ⟨h2, h3⟩)
        have hvok2 : pairOk [(to, 1), (co, 2)] := by
          intro x hx
          simp only [List.mem_cons, List.not_mem_nil, or_false] at hx
          rcases hx with rfl | rfl <;> refine ⟨by simp, ?_⟩ <;> simp only [Nat.reduceMul, Nat.reducePow] <;> omega
        have HP2 := Lib.hid (show ∀ (g : Nat) (Z : World), Z.heap[g]? = some (.cells #[.int .u64 to, .int .u64 1, .int .u64 co, .int .u64 2] 28 (0, 0)) → _ from fun g Z h => puts_any g 4 [(to, 1), (co, 2)] Z rfl h hvok2 (by simp))
        have hap := bs_append (r.head ++ encA (r.adjs.take k)) (pairB [(to, 1), (co, 2)])
        have hsz := bs_size
        have hll : (encA (r.adjs.take k)).length ≤ 100 := by rw [encA_len, List.length_take]; omega
        have hpl : (pairB [(to, 1), (co, 2)]).length ≤ 100 := Nat.le_trans (pairB_len _ hvok2) (by simp)
        have hhl := r.head_len
        obtain ⟨pb, hpb⟩ : ∃ pb, pb = pairB [(to, 1), (co, 2)] := ⟨_, rfl⟩
        obtain ⟨pa, hpa⟩ : ∃ pa, pa = r.head ++ encA (r.adjs.take k) := ⟨_, rfl⟩
        have hpal : pa.length ≤ 200 := by rw [hpa, List.length_append]; omega
        rw [← hpb] at hpl HEN hap HP2
        rw [← hpa] at hap ⊢
        have hnl : ¬ 9223372036854775807 < pa.length + pb.length := by omega
        have HPA := Lib.hid hpa
        subst ha
        obtain ⟨U, hU⟩ : ∃ U, U = wr.drew := ⟨_, rfl⟩
        have HS := Lib.hid (show BoxR W.heap.size r (some ad) sc U ∧ Below W.heap.size W U by rw [hU]; exact ⟨hbx, hb.trans ⟨rfl, rfl, rfl, Nat.le_refl _, fun _ _ => rfl⟩⟩)
        obtain ⟨x0, x1, x2, x3, x4, x5⟩ := HCE.out _ hbx
        clear hbx hb e0 e1 hae hmem b1 b2 b3 b4 hto hco hvok2 hkl hll hhl hpb hpa
        go_wp2_with fail
        refine wp_region_ord [(0, true), (1, true), (2, true), (3, true), (4, true), (5, true), (6, true), (7, true), (8, true), (9, true), (10, true), (11, true), (12, true), (13, true), (14, true), (15, false), (16, false), (17, true), (18, true)] (fun V => BoxR W.heap.size r (some ad) sc V ∧ Below W.heap.size W V) (by kernel_rfl) (by kernel_rfl) (by decide) (by kernel_rfl) (fun d _ _ _ _ h => by cases d <;> exact h) (by rw [← hU]; exact HS.out) ?_
        rw [← hU]
        clear hU x0 x1 x2 x3 x4 x5
        iterate 15 ((apply wpOrd_take rfl rfl (by kernel_rfl); (intro V hV; obtain ⟨x0, x1, x2, x3, x4, x5⟩ := HCE.out _ hV.1; obtain ⟨y0, y1⟩ := HCA.out _ hV.2; go_simp; rfl)); (try simp only [List.setIfInBounds_toArray, List.set_cons_succ, List.set_cons_zero]))
        apply wpOrd_do rfl (by kernel_rfl)
        intro K hK
        go_simp
        obtain ⟨Z, hZ⟩ : ∃ Z, Z = U.alloc (.cells #[.int .u64 to, .int .u64 1, .int .u64 co, .int .u64 2] 28) := ⟨_, rfl⟩
        have hbZ : Below U.heap.size U Z := by rw [hZ]; exact (Below.refl _ _).alloc (Nat.le_refl _) _
        have HSZ := Lib.hid (And.intro (HS.out.1.later hbZ) (HS.out.2.trans (hbZ.mono HS.out.2.size)))
        have HPZ := Lib.hid (HP2.out U.heap.size Z (by rw [hZ]; exact heap_alloc_new _ _))
        rw [← hZ]
        refine hK _ _ HSZ.out ?_
        clear hK K hZ hbZ
        apply wpOrd_do rfl (by kernel_rfl)
        intro K hK
        go_simp
        refine HPZ.out.mono ?_
        rintro e V2 ⟨rfl, hb⟩
        have HS2 := Lib.hid (And.intro (HSZ.out.1.later hb) (HSZ.out.2.trans (hb.mono HSZ.out.2.size)))
        refine hK _ _ HS2.out ?_
        clear hK K hb
        iterate 2 ((apply wpOrd_take rfl rfl (by kernel_rfl); (intro V hV; go_simp; rfl)); (try simp only [List.setIfInBounds_toArray, List.set_cons_succ, List.set_cons_zero]))
        refine wpOrd_nil ?_
        have HR := Lib.hid (show REncRel W r (some ad) sc (.string (bs (pa ++ pb))) (.int .i64 ((k : Int) + 1)) V2 from ⟨k + 1, by go_num, by rw [HEN.out, HPA.out, List.append_assoc], by rw [← HN.out]; omega, HS2.out.1, HS2.out.2⟩)
        obtain ⟨x0, x1, x2, x3, x4, x5⟩ := HCE.out _ HS2.out.1
        go_wp2_with fail
        go_roundw
        case rel => first | exact HR.out | ((repeat apply Exists.intro); exact ⟨HR.out, rfl⟩)
        case measure => simp [intOf]; omega
      · obtain rfl : k = n := by omega
        have HEN := Lib.hid (show r.head ++ encA (r.adjs.take k) = r.enc by rw [HN.out, List.take_length]; rfl)
        obtain ⟨x0, x1, x2, x3, x4, x5⟩ := HCE.out _ hbx
        have HB := Lib.hid hb
        clear hbx hb
        go_wp2_with fail
        go_ret2
        exact ⟨by rw [← HEN.out]; rfl, HB.out⟩

end Go.Proofs.YtickjmkkgcfkhaaGreat

/- Contracts of the record: stamps' bytes. -/
set_option linter.unusedSimpArgs false
set_option linter.unusedVariables false
set_option maxRecDepth 100000
namespace Go.Proofs.YtickjmkkgcfkhaaGreat
open Go.RowKit Go.ChangeShapes Go.WideShapes

def St.enc (s : St) : List UInt8 := nb s.org.toNat 1 ++ nb s.ep 4 ++ nb s.sq 4
theorem St.enc_len (s : St) : s.enc.length = 9 := by simp [St.enc, nb_len]
structure EsS (W : World) (s : St) (b : Nat) (l : List UInt8) (V : World) : Prop where
  box : BoxS W.heap.size s V
  str : BoxT b l V
  bel : Below W.heap.size W V
  hi : W.heap.size < b
theorem EsS.put {W V X : World} {s : St} {b : Nat} {l l' : List UInt8} (h : EsS W s b l V) (hs : BoxT b l' X) (hg : V.grownBy X (some b)) : EsS W s b l' X :=
  ⟨(hg.block _ (Array.getElem?_eq_some_iff.1 h.box).1 (by have := h.hi; simp; omega)).trans h.box, hs, h.bel.grown hg h.bel.size (fun k hk => by cases hk; exact Nat.le_of_lt h.hi), h.hi⟩
theorem encst_no (s : St) (W : World) (hc : s.may = false) :
    Calls Tryz.prog 49 #[s.ag] W fun e W' => e = .returned (.tuple #[.string (bs []), .int .i64 2]) ∧ Below W.heap.size W W' := by
  obtain ⟨W1, hW1⟩ : ∃ W1, W1 = W.alloc (.cells s.cs 27) := ⟨_, rfl⟩
  have HB1 := Lib.hid (show Below W.heap.size W W1 by rw [hW1]; exact (Below.refl _ _).alloc (Nat.le_refl _) _)
  have HM := Lib.hid (may_any s W1)
  have HC := Lib.hid hc
  have HW1 := Lib.hid hW1
  clear hW1 hc
  go_enter Tryz.func49, Tryz.ntmps49
  unfold St.ag St.cs at *
  go_wp2_with fail
  rw [← HW1.out]
  refine HM.out.mono ?_
  rintro e V ⟨rfl, hb⟩
  rw [HC.out]
  have HB := Lib.hid (HB1.out.trans (hb.mono HB1.out.size))
  clear hb
  go_wp2_with fail
  go_ret2
  exact ⟨rfl, HB.out⟩
set_option maxHeartbeats 1600000 in
theorem encst_yes (s : St) (W : World) (hok : s.ok) (hc : s.may = true) :
    Calls Tryz.prog 49 #[s.ag] W fun e W' => e = .returned (.tuple #[.string (bs s.enc), .int .i64 0]) ∧ Below W.heap.size W W' := by
  obtain ⟨W1, hW1⟩ : ∃ W1, W1 = W.alloc (.cells s.cs 27) := ⟨_, rfl⟩
  have HB1 := Lib.hid (show Below W.heap.size W W1 by rw [hW1]; exact (Below.refl _ _).alloc (Nat.le_refl _) _)
  have HBX := Lib.hid (show BoxS W.heap.size s W1 by rw [hW1]; exact heap_alloc_new _ _)
  have HM := Lib.hid (may_any s W1)
  have HC := Lib.hid hc
  have hcc := hc
  simp only [St.may, rtr, Bool.and_eq_true, decide_eq_true_eq] at hcc
  obtain ⟨⟨⟨c1, c2⟩, c3⟩, c4⟩ := hcc
  obtain ⟨_, o1, o2⟩ := hok
  obtain ⟨o, ho⟩ : ∃ o : Nat, s.org = (o : Int) := ⟨s.org.toNat, by omega⟩
  have ho1 : o < 256 := by omega
  have hw0 : IntKind.u64.wrap (o : Int) = (o : Int) := IntWalk.u64_in _ (by omega)
  have hw1 : IntKind.u64.wrap (s.ep : Int) = (s.ep : Int) := IntWalk.u64_in _ (by omega)
  have hw2 : IntKind.u64.wrap (s.sq : Int) = (s.sq : Int) := IntWalk.u64_in _ (by omega)
  have HEN := Lib.hid (show s.enc = nb o 1 ++ nb s.ep 4 ++ nb s.sq 4 by unfold St.enc; rw [ho]; rfl)
  have hag : s.ag = .agg #[.int .i64 o, .int .u32 s.ep, .int .u32 s.sq] := by unfold St.ag St.cs; rw [ho]
  have hcs : s.cs = #[.int .i64 o, .int .u32 s.ep, .int .u32 s.sq] := by unfold St.cs; rw [ho]
  have HCE := Lib.hid (show ∀ V, BoxS W.heap.size s V → V.cell? ⟨W.heap.size, 0, none⟩ = some (.int .i64 o) ∧ V.cell? ⟨W.heap.size, 1, none⟩ = some (.int .u32 s.ep) ∧ V.cell? ⟨W.heap.size, 2, none⟩ = some (.int .u32 s.sq) from fun V h => by
    have := h.cells
    rw [ho] at this
    exact this)
  rw [hcs] at hW1
  rw [hag] at HM ⊢
  have HW1 := Lib.hid hW1
  obtain ⟨x0, x1, x2⟩ := HCE.out _ HBX.out
  clear hW1 hc c1 c2 c3 c4 ho hag hcs
  have henp : ∀ args w, (callFunc 95 args).run Tryz.prog w = .ok (.enter 95 args) w := fun _ _ => by kernel_rfl
  have henb : ∀ args w, (callFunc 96 args).run Tryz.prog w = .ok (.enter 96 args) w := fun _ _ => by kernel_rfl
  go_enter Tryz.func49, Tryz.ntmps49
  go_wp2_with fail
  rw [← HW1.out]
  refine HM.out.mono ?_
  rintro e V ⟨rfl, hb⟩
  rw [HC.out]
  have HB := Lib.hid (HB1.out.trans (hb.mono HB1.out.size))
  have HBX2 := Lib.hid (HBX.out.later hb)
  clear hb x0 x1 x2
  go_wp2_with fail
  refine (laid_any V).mono ?_
  rintro e V1 ⟨rfl, ht, hb⟩
  have HS1 := Lib.hid (show EsS W s V.heap.size [] V1 from ⟨HBX2.out.later hb, ht, HB.out.trans (hb.mono HB.out.size), (Array.getElem?_eq_some_iff.1 HBX2.out).1⟩)
  obtain ⟨b, hbb⟩ : ∃ b, b = V.heap.size := ⟨_, rfl⟩
  rw [← hbb] at HS1 ⊢
  clear hbb ht hb
  obtain ⟨x0, x1, x2⟩ := HCE.out _ HS1.out.box
  go_wp2_with fail
  refine (putc_any b _ o 1 V1 HS1.out.str (by omega) (by omega) (by simp [nb_len])).mono ?_
  rintro e V2 ⟨rfl, ht, hg⟩
  have HS2 := Lib.hid (HS1.out.put ht hg)
  clear ht hg x0 x1 x2
  obtain ⟨x0, x1, x2⟩ := HCE.out _ HS2.out.box
  go_wp2_with fail
  refine (putc_any b _ s.ep 4 V2 HS2.out.str (by omega) (by omega) (by simp [nb_len])).mono ?_
  rintro e V3 ⟨rfl, ht, hg⟩
  have HS3 := Lib.hid (HS2.out.put ht hg)
  clear ht hg x0 x1 x2
  obtain ⟨x0, x1, x2⟩ := HCE.out _ HS3.out.box
  go_wp2_with fail
  refine (putc_any b _ s.sq 4 V3 HS3.out.str (by omega) (by omega) (by simp [nb_len])).mono ?_
  rintro e V4 ⟨rfl, ht, hg⟩
  have HS4 := Lib.hid (HS3.out.put ht hg)
  clear ht hg x0 x1 x2
  obtain ⟨x0, x1, x2⟩ := HCE.out _ HS4.out.box
  go_wp2_with fail
  refine (bytes_any b _ V4 HS4.out.str).mono ?_
  rintro e w ⟨rfl, rfl⟩
  go_wp2_with fail
  go_ret2
  exact ⟨by rw [HEN.out]; rfl, HS4.out.bel⟩
theorem rencst_no (s : St) (W : World) (hc : s.may = false) :
    Calls Tryz.prog 29 #[s.ag] W fun e W' => e = .returned (.tuple #[.string (bs []), .int .i64 2]) ∧ Below W.heap.size W W' := by
  obtain ⟨W1, hW1⟩ : ∃ W1, W1 = W.alloc (.cells s.cs 27) := ⟨_, rfl⟩
  have HB1 := Lib.hid (show Below W.heap.size W W1 by rw [hW1]; exact (Below.refl _ _).alloc (Nat.le_refl _) _)
  have HM := Lib.hid (rmay_any s W1)
  have HC := Lib.hid hc
  have HW1 := Lib.hid hW1
  clear hW1 hc
  go_enter Tryz.func29, Tryz.ntmps29
  unfold St.ag St.cs at *
  go_wp2_with fail
  rw [← HW1.out]
  refine HM.out.mono ?_
  rintro e V ⟨rfl, hb⟩
  rw [HC.out]
  have HB := Lib.hid (HB1.out.trans (hb.mono HB1.out.size))
  clear hb
  go_wp2_with fail
  go_ret2
  exact ⟨rfl, HB.out⟩
set_option maxHeartbeats 1600000 in
theorem rencst_yes (s : St) (W : World) (hok : s.ok) (hc : s.may = true) :
    Calls Tryz.prog 29 #[s.ag] W fun e W' => e = .returned (.tuple #[.string (bs s.enc), .int .i64 0]) ∧ Below W.heap.size W W' := by
  obtain ⟨W1, hW1⟩ : ∃ W1, W1 = W.alloc (.cells s.cs 27) := ⟨_, rfl⟩
  have HB1 := Lib.hid (show Below W.heap.size W W1 by rw [hW1]; exact (Below.refl _ _).alloc (Nat.le_refl _) _)
  have HBX := Lib.hid (show BoxS W.heap.size s W1 by rw [hW1]; exact heap_alloc_new _ _)
  have HM := Lib.hid (rmay_any s W1)
  have HC := Lib.hid hc
  have hcc := hc
  simp only [St.may, rtr, Bool.and_eq_true, decide_eq_true_eq] at hcc
  obtain ⟨⟨⟨c1, c2⟩, c3⟩, c4⟩ := hcc
  obtain ⟨_, o1, o2⟩ := hok
  obtain ⟨o, ho⟩ : ∃ o : Nat, s.org = (o : Int) := ⟨s.org.toNat, by omega⟩
  have ho1 : o < 256 := by omega
  have hw0 : IntKind.u64.wrap (o : Int) = (o : Int) := IntWalk.u64_in _ (by omega)
  have hw1 : IntKind.u64.wrap (s.ep : Int) = (s.ep : Int) := IntWalk.u64_in _ (by omega)
  have hw2 : IntKind.u64.wrap (s.sq : Int) = (s.sq : Int) := IntWalk.u64_in _ (by omega)
  have HEN := Lib.hid (show s.enc = nb o 1 ++ nb s.ep 4 ++ nb s.sq 4 by unfold St.enc; rw [ho]; rfl)
  have hag : s.ag = .agg #[.int .i64 o, .int .u32 s.ep, .int .u32 s.sq] := by unfold St.ag St.cs; rw [ho]
  have hcs : s.cs = #[.int .i64 o, .int .u32 s.ep, .int .u32 s.sq] := by unfold St.cs; rw [ho]
  have HCE := Lib.hid (show ∀ V, BoxS W.heap.size s V → V.cell? ⟨W.heap.size, 0, none⟩ = some (.int .i64 o) ∧ V.cell? ⟨W.heap.size, 1, none⟩ = some (.int .u32 s.ep) ∧ V.cell? ⟨W.heap.size, 2, none⟩ = some (.int .u32 s.sq) from fun V h => by
    have := h.cells
    rw [ho] at this
    exact this)
  rw [hcs] at hW1
  rw [hag] at HM ⊢
  have HW1 := Lib.hid hW1
  obtain ⟨x0, x1, x2⟩ := HCE.out _ HBX.out
  clear hW1 hc c1 c2 c3 c4 ho hag hcs
  have hvok : pairOk [(o, 1), (s.ep, 4), (s.sq, 4)] := by
    intro x hx
    simp only [List.mem_cons, List.not_mem_nil, or_false] at hx
    rcases hx with rfl | rfl | rfl <;> refine ⟨by simp, ?_⟩ <;> simp only [Nat.reduceMul, Nat.reducePow] <;> omega
  have HPB := Lib.hid (show pairB [(o, 1), (s.ep, 4), (s.sq, 4)] = s.enc by rw [HEN.out]; simp [pairB, List.append_assoc])
  have HPUT := Lib.hid (show ∀ (g : Nat) (Z : World), Z.heap[g]? = some (.cells #[.int .u64 o, .int .u64 1, .int .u64 s.ep, .int .u64 4, .int .u64 s.sq, .int .u64 4] 28 (0, 0)) → _ from fun g Z h => puts_any g 6 [(o, 1), (s.ep, 4), (s.sq, 4)] Z rfl h hvok (by simp))
  clear hvok
  go_enter Tryz.func29, Tryz.ntmps29
  go_wp2_with fail
  rw [← HW1.out]
  refine HM.out.mono ?_
  rintro e V ⟨rfl, hb⟩
  rw [HC.out]
  have HB := Lib.hid (HB1.out.trans (hb.mono HB1.out.size))
  have HBX2 := Lib.hid (HBX.out.later hb)
  clear hb x0 x1 x2
  obtain ⟨x0, x1, x2⟩ := HCE.out _ HBX2.out
  go_wp2_with fail
  refine (HPUT.out _ _ (heap_alloc_new V _)).mono ?_
  rintro e V1 ⟨rfl, hb⟩
  rw [HPB.out]
  have HBE := Lib.hid (HB.out.trans ((((Below.refl V.heap.size V).alloc (Nat.le_refl _) _).trans (hb.mono (by rw [World.size_alloc]; omega))).mono HB.out.size))
  clear hb
  go_wp2_with fail
  go_ret2
  exact ⟨rfl, HBE.out⟩

/-- What 'EncodeStamp' answers. -/
def St.encS (s : St) : ByteArray := if s.may then bs s.enc else bs []
def St.encE (s : St) : Int := if s.may then 0 else 2
theorem encst_any (s : St) (W : World) (hok : s.ok) : Calls Tryz.prog 49 #[s.ag] W fun e W' => e = .returned (.tuple #[.string s.encS, .int .i64 s.encE]) ∧ Below W.heap.size W W' := by
  unfold St.encS St.encE
  by_cases h : s.may = true
  · rw [if_pos h, if_pos h]; exact encst_yes s W hok h
  · rw [if_neg h, if_neg h]; exact encst_no s W (by simpa using h)
theorem rencst_any (s : St) (W : World) (hok : s.ok) : Calls Tryz.prog 29 #[s.ag] W fun e W' => e = .returned (.tuple #[.string s.encS, .int .i64 s.encE]) ∧ Below W.heap.size W W' := by
  unfold St.encS St.encE
  by_cases h : s.may = true
  · rw [if_pos h, if_pos h]; exact rencst_yes s W hok h
  · rw [if_neg h, if_neg h]; exact rencst_no s W (by simpa using h)
/-- What 'Encode' answers. -/
def Rc.encS (r : Rc) : ByteArray := if r.chk then bs r.enc else bs []
theorem encode_any (r : Rc) (sa : Option Addr) (sc : Nat) (W : World) (hA : AdjsIn W sa r.adjs) (hl : r.adjs.length ≤ maxLen) (hok : r.ok) :
    Calls Tryz.prog 45 #[r.ag sa sc] W fun e W' => e = .returned (.tuple #[.string r.encS, .int .i64 r.err]) ∧ Below W.heap.size W W' := by
  unfold Rc.encS Rc.err
  by_cases h : r.chk = true
  · rw [if_pos h, if_pos h]; exact encode_yes r sa sc W hA hl hok h
  · rw [if_neg h, if_neg h]; exact encode_no r sa sc W hA hl (by simpa using h)
theorem rencode_any (r : Rc) (sa : Option Addr) (sc : Nat) (W : World) (hA : AdjsIn W sa r.adjs) (hl : r.adjs.length ≤ maxLen) (hok : r.ok) :
    Calls Tryz.prog 28 #[r.ag sa sc] W fun e W' => e = .returned (.tuple #[.string r.encS, .int .i64 r.err]) ∧ Below W.heap.size W W' := by
  unfold Rc.encS Rc.err
  by_cases h : r.chk = true
  · rw [if_pos h, if_pos h]; exact rencode_yes r sa sc W hA hl hok h
  · rw [if_neg h, if_neg h]; exact rencode_no r sa sc W hA hl (by simpa using h)

end Go.Proofs.YtickjmkkgcfkhaaGreat
