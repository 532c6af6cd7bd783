/- Contracts of the reference's record: numbers laid; stamps' bytes. -/
import Derived.Test.YtcdmmplmkgdejaaRecE
import Derived.Test.YtcdmmplmkgdejaaWireRPut
set_option linter.unusedSimpArgs false
set_option linter.unusedVariables false
namespace Go.Proofs.Ytcdmmplmkgdejaa
open Go.RowKit Go.ChangeShapes Go.WideShapes

def pairV (vs : List (Nat × Nat)) : List Value := vs.flatMap fun x => [Value.int .u64 (x.1 : Int), Value.int .u64 (x.2 : Int)]
def pairB (vs : List (Nat × Nat)) : List UInt8 := vs.flatMap fun x => nb x.1 x.2
def pairOk (vs : List (Nat × Nat)) : Prop := ∀ x ∈ vs, (x.2 = 1 ∨ x.2 = 2 ∨ x.2 = 4 ∨ x.2 = 8) ∧ x.1 < 2 ^ (8 * x.2)
theorem pairV_get : ∀ (vs : List (Nat × Nat)) (k : Nat), k < vs.length → (pairV vs)[2 * k]? = some (.int .u64 ((vs.getD k default).1 : Nat)) ∧ (pairV vs)[2 * k + 1]? = some (.int .u64 ((vs.getD k default).2 : Nat))
  | [], _, h => by simp at h
  | x :: l, 0, _ => ⟨rfl, rfl⟩
  | x :: l, k + 1, h => by
    have ih := pairV_get l k (by simpa using h)
    have e : pairV (x :: l) = [Value.int .u64 (x.1 : Int), Value.int .u64 (x.2 : Int)] ++ pairV l := rfl
    rw [e, show 2 * (k + 1) = 2 * k + 2 from by omega, show 2 * k + 2 + 1 = (2 * k + 1) + 2 from by omega]
    exact ⟨ih.1, ih.2⟩
theorem pairB_len : ∀ vs : List (Nat × Nat), pairOk vs → (pairB vs).length ≤ 8 * vs.length
  | [], _ => Nat.le_refl _
  | x :: l, h => by
    have ih := pairB_len l fun y hy => h y (by simp [hy])
    have hx := (h x (by simp)).1
    show (nb x.1 x.2 ++ pairB l).length ≤ _
    rw [List.length_append, nb_len, List.length_cons]; omega
def PutsRel (W : World) (g : Nat) (vs : List (Nat × Nat)) (s i : Value) (wr : World) : Prop :=
  ∃ k : Nat, i = .int .i64 (2 * (k : Int)) ∧ s = .string (bs (pairB (vs.take k))) ∧ k ≤ vs.length ∧ wr.heap[g]? = some (.cells (pairV vs).toArray 53 (0, 0)) ∧ Below W.heap.size W wr
set_option maxRecDepth 100000 in
set_option maxHeartbeats 1600000 in
theorem puts_any (g n : Nat) (vs : List (Nat × Nat)) (W : World) (hn : n = 2 * vs.length) (hg : W.heap[g]? = some (.cells (pairV vs).toArray 53 (0, 0))) (hok : pairOk vs) (hl : vs.length ≤ 1000) :
    Calls Try.prog 32 #[.slice (some ⟨g, 0, none⟩) n n] W fun e W' => e = .returned (.string (bs (pairB vs))) ∧ Below W.heap.size W W' := by
  have h0 : PutsRel W g vs (.string (bs [])) (.int .i64 0) W := ⟨0, rfl, rfl, Nat.zero_le _, hg, Below.refl _ _⟩
  have hbs : (⟨#[]⟩ : ByteArray) = bs [] := rfl
  have hn2 : n ≤ 2000 := by omega
  have H0 := Lib.hid h0
  have HN := Lib.hid hn
  have HOK := Lib.hid hok
  clear h0 hg hok hn
  go_enter Try.func32, Try.ntmps32
  go_wp2_with fail
  go_loopw [3, 4] (fun s i wr => PutsRel W g vs s i wr) (fun _ i _ => 2001 - (intOf i).toNat)
  case atStart => exact H0.out
  case round =>
    obtain ⟨k, rfl, rfl, hk, hg, hb⟩ := hrel
    by_cases hlt : k < vs.length
    · obtain ⟨c0, c1⟩ := pairV_get vs k hlt
      obtain ⟨x, hx⟩ : ∃ x, x = vs.getD k default := ⟨_, rfl⟩
      have hmem : x ∈ vs := by rw [hx, List.getD_eq_getElem?_getD, List.getElem?_eq_getElem hlt]; exact List.getElem_mem hlt
      obtain ⟨hm, hv⟩ := HOK.out x hmem
      rw [← hx] at c0 c1
      obtain ⟨i, hi⟩ : ∃ i, i = 2 * k := ⟨_, rfl⟩
      have hii : 2 * (k : Int) = (i : Int) := by omega
      rw [← hi] at c0 c1
      have hin : (i : Int) + 1 < (n : Int) := by have := HN.out; omega
      have hin0 : (i : Int) < (n : Int) := by omega
      have hw1 : IntKind.i64.wrap ((i : Int) + 1) = ((i + 1 : Nat) : Int) := by rw [IntWalk.i64_in _ (by omega)]; omega
      have hd1 : decide ((i : Int) + 1 < (n : Int)) = true := decide_eq_true hin
      have hm1 : IntKind.i64.wrap (x.2 : Int) = (x.2 : Int) := IntWalk.i64_in _ (by omega)
      have hlen := pairB_len (vs.take k) (fun y hy => HOK.out y (List.mem_of_mem_take hy))
      have hlt' : (vs.take k).length ≤ 1000 := by rw [List.length_take]; omega
      have HP := Lib.hid (fun V => rput_yes (bs (pairB (vs.take k))) x.1 x.2 V hm hv (by rw [bs_size]; omega))
      have HT := Lib.hid (show pairB (vs.take (k + 1)) = pairB (vs.take k) ++ nb x.1 x.2 by
        rw [List.take_succ_eq_append_getElem hlt]
        rw [List.getD_eq_getElem?_getD, List.getElem?_eq_getElem hlt, Option.getD_some] at hx
        rw [← hx]
        simp [pairB])
      have HS := Lib.hid (show wr.drew.heap[g]? = some (.cells (pairV vs).toArray 53 (0, 0)) ∧ Below W.heap.size W wr.drew from ⟨hg, hb.trans ⟨rfl, rfl, rfl, Nat.le_refl _, fun _ _ => rfl⟩⟩)
      have HC := Lib.hid (show ∀ V : World, V.heap[g]? = some (.cells (pairV vs).toArray 53 (0, 0)) → V.cell? ⟨g, i, none⟩ = some (.int .u64 (x.1 : Nat)) ∧ V.cell? ⟨g, i + 1, none⟩ = some (.int .u64 (x.2 : Nat)) from fun V hV => ⟨(cell_of_row _ _ _ _ _ _ hV).trans (by rw [List.getElem?_toArray]; exact c0), (cell_of_row _ _ _ _ _ _ hV).trans (by rw [List.getElem?_toArray]; exact c1)⟩)
      have HI := Lib.hid hi
      clear c0 c1 hx hmem hm hv hlen hlt' hg hb hi
      go_wp2_with fail
      refine wp_region_ord [(0, true), (1, true), (2, true), (3, true), (4, true), (5, true), (6, true), (7, true), (8, true), (9, true), (10, true), (11, false), (12, true), (13, true), (14, true), (15, true)] (fun V => V.heap[g]? = some (.cells (pairV vs).toArray 53 (0, 0)) ∧ Below W.heap.size W V) (by kernel_rfl) (by kernel_rfl) (by decide) (by kernel_rfl) (fun d _ _ _ _ h => by cases d <;> exact h) HS.out ?_
      iterate 11 ((apply wpOrd_take rfl rfl (by kernel_rfl); (intro V hV; obtain ⟨y0, y1⟩ := HC.out V hV.1; go_simp; rfl)); (try simp only [List.setIfInBounds_toArray, List.set_cons_succ, List.set_cons_zero]))
      apply wpOrd_do rfl (by kernel_rfl)
      intro K hK
      go_simp
      refine (HP.out _).mono ?_
      rintro e V ⟨rfl, hb⟩
      have HSV := Lib.hid (show V.heap[g]? = some (.cells (pairV vs).toArray 53 (0, 0)) ∧ Below W.heap.size W V from ⟨(hb.block _ (Array.getElem?_eq_some_iff.1 HS.out.1).1).trans HS.out.1, HS.out.2.trans (hb.mono HS.out.2.size)⟩)
      refine hK _ _ HSV.out ?_
      clear hK K hb
      iterate 4 ((apply wpOrd_take rfl rfl (by kernel_rfl); (intro V hV; go_simp; rfl)); (try simp only [List.setIfInBounds_toArray, List.set_cons_succ, List.set_cons_zero]))
      refine wpOrd_nil ?_
      have HR := Lib.hid (show PutsRel W g vs (.string (bs (pairB (vs.take k) ++ nb x.1 x.2))) (.int .i64 ((i : Int) + 2)) V from ⟨k + 1, by have := HI.out; congr 1; omega, by rw [HT.out], hlt, HSV.out.1, HSV.out.2⟩)
      go_wp2_with fail
      go_roundw
      case rel => first | exact HR.out | ((repeat apply Exists.intro); exact ⟨HR.out, rfl⟩)
      case measure => simp [intOf]; omega
    · obtain rfl : k = vs.length := by omega
      obtain ⟨i, hi⟩ : ∃ i, i = 2 * vs.length := ⟨_, rfl⟩
      have hii : 2 * (vs.length : Int) = (i : Int) := by omega
      have hd1 : decide ((i : Int) + 1 < (n : Int)) = false := decide_eq_false (by have := HN.out; omega)
      have hin : ¬ ((i : Int) + 1 < (n : Int)) := by have := HN.out; omega
      have HT := Lib.hid (show pairB (vs.take vs.length) = pairB vs by rw [List.take_length])
      have HB := Lib.hid hb
      have hi2 : i ≤ 2000 := by omega
      clear hg hb hlt hi
      go_wp2_with fail
      go_returns
      exact ⟨by rw [← HT.out]; rfl, HB.out⟩

end Go.Proofs.Ytcdmmplmkgdejaa
