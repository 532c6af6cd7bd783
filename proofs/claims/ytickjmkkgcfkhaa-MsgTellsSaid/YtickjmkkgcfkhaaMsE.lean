/- Contract of the message's numbers: laid one behind the other. -/
import Derived.Test.YtickjmkkgcfkhaaMsA
import Derived.Test.YtickjmkkgcfkhaaRecH
import Derived.Test.YtickjmkkgcfkhaaRegion2
import Derived.Test.YtickjmkkgcfkhaaRegion3
import Derived.Deep.DeepCutAuto
set_option linter.unusedSimpArgs false
set_option linter.unusedVariables false
set_option maxRecDepth 100000
set_option maxRecDepth 100000
namespace Go.Proofs.Ytickjmkkgcfkhaa
open Go.RowKit Go.ChangeShapes Go.WideShapes

def flat (ps : List (Nat × Nat)) : List Value := ps.flatMap fun p => [.int .u64 p.1, .int .u64 p.2]
def bytesOf (ps : List (Nat × Nat)) : List UInt8 := ps.flatMap fun p => nb p.1 p.2
theorem flat_at : ∀ (ps : List (Nat × Nat)) (k : Nat) (h : k < ps.length), (flat ps)[2 * k]? = some (.int .u64 ps[k].1) ∧ (flat ps)[2 * k + 1]? = some (.int .u64 ps[k].2)
  | [], k, h => by simp at h
  | p :: ps, 0, h => ⟨rfl, rfl⟩
  | p :: ps, k + 1, h => by
    obtain ⟨h1, h2⟩ := flat_at ps k (by simpa using h)
    exact ⟨h1, h2⟩
theorem bytesOf_len (ps : List (Nat × Nat)) (h : ∀ p ∈ ps, p.2 = 1 ∨ p.2 = 2 ∨ p.2 = 4 ∨ p.2 = 8) : (bytesOf ps).length ≤ 8 * ps.length := by
  induction ps with
  | nil => simp [bytesOf]
  | cons p ps ih =>
    have h1 := ih fun q hq => h q (List.mem_cons_of_mem _ hq)
    have h2 := h p (List.mem_cons_self ..)
    have e : bytesOf (p :: ps) = nb p.1 p.2 ++ bytesOf ps := rfl
    rw [e, List.length_append, nb_len, List.length_cons]
    omega
theorem bytesOf_step (ps : List (Nat × Nat)) (k : Nat) (h : k < ps.length) : bytesOf (ps.take (k + 1)) = bytesOf (ps.take k) ++ nb ps[k].1 ps[k].2 := by
  unfold bytesOf
  rw [List.take_add_one, List.flatMap_append, List.getElem?_eq_getElem h]
  simp
def NumRel (W : World) (ps : List (Nat × Nat)) (s i : Value) (wr : World) : Prop := ∃ k q : Nat, i = .int .i64 q ∧ q = 2 * k ∧ k ≤ ps.length ∧ s = .string (bs (bytesOf (ps.take k))) ∧ Below W.heap.size W wr

set_option maxHeartbeats 3200000 in
theorem numbers_any (ps : List (Nat × Nat)) (g N : Nat) (t : TypeId) (fr : Nat × Nat) (W : World) (hN : N = 2 * ps.length) (hg : W.heap[g]? = some (.cells (flat ps).toArray t fr)) (hp : ∀ p ∈ ps, (p.2 = 1 ∨ p.2 = 2 ∨ p.2 = 4 ∨ p.2 = 8) ∧ p.1 < 2 ^ (8 * p.2)) (hl : ps.length ≤ 100) :
    Calls Try.prog 74 #[.slice (some ⟨g, 0, none⟩) N N] W fun e W' => e = .returned (.string (bs (bytesOf ps))) ∧ Below W.heap.size W W' := by
  have HCE := Lib.hid (show ∀ (V : World), Below W.heap.size W V → ∀ j u, (flat ps)[j]? = some u → V.cell? ⟨g, j, none⟩ = some u from fun V hb j u hu => by
    have h := (hb.block g (Array.getElem?_eq_some_iff.1 hg).1).trans hg
    rw [cell_of_row V g j _ _ _ h]
    simpa using hu)
  have HN := Lib.hid hN
  have HP := Lib.hid hp
  have HL := Lib.hid hl
  have hN2 : N ≤ 200 := by omega
  have hbs : (⟨#[]⟩ : ByteArray) = bs [] := rfl
  have H0 := Lib.hid (show NumRel W ps (.string (bs [])) (.int .i64 0) W from ⟨0, 0, rfl, rfl, Nat.zero_le _, rfl, Below.refl _ _⟩)
  clear hN hg hp hl
  go_enter Try.func74, Try.ntmps74
  go_wp2_with fail
  go_loopw [3, 4] (fun s i wr => NumRel W ps s i wr) (fun _ i _ => N - (intOf i).toNat)
  case atStart => exact H0.out
  case round =>
    clear H0
    obtain ⟨k, q, rfl, hq, hk, rfl, hbel⟩ := hrel
    have HBEL := Lib.hid hbel
    have HQ := Lib.hid hq
    have HK := Lib.hid hk
    have hqN : q ≤ N := by rw [HN.out]; omega
    obtain ⟨sv, hsv⟩ : ∃ s, s = bs (bytesOf (ps.take k)) := ⟨_, rfl⟩
    have HSV := Lib.hid hsv
    rw [← hsv]
    clear hbel hq hk hsv
    obtain ⟨q1, hq1⟩ : ∃ q1, q1 = q + 1 := ⟨_, rfl⟩
    obtain ⟨q2, hq2⟩ : ∃ q2, q2 = q + 2 := ⟨_, rfl⟩
    have e1 : (q : Int) + 1 = (q1 : Int) := by omega
    have e2 : (q : Int) + 2 = (q2 : Int) := by omega
    have w1 : IntKind.i64.wrap (q1 : Int) = (q1 : Int) := IntWalk.i64_in _ (by omega)
    have w2 : IntKind.i64.wrap (q2 : Int) = (q2 : Int) := IntWalk.i64_in _ (by omega)
    have HQ1 := Lib.hid hq1
    have HQ2 := Lib.hid hq2
    have hq1b : q1 ≤ 201 := by omega
    have hq2b : q2 ≤ 202 := by omega
    clear hq1 hq2
    by_cases hlt : q1 < N
    · have hlz : decide ((q1 : Int) < (N : Int)) = true := decide_eq_true (by omega)
      have hkl : k < ps.length := by have := HN.out; have := HQ.out; have := HQ1.out; omega
      have hqlt : q < N := by have := HQ1.out; omega
      obtain ⟨f1, f2⟩ := flat_at ps k hkl
      obtain ⟨p1, h1⟩ := HP.out ps[k] (List.getElem_mem hkl)
      have hst := bytesOf_step ps k hkl
      obtain ⟨v, hv⟩ : ∃ v, v = ps[k].1 := ⟨_, rfl⟩
      obtain ⟨m, hm⟩ : ∃ m, m = ps[k].2 := ⟨_, rfl⟩
      rw [← hv] at f1 h1 hst
      rw [← hm] at f2 p1 h1 hst
      have HF1 := Lib.hid (show ∀ V, Below W.heap.size W V → V.cell? ⟨g, q, none⟩ = some (.int .u64 v) from fun V hb => HCE.out V hb q _ (by rw [HQ.out]; exact f1))
      have HF2 := Lib.hid (show ∀ V, Below W.heap.size W V → V.cell? ⟨g, q1, none⟩ = some (.int .u64 m) from fun V hb => HCE.out V hb q1 _ (by rw [HQ1.out, HQ.out]; exact f2))
      have hm8 : m ≤ 8 := by omega
      have hmw : IntKind.i64.wrap (m : Int) = (m : Int) := IntWalk.i64_in _ (by omega)
      have hsz : sv.size ≤ 8 * 100 := by
        rw [HSV.out, bs_size]
        refine Nat.le_trans (bytesOf_len _ fun p hp => (HP.out p (List.mem_of_mem_take hp)).1) ?_
        rw [List.length_take]; have := HL.out; omega
      have HPUT := Lib.hid (fun V => put_yes sv v m V p1 h1 (by omega))
      have HST := Lib.hid (show bs (sv.data.toList ++ beL v m m) = bs (bytesOf (ps.take (k + 1))) by
        rw [HSV.out, hst]; rfl)
      clear f1 f2 hst hv hm h1 p1 hkl
      go_wp2_with fail
      obtain ⟨U, hU⟩ : ∃ U, U = wr.drew := ⟨_, rfl⟩
      have HU := Lib.hid (show Below W.heap.size W U by rw [hU]; exact HBEL.out.trans ⟨rfl, rfl, rfl, Nat.le_refl _, fun _ _ => rfl⟩)
      refine wp_region_ord [(0, true), (1, true), (2, true), (3, true), (4, true), (5, true), (6, true), (7, true), (8, true), (9, true), (10, true), (11, false), (12, true), (13, true), (14, true), (15, true)] (fun V => Below W.heap.size W V) (by kernel_rfl) (by kernel_rfl) (by decide) (by kernel_rfl) (fun d _ _ _ _ h => by cases d <;> first | exact h | exact h.trans ⟨rfl, rfl, rfl, Nat.le_refl _, fun _ _ => rfl⟩) (by rw [← hU]; exact HU.out) ?_
      rw [← hU]
      clear hU
      iterate 11 ((apply wpOrd_take rfl rfl (by kernel_rfl); (intro V hV; have c1 := HF1.out V hV; have c2 := HF2.out V hV; go_simp; rfl)); (try simp only [List.setIfInBounds_toArray, List.set_cons_succ, List.set_cons_zero]))
      apply wpOrd_do rfl (by kernel_rfl)
      intro K hK
      go_simp
      refine (HPUT.out _).mono ?_
      rintro a w ⟨rfl, hb⟩
      have HB := Lib.hid (HU.out.trans (hb.mono HU.out.size))
      rw [HST.out] at *
      refine hK _ _ HB.out ?_
      clear hK K hb
      have HREL := Lib.hid (show NumRel W ps (.string (bs (bytesOf (ps.take (k + 1))))) (.int .i64 (q2 : Int)) w from ⟨k + 1, q2, rfl, by have := HQ.out; have := HQ2.out; omega, by have := HN.out; have := HQ.out; have := HQ1.out; omega, rfl, HB.out⟩)
      iterate 4 ((apply wpOrd_take rfl rfl (by kernel_rfl); (intro V hV; go_simp; rfl)); (try simp only [List.setIfInBounds_toArray, List.set_cons_succ, List.set_cons_zero]))
      refine wpOrd_nil ?_
      go_wp2_with fail
      go_roundw
      case rel => first | exact HREL.out | exact ⟨_, _, HREL.out, rfl⟩ | ((repeat apply Exists.intro); exact ⟨HREL.out, rfl⟩)
      case measure => simp only [intOf]; have := HQ2.out; have := HQ1.out; omega
    · have hlz : decide ((q1 : Int) < (N : Int)) = false := decide_eq_false (by omega)
      have HE := Lib.hid (show bs (bytesOf ps) = sv by rw [HSV.out]; congr 2; exact (List.take_of_length_le (by have := HN.out; have := HQ.out; have := HQ1.out; omega)).symm)
      go_wp2_with fail
      go_returns
      exact ⟨by rw [HE.out]; rfl, HBEL.out⟩

end Go.Proofs.Ytickjmkkgcfkhaa
