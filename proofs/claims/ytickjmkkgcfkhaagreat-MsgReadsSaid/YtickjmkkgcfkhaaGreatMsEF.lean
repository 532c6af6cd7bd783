import Derived.Test.YtickjmkkgcfkhaaGreatMsA
import Derived.Test.YtickjmkkgcfkhaaGreatRecH
import Derived.Test.YtickjmkkgcfkhaaGreatRegG
import Derived.Deep.DeepCutAuto
import Derived.Test.YtickjmkkgcfkhaaGreatMsCD
import Derived.Test.YtickjmkkgcfkhaaGreatMsP
/- Contract of the message's numbers: laid one behind the other. -/
set_option linter.unusedSimpArgs false
set_option linter.unusedVariables false
set_option maxRecDepth 100000
set_option maxRecDepth 100000
namespace Go.Proofs.YtickjmkkgcfkhaaGreat
open Go.RowKit Go.ChangeShapes Go.WideShapes

def flat (ps : List (Nat × Nat)) : List Value := ps.flatMap fun p => [.int .u64 p.1, .int .u64 p.2]
def bytesOf (ps : List (Nat × Nat)) : List UInt8 := ps.flatMap fun p => nb p.1 p.2
theorem flat_at : ∀ (ps : List (Nat × Nat)) (k : Nat) (h : k < ps.length), (flat ps)[2 * k]? = some (.int .u64 ps[k].1) ∧ (flat ps)[2 * k + 1]? = some (.int .u64 ps[k].2)
  | [], k, h => by simp at h
  | p :: ps, 0, h => ⟨rfl, rfl⟩
  | p :: ps, k + 1, h => by
    obtain ⟨h1, h2⟩ := flat_at ps k (by simpa using h)
    exact ⟨h1, h2⟩
theorem bytesOf_len (ps : List (Nat × Nat)) (h : ∀ p ∈ ps, p.2 = 1 ∨ p.2 = 2 ∨ p.2 = 4 ∨ p.2 = 8) : (bytesOf ps).length ≤ 8 * ps.length := by
  induction ps with
  | nil => simp [bytesOf]
  | cons p ps ih =>
    have h1 := ih fun q hq => h q (List.mem_cons_of_mem _ hq)
    have h2 := h p (List.mem_cons_self ..)
    have e : bytesOf (p :: ps) = nb p.1 p.2 ++ bytesOf ps := rfl
    rw [e, List.length_append, nb_len, List.length_cons]
    omega
theorem bytesOf_step (ps : List (Nat × Nat)) (k : Nat) (h : k < ps.length) : bytesOf (ps.take (k + 1)) = bytesOf (ps.take k) ++ nb ps[k].1 ps[k].2 := by
  unfold bytesOf
  rw [List.take_add_one, List.flatMap_append, List.getElem?_eq_getElem h]
  simp
def NumRel (W : World) (ps : List (Nat × Nat)) (s i : Value) (wr : World) : Prop := ∃ k q : Nat, i = .int .i64 q ∧ q = 2 * k ∧ k ≤ ps.length ∧ s = .string (bs (bytesOf (ps.take k))) ∧ Below W.heap.size W wr

set_option maxHeartbeats 3200000 in
theorem numbers_any (ps : List (Nat × Nat)) (g N : Nat) (t : TypeId) (fr : Nat × Nat) (W : World) (hN : N = 2 * ps.length) (hg : W.heap[g]? = some (.cells (flat ps).toArray t fr)) (hp : ∀ p ∈ ps, (p.2 = 1 ∨ p.2 = 2 ∨ p.2 = 4 ∨ p.2 = 8) ∧ p.1 < 2 ^ (8 * p.2)) (hl : ps.length ≤ 100) :
    Calls Tryz.prog 63 #[.slice (some ⟨g, 0, none⟩) N N] W fun e W' => e = .returned (.string (bs (bytesOf ps))) ∧ Below W.heap.size W W' := by
  have HCE := Lib.hid (show ∀ (V : World), Below W.heap.size W V → ∀ j u, (flat ps)[j]? = some u → V.cell? ⟨g, j, none⟩ = some u from fun V hb j u hu => by
    have h := (hb.block g (Array.getElem?_eq_some_iff.1 hg).1).trans hg
    rw [cell_of_row V g j _ _ _ h]
    simpa using hu)
  have HN := Lib.hid hN
  have HP := Lib.hid hp
  have HL := Lib.hid hl
  have hN2 : N ≤ 200 := by omega
  have hbs : (⟨#[]⟩ : ByteArray) = bs [] := rfl
  have H0 := Lib.hid (show NumRel W ps (.string (bs [])) (.int .i64 0) W from ⟨0, 0, rfl, rfl, Nat.zero_le _, rfl, Below.refl _ _⟩)
  clear hN hg hp hl
  go_enter Tryz.func63, Tryz.ntmps63
  go_wp2_with fail
  go_loopw [3, 4] (fun s i wr => NumRel W ps s i wr) (fun _ i _ => N - (intOf i).toNat)
  case atStart => exact H0.out
  case round =>
    clear H0
    obtain ⟨k, q, rfl, hq, hk, rfl, hbel⟩ := hrel
    have HBEL := Lib.hid hbel
    have HQ := Lib.hid hq
    have HK := Lib.hid hk
    have hqN : q ≤ N := by rw [HN.out]; omega
    obtain ⟨sv, hsv⟩ : ∃ s, s = bs (bytesOf (ps.take k)) := ⟨_, rfl⟩
    have HSV := Lib.hid hsv
    rw [← hsv]
    clear hbel hq hk hsv
    obtain ⟨q1, hq1⟩ : ∃ q1, q1 = q + 1 := ⟨_, rfl⟩
    obtain ⟨q2, hq2⟩ : ∃ q2, q2 = q + 2 := ⟨_, rfl⟩
    have e1 : (q : Int) + 1 = (q1 : Int) := by omega
    have e2 : (q : Int) + 2 = (q2 : Int) := by omega
    have w1 : IntKind.i64.wrap (q1 : Int) = (q1 : Int) := IntWalk.i64_in _ (by omega)
    have w2 : IntKind.i64.wrap (q2 : Int) = (q2 : Int) := IntWalk.i64_in _ (by omega)
    have HQ1 := Lib.hid hq1
    have HQ2 := Lib.hid hq2
    have hq1b : q1 ≤ 201 := by omega
    have hq2b : q2 ≤ 202 := by omega
    clear hq1 hq2
    by_cases hlt : q1 < N
    · have hlz : decide ((q1 : Int) < (N : Int)) = true := decide_eq_true (by omega)
      have hkl : k < ps.length := by have := HN.out; have := HQ.out; have := HQ1.out; omega
      have hqlt : q < N := by have := HQ1.out; omega
      obtain ⟨f1, f2⟩ := flat_at ps k hkl
      obtain ⟨p1, h1⟩ := HP.out ps[k] (List.getElem_mem hkl)
      have hst := bytesOf_step ps k hkl
      obtain ⟨v, hv⟩ : ∃ v, v = ps[k].1 := ⟨_, rfl⟩
      obtain ⟨m, hm⟩ : ∃ m, m = ps[k].2 := ⟨_, rfl⟩
      rw [← hv] at f1 h1 hst
      rw [← hm] at f2 p1 h1 hst
      have HF1 := Lib.hid (show ∀ V, Below W.heap.size W V → V.cell? ⟨g, q, none⟩ = some (.int .u64 v) from fun V hb => HCE.out V hb q _ (by rw [HQ.out]; exact f1))
      have HF2 := Lib.hid (show ∀ V, Below W.heap.size W V → V.cell? ⟨g, q1, none⟩ = some (.int .u64 m) from fun V hb => HCE.out V hb q1 _ (by rw [HQ1.out, HQ.out]; exact f2))
      have hm8 : m ≤ 8 := by omega
      have hmw : IntKind.i64.wrap (m : Int) = (m : Int) := IntWalk.i64_in _ (by omega)
      have hsz : sv.size ≤ 8 * 100 := by
        rw [HSV.out, bs_size]
        refine Nat.le_trans (bytesOf_len _ fun p hp => (HP.out p (List.mem_of_mem_take hp)).1) ?_
        rw [List.length_take]; have := HL.out; omega
      have HPUT := Lib.hid (fun V => put_yes sv v m V p1 h1 (by omega))
      have HST := Lib.hid (show bs (sv.data.toList ++ beL v m m) = bs (bytesOf (ps.take (k + 1))) by
        rw [HSV.out, hst]; rfl)
      clear f1 f2 hst hv hm h1 p1 hkl
      go_wp2_with fail
      obtain ⟨U, hU⟩ : ∃ U, U = wr.drew := ⟨_, rfl⟩
      have HU := Lib.hid (show Below W.heap.size W U by rw [hU]; exact HBEL.out.trans ⟨rfl, rfl, rfl, Nat.le_refl _, fun _ _ => rfl⟩)
      refine wp_region_ord [(0, true), (1, true), (2, true), (3, true), (4, true), (5, true), (6, true), (7, true), (8, true), (9, true), (10, true), (11, false), (12, true), (13, true), (14, true), (15, true)] (fun V => Below W.heap.size W V) (by kernel_rfl) (by kernel_rfl) (by decide) (by kernel_rfl) (fun d _ _ _ _ h => by cases d <;> first | exact h | exact h.trans ⟨rfl, rfl, rfl, Nat.le_refl _, fun _ _ => rfl⟩) (by rw [← hU]; exact HU.out) ?_
      rw [← hU]
      clear hU
      iterate 11 ((apply wpOrd_take rfl rfl (by kernel_rfl); (intro V hV; have c1 := HF1.out V hV; have c2 := HF2.out V hV; go_simp; rfl)); (try simp only [List.setIfInBounds_toArray, List.set_cons_succ, List.set_cons_zero]))
      apply wpOrd_do rfl (by kernel_rfl)
      intro K hK
      go_simp
      refine (HPUT.out _).mono ?_
      rintro a w ⟨rfl, hb⟩
      have HB := Lib.hid (HU.out.trans (hb.mono HU.out.size))
      rw [HST.out] at *
      refine hK _ _ HB.out ?_
      clear hK K hb
      have HREL := Lib.hid (show NumRel W ps (.string (bs (bytesOf (ps.take (k + 1))))) (.int .i64 (q2 : Int)) w from ⟨k + 1, q2, rfl, by have := HQ.out; have := HQ2.out; omega, by have := HN.out; have := HQ.out; have := HQ1.out; omega, rfl, HB.out⟩)
      iterate 4 ((apply wpOrd_take rfl rfl (by kernel_rfl); (intro V hV; go_simp; rfl)); (try simp only [List.setIfInBounds_toArray, List.set_cons_succ, List.set_cons_zero]))
      refine wpOrd_nil ?_
      go_wp2_with fail
      go_roundw
      case rel => first | exact HREL.out | exact ⟨_, _, HREL.out, rfl⟩ | ((repeat apply Exists.intro); exact ⟨HREL.out, rfl⟩)
      case measure => simp only [intOf]; have := HQ2.out; have := HQ1.out; omega
    · have hlz : decide ((q1 : Int) < (N : Int)) = false := decide_eq_false (by omega)
      have HE := Lib.hid (show bs (bytesOf ps) = sv by rw [HSV.out]; congr 2; exact (List.take_of_length_le (by have := HN.out; have := HQ.out; have := HQ1.out; omega)).symm)
      go_wp2_with fail
      go_returns
      exact ⟨by rw [HE.out]; rfl, HBEL.out⟩

end Go.Proofs.YtickjmkkgcfkhaaGreat

/- Contracts of the message: the bytes of a wish, an ack. (Printed by mkmsf.py.) -/
set_option linter.unusedSimpArgs false
set_option linter.unusedVariables false
set_option maxRecDepth 100000
set_option maxRecDepth 100000
namespace Go.Proofs.YtickjmkkgcfkhaaGreat
open Go.RowKit Go.ChangeShapes Go.WideShapes

def Wi.cs (w : Wi) : Array Value := #[.int .i64 w.frm, .int .u32 w.ep, .int .u32 w.ver, .int .u8 w.grp]
theorem rtr_is {n : Int} (h : rtr n = true) : 1 ≤ n ∧ n ≤ 24 := by simpa [rtr] using h
theorem way_is {m : Ms} (h : m.way = true) : (1 ≤ m.dst ∧ m.dst ≤ 24) ∧ 0 ≤ m.hops ∧ m.hops ≤ 24 := by
  unfold Ms.way at h
  simp only [Bool.and_eq_true, decide_eq_true_eq] at h
  exact ⟨rtr_is h.1.1, h.1.2, h.2⟩

set_option maxHeartbeats 3200000 in
theorem lay4_any (m : Ms) (sa : Option Addr) (sc : Nat) (W : World) (hm : m.ok) (hmay : (m.way && m.wi.may) = true) : Calls Tryz.prog 62 #[m.ag sa sc] W fun e W' => e = .returned (.string (bs (nb m.dst.toNat 1 ++ nb m.hops.toNat 1 ++ nb m.wi.frm.toNat 1 ++ nb m.wi.ep 4 ++ nb m.wi.ver 4 ++ nb m.wi.grp 1))) ∧ Below W.heap.size W W' := by
  obtain ⟨W1, hW1⟩ : ∃ W1, W1 = W.alloc (.cells (m.cs sa sc) 38) := ⟨_, rfl⟩
  obtain ⟨W2, hW2⟩ : ∃ W2, W2 = W1.alloc (.cells (m.wi.cs) 34) := ⟨_, rfl⟩
  rw [Bool.and_eq_true] at hmay
  obtain ⟨hway, hm2⟩ := hmay
  have hb1 : Below W.heap.size W W1 := by rw [hW1]; exact (Below.refl _ _).alloc (Nat.le_refl _) _
  have hb2 : Below W.heap.size W W2 := by rw [hW2]; exact hb1.alloc hb1.size _
  have hbx1 : BoxM W.heap.size m sa sc W1 := by rw [hW1]; exact heap_alloc_new _ _
  have hbx : BoxM W.heap.size m sa sc W2 := hbx1.later (by rw [hW2]; exact (Below.refl _ _).alloc (Nat.le_refl _) _)
  have hby : W2.heap[W1.heap.size]? = some (.cells m.wi.cs 34 (0, 0)) := by rw [hW2]; exact heap_alloc_new _ _
  have x23 : W1.cell? ⟨W.heap.size, 23, none⟩ = some (.int .i64 m.wi.frm) := hbx1.cell rfl
  have x24 : W1.cell? ⟨W.heap.size, 24, none⟩ = some (.int .u32 m.wi.ep) := hbx1.cell rfl
  have x25 : W1.cell? ⟨W.heap.size, 25, none⟩ = some (.int .u32 m.wi.ver) := hbx1.cell rfl
  have x26 : W1.cell? ⟨W.heap.size, 26, none⟩ = some (.int .u8 m.wi.grp) := hbx1.cell rfl
  have z21 : W2.cell? ⟨W.heap.size, 21, none⟩ = some (.int .i64 m.dst) := hbx.cell rfl
  have z22 : W2.cell? ⟨W.heap.size, 22, none⟩ = some (.int .i64 m.hops) := hbx.cell rfl
  have y0 : W2.cell? ⟨W1.heap.size, 0, none⟩ = some (.int .i64 m.wi.frm) := cell_of_row _ _ 0 _ _ _ hby
  have y1 : W2.cell? ⟨W1.heap.size, 1, none⟩ = some (.int .u32 m.wi.ep) := cell_of_row _ _ 1 _ _ _ hby
  have y2 : W2.cell? ⟨W1.heap.size, 2, none⟩ = some (.int .u32 m.wi.ver) := cell_of_row _ _ 2 _ _ _ hby
  have y3 : W2.cell? ⟨W1.heap.size, 3, none⟩ = some (.int .u8 m.wi.grp) := cell_of_row _ _ 3 _ _ _ hby
  obtain ⟨⟨b1, b2⟩, b3, b4⟩ := way_is hway
  unfold Wi.may at hm2
  simp only [Bool.and_eq_true, decide_eq_true_eq] at hm2
  obtain ⟨⟨hr, _⟩, _⟩ := hm2
  obtain ⟨b5, b6⟩ := rtr_is hr
  obtain ⟨_, o1, o2, o3⟩ := hm.2.2.2.2.2.2.1
  obtain ⟨d, hd⟩ : ∃ d : Nat, m.dst = (d : Int) := ⟨m.dst.toNat, by omega⟩
  obtain ⟨h, hh⟩ : ∃ h : Nat, m.hops = (h : Int) := ⟨m.hops.toNat, by omega⟩
  obtain ⟨f, hf⟩ : ∃ f : Nat, m.wi.frm = (f : Int) := ⟨m.wi.frm.toNat, by omega⟩
  obtain ⟨p, hp⟩ : ∃ p : Nat, m.wi.ep = p := ⟨_, rfl⟩
  obtain ⟨v, hv⟩ : ∃ v : Nat, m.wi.ver = v := ⟨_, rfl⟩
  obtain ⟨g, hg⟩ : ∃ g : Nat, m.wi.grp = g := ⟨_, rfl⟩
  have HE := Lib.hid (show bytesOf [(d, 1), (h, 1), (f, 1), (p, 4), (v, 4), (g, 1)] = nb m.dst.toNat 1 ++ nb m.hops.toNat 1 ++ nb m.wi.frm.toNat 1 ++ nb m.wi.ep 4 ++ nb m.wi.ver 4 ++ nb m.wi.grp 1 from by
    rw [hd, hh, hf, hp, hv, hg]; simp [bytesOf])
  rw [hd] at z21
  have ld : d < 256 := by omega
  have udw : IntKind.u64.wrap (d : Int) = (d : Int) := IntWalk.u64_in _ (by omega)
  rw [hh] at z22
  have lh : h < 256 := by omega
  have uhw : IntKind.u64.wrap (h : Int) = (h : Int) := IntWalk.u64_in _ (by omega)
  rw [hf] at y0
  have lf : f < 256 := by omega
  have ufw : IntKind.u64.wrap (f : Int) = (f : Int) := IntWalk.u64_in _ (by omega)
  rw [hp] at y1
  have lp : p < 4294967296 := by omega
  have upw : IntKind.u64.wrap (p : Int) = (p : Int) := IntWalk.u64_in _ (by omega)
  rw [hv] at y2
  have lv : v < 4294967296 := by omega
  have uvw : IntKind.u64.wrap (v : Int) = (v : Int) := IntWalk.u64_in _ (by omega)
  rw [hg] at y3
  have lg : g < 256 := by omega
  have ugw : IntKind.u64.wrap (g : Int) = (g : Int) := IntWalk.u64_in _ (by omega)
  obtain ⟨W3, hW3⟩ : ∃ W3, W3 = W2.alloc (.cells #[.int .u64 d, .int .u64 1, .int .u64 h, .int .u64 1, .int .u64 f, .int .u64 1, .int .u64 p, .int .u64 4, .int .u64 v, .int .u64 4, .int .u64 g, .int .u64 1] 28) := ⟨_, rfl⟩
  have HNUM := Lib.hid (numbers_any [(d, 1), (h, 1), (f, 1), (p, 4), (v, 4), (g, 1)] W2.heap.size 12 28 (0, 0) W3 rfl (by rw [hW3]; exact heap_alloc_new _ _) (by
    intro p hp
    simp only [List.mem_cons, List.not_mem_nil, or_false] at hp
    rcases hp with rfl | rfl | rfl | rfl | rfl | rfl
    all_goals (refine ⟨by omega, ?_⟩; first | exact Nat.lt_of_lt_of_le (by assumption) (by decide) | assumption)) (by simp))
  have HB3 := Lib.hid (show Below W.heap.size W W3 by rw [hW3]; exact hb2.alloc hb2.size _)
  have HW1 := Lib.hid hW1
  have HW2 := Lib.hid hW2
  have HW3 := Lib.hid hW3
  clear hW1 hW2 hW3 hb1 hb2 hbx hbx1 hby hm hway hr b1 b2 b3 b4 b5 b6 hd hh hf hp hv hg
  go_enter Tryz.func62, Tryz.ntmps62
  unfold Ms.ag at *
  go_upto_region 1 with fail
  rw [← HW1.out]
  unfold Wi.cs at *
  go_upto_region 2 with fail
  rw [← HW2.out]
  clear x23 x24 x25 x26
  go_wp2_with fail
  rw [← HW3.out]
  refine HNUM.out.mono ?_
  rintro e w ⟨rfl, hb⟩
  rw [HE.out]
  have HB := Lib.hid (HB3.out.trans (hb.mono HB3.out.size))
  clear hb
  go_wp2_with fail
  go_returns
  exact ⟨rfl, HB.out⟩

set_option maxHeartbeats 3200000 in
theorem lay5_any (m : Ms) (sa : Option Addr) (sc : Nat) (W : World) (hm : m.ok) (hmay : (m.way && m.ak.may) = true) : Calls Tryz.prog 67 #[m.ag sa sc] W fun e W' => e = .returned (.string (bs (nb m.dst.toNat 1 ++ nb m.hops.toNat 1 ++ nb m.ak.frm.toNat 1 ++ nb m.ak.ep 4 ++ nb m.ak.dst.toNat 1 ++ nb m.ak.lif 4 ++ nb m.ak.ver 4))) ∧ Below W.heap.size W W' := by
  obtain ⟨W1, hW1⟩ : ∃ W1, W1 = W.alloc (.cells (m.cs sa sc) 38) := ⟨_, rfl⟩
  obtain ⟨W2, hW2⟩ : ∃ W2, W2 = W1.alloc (.cells (m.ak.cs) 36) := ⟨_, rfl⟩
  rw [Bool.and_eq_true] at hmay
  obtain ⟨hway, hm2⟩ := hmay
  have hb1 : Below W.heap.size W W1 := by rw [hW1]; exact (Below.refl _ _).alloc (Nat.le_refl _) _
  have hb2 : Below W.heap.size W W2 := by rw [hW2]; exact hb1.alloc hb1.size _
  have hbx1 : BoxM W.heap.size m sa sc W1 := by rw [hW1]; exact heap_alloc_new _ _
  have hbx : BoxM W.heap.size m sa sc W2 := hbx1.later (by rw [hW2]; exact (Below.refl _ _).alloc (Nat.le_refl _) _)
  have hby : W2.heap[W1.heap.size]? = some (.cells m.ak.cs 36 (0, 0)) := by rw [hW2]; exact heap_alloc_new _ _
  have x27 : W1.cell? ⟨W.heap.size, 27, none⟩ = some (.int .i64 m.ak.frm) := hbx1.cell rfl
  have x28 : W1.cell? ⟨W.heap.size, 28, none⟩ = some (.int .u32 m.ak.ep) := hbx1.cell rfl
  have x29 : W1.cell? ⟨W.heap.size, 29, none⟩ = some (.int .i64 m.ak.dst) := hbx1.cell rfl
  have x30 : W1.cell? ⟨W.heap.size, 30, none⟩ = some (.int .u32 m.ak.lif) := hbx1.cell rfl
  have x31 : W1.cell? ⟨W.heap.size, 31, none⟩ = some (.int .u32 m.ak.ver) := hbx1.cell rfl
  have z21 : W2.cell? ⟨W.heap.size, 21, none⟩ = some (.int .i64 m.dst) := hbx.cell rfl
  have z22 : W2.cell? ⟨W.heap.size, 22, none⟩ = some (.int .i64 m.hops) := hbx.cell rfl
  have y0 : W2.cell? ⟨W1.heap.size, 0, none⟩ = some (.int .i64 m.ak.frm) := cell_of_row _ _ 0 _ _ _ hby
  have y1 : W2.cell? ⟨W1.heap.size, 1, none⟩ = some (.int .u32 m.ak.ep) := cell_of_row _ _ 1 _ _ _ hby
  have y2 : W2.cell? ⟨W1.heap.size, 2, none⟩ = some (.int .i64 m.ak.dst) := cell_of_row _ _ 2 _ _ _ hby
  have y3 : W2.cell? ⟨W1.heap.size, 3, none⟩ = some (.int .u32 m.ak.lif) := cell_of_row _ _ 3 _ _ _ hby
  have y4 : W2.cell? ⟨W1.heap.size, 4, none⟩ = some (.int .u32 m.ak.ver) := cell_of_row _ _ 4 _ _ _ hby
  obtain ⟨⟨b1, b2⟩, b3, b4⟩ := way_is hway
  unfold Ak.may at hm2
  simp only [Bool.and_eq_true, decide_eq_true_eq] at hm2
  obtain ⟨⟨⟨⟨hr, hr2⟩, _⟩, _⟩, _⟩ := hm2
  obtain ⟨b5, b6⟩ := rtr_is hr
  obtain ⟨b7, b8⟩ := rtr_is hr2
  obtain ⟨_, o1, _, o2, o3⟩ := hm.2.2.2.2.2.2.2
  obtain ⟨d, hd⟩ : ∃ d : Nat, m.dst = (d : Int) := ⟨m.dst.toNat, by omega⟩
  obtain ⟨h, hh⟩ : ∃ h : Nat, m.hops = (h : Int) := ⟨m.hops.toNat, by omega⟩
  obtain ⟨f, hf⟩ : ∃ f : Nat, m.ak.frm = (f : Int) := ⟨m.ak.frm.toNat, by omega⟩
  obtain ⟨p, hp⟩ : ∃ p : Nat, m.ak.ep = p := ⟨_, rfl⟩
  obtain ⟨t, ht⟩ : ∃ t : Nat, m.ak.dst = (t : Int) := ⟨m.ak.dst.toNat, by omega⟩
  obtain ⟨l, hl⟩ : ∃ l : Nat, m.ak.lif = l := ⟨_, rfl⟩
  obtain ⟨v, hv⟩ : ∃ v : Nat, m.ak.ver = v := ⟨_, rfl⟩
  have HE := Lib.hid (show bytesOf [(d, 1), (h, 1), (f, 1), (p, 4), (t, 1), (l, 4), (v, 4)] = nb m.dst.toNat 1 ++ nb m.hops.toNat 1 ++ nb m.ak.frm.toNat 1 ++ nb m.ak.ep 4 ++ nb m.ak.dst.toNat 1 ++ nb m.ak.lif 4 ++ nb m.ak.ver 4 from by
    rw [hd, hh, hf, hp, ht, hl, hv]; simp [bytesOf])
  rw [hd] at z21
  have ld : d < 256 := by omega
  have udw : IntKind.u64.wrap (d : Int) = (d : Int) := IntWalk.u64_in _ (by omega)
  rw [hh] at z22
  have lh : h < 256 := by omega
  have uhw : IntKind.u64.wrap (h : Int) = (h : Int) := IntWalk.u64_in _ (by omega)
  rw [hf] at y0
  have lf : f < 256 := by omega
  have ufw : IntKind.u64.wrap (f : Int) = (f : Int) := IntWalk.u64_in _ (by omega)
  rw [hp] at y1
  have lp : p < 4294967296 := by omega
  have upw : IntKind.u64.wrap (p : Int) = (p : Int) := IntWalk.u64_in _ (by omega)
  rw [ht] at y2
  have lt : t < 256 := by omega
  have utw : IntKind.u64.wrap (t : Int) = (t : Int) := IntWalk.u64_in _ (by omega)
  rw [hl] at y3
  have ll : l < 4294967296 := by omega
  have ulw : IntKind.u64.wrap (l : Int) = (l : Int) := IntWalk.u64_in _ (by omega)
  rw [hv] at y4
  have lv : v < 4294967296 := by omega
  have uvw : IntKind.u64.wrap (v : Int) = (v : Int) := IntWalk.u64_in _ (by omega)
  obtain ⟨W3, hW3⟩ : ∃ W3, W3 = W2.alloc (.cells #[.int .u64 d, .int .u64 1, .int .u64 h, .int .u64 1, .int .u64 f, .int .u64 1, .int .u64 p, .int .u64 4, .int .u64 t, .int .u64 1, .int .u64 l, .int .u64 4, .int .u64 v, .int .u64 4] 28) := ⟨_, rfl⟩
  have HNUM := Lib.hid (numbers_any [(d, 1), (h, 1), (f, 1), (p, 4), (t, 1), (l, 4), (v, 4)] W2.heap.size 14 28 (0, 0) W3 rfl (by rw [hW3]; exact heap_alloc_new _ _) (by
    intro p hp
    simp only [List.mem_cons, List.not_mem_nil, or_false] at hp
    rcases hp with rfl | rfl | rfl | rfl | rfl | rfl | rfl
    all_goals (refine ⟨by omega, ?_⟩; first | exact Nat.lt_of_lt_of_le (by assumption) (by decide) | assumption)) (by simp))
  have HB3 := Lib.hid (show Below W.heap.size W W3 by rw [hW3]; exact hb2.alloc hb2.size _)
  have HW1 := Lib.hid hW1
  have HW2 := Lib.hid hW2
  have HW3 := Lib.hid hW3
  clear hW1 hW2 hW3 hb1 hb2 hbx hbx1 hby hm hway hr b1 b2 b3 b4 b5 b6 hd hh hf hp ht hl hv hr2 b7 b8
  go_enter Tryz.func67, Tryz.ntmps67
  unfold Ms.ag at *
  go_upto_region 1 with fail
  rw [← HW1.out]
  unfold Ak.cs at *
  go_upto_region 2 with fail
  rw [← HW2.out]
  clear x27 x28 x29 x30 x31
  go_wp2_with fail
  rw [← HW3.out]
  refine HNUM.out.mono ?_
  rintro e w ⟨rfl, hb⟩
  rw [HE.out]
  have HB := Lib.hid (HB3.out.trans (hb.mono HB3.out.size))
  clear hb
  go_wp2_with fail
  go_returns
  exact ⟨rfl, HB.out⟩

end Go.Proofs.YtickjmkkgcfkhaaGreat
