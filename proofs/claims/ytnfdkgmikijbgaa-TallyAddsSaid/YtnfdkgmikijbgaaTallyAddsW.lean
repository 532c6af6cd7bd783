/- The walk of the law TallyAdds. -/
import Derived.Test.YtnfdkgmikijbgaaTallyP
set_option linter.unusedSimpArgs false
set_option linter.unusedVariables false
namespace Go.Proofs.Ytnfdkgmikijbgaa
open Go.RowKit Go.ChangeShapes Go.WideShapes

theorem addr_add_zero2 (a : Addr) : a.add 0 = a := by simp [Addr.add]
/-- A router's number off a byte. -/
theorem rt_fact {m : Mk} (h : m.ok) : ∃ q r : Nat, q < 24 ∧ m.rt.tmod 24 = (q : Int) ∧ IntKind.i64.wrap (q : Int) = (q : Int) ∧ (1 : Int) + (q : Int) = (r : Int) ∧ IntKind.i64.wrap (r : Int) = (r : Int) ∧ r = m.r := by
  obtain ⟨⟨h0, h1⟩, _⟩ := h
  refine ⟨m.rt.toNat % 24, m.r, by omega, ?_, IntWalk.i64_in _ (by omega), ?_, ?_, rfl⟩
  · rw [Int.tmod_eq_emod_of_nonneg h0]; omega
  · unfold Mk.r; omega
  · exact IntWalk.i64_in _ (by have := Mk.r_le m; omega)
def runM (M : List Mk) : List Cn := M.foldl stepT tl0
def AddsRel (W : World) (l : List Mk) (n : Nat) (i : Value) (wr : World) : Prop :=
  ∃ k : Nat, i = .int .i64 k ∧ k ≤ n ∧ TAt wr W.heap.size W.heap.size (runM ((l.take n).take k)) ∧ TAt wr W.heap.size (W.heap.size + 1) (runM ((l.take n).reverse.take k)) ∧ Below W.heap.size W wr
def AddsSum (W : World) (M : List Mk) (g : Nat) (i : Value) (wr : World) : Prop :=
  ∃ r : Nat, i = .int .i64 ((r : Int) + 1) ∧ r ≤ 24 ∧ TAt wr W.heap.size W.heap.size (runM M) ∧ TAt wr W.heap.size (W.heap.size + 1) (runM M.reverse) ∧ BoxC g (sumR M r) wr ∧ Below W.heap.size W wr

theorem all_is (t : Nat) (B : Nat) (L : List Cn) (c : Cn) (hc : sumC L = c) (W : World) (H : TAt W B t L) :
    Calls Try.prog 14 #[.pointer (some ⟨t, 0, none⟩)] W fun e W' => e = .returned (.agg #[.int .u64 c.got, .int .u64 c.loc, .int .u64 c.cop, .int .u64 c.los, .int .u64 c.exp, .int .u64 c.bad]) ∧ Below W.heap.size W W' := by
  have := all_any t B L W H
  rw [hc] at this
  exact this

set_option maxRecDepth 100000 in
set_option maxHeartbeats 4000000 in
theorem tallyAdds_walk (x : Option Addr × Nat × List Mk) (W : World) (hx : StructsAt W x.1 11 (x.2.2.map fun m => m.cells.toList) ∧ (∀ m ∈ x.2.2, m.ok) ∧ x.2.2.length ≤ maxLen) :
    Calls Try.prog 4 #[.slice x.1 x.2.2.length x.2.1] W fun e W' => e = .returned (.bool true) ∧ Below W.heap.size W W' := by
  obtain ⟨a, cap, l⟩ := x
  obtain ⟨hx, hok, hlen⟩ := hx
  simp only at hx hok hlen ⊢
  obtain ⟨N, hN⟩ : ∃ N, N = l.length := ⟨_, rfl⟩
  rw [← hN] at hlen ⊢
  unfold maxLen at hlen
  obtain ⟨n, hn⟩ : ∃ n, n = min l.length 50 := ⟨_, rfl⟩
  have hmin : min (N : Int) 50 = (n : Int) := by omega
  have hnl : n ≤ l.length := by omega
  have hn50 : n ≤ 50 := by omega
  have hmk : ∀ (ats : Array TypeId) (ty : TypeId) (w : World), Sem.run Try.prog (Builtin.min_ ats ty #[.int .i64 (N : Int), .int .i64 50]) w = .ok (.int .i64 (n : Int)) w := by
    intro ats ty w
    by_cases h : (N : Int) ≤ 50
    · rw [← hmin, Int.min_eq_left h]
      simp [Builtin.min_, Builtin.min2, h, go_sem]; omega
    · rw [← hmin, Int.min_eq_right (by omega)]
      simp [Builtin.min_, Builtin.min2, h, go_sem]
  clear hmin
  have HN := Lib.hid hN
  have HX := Lib.hid hx
  have HOK := Lib.hid hok
  have HW := Lib.hid (works_any)
  obtain ⟨W1, hW1⟩ : ∃ W1, W1 = W.alloc (.cells (tlC tl0).toArray 61) := ⟨_, rfl⟩
  obtain ⟨W2, hW2⟩ : ∃ W2, W2 = W1.alloc (.cells (tlC tl0).toArray 61) := ⟨_, rfl⟩
  have hs1 : W1.heap.size = W.heap.size + 1 := by rw [hW1, World.size_alloc]
  have h1 : AddsRel W l n (.int .i64 0) W2 := by
    have hb1 : Below W.heap.size W W1 := by rw [hW1]; exact (Below.refl _ _).alloc (Nat.le_refl _) _
    have hb2 : Below W1.heap.size W1 W2 := by rw [hW2]; exact (Below.refl _ _).alloc (Nat.le_refl _) _
    refine ⟨0, rfl, by omega, ?_, ?_, hb1.trans (hb2.mono hb1.size)⟩
    · have := new_at W (B := W.heap.size) (Nat.le_refl _)
      rw [← hW1] at this
      exact this.later hb2
    · have := new_at W1 (B := W.heap.size) (by omega)
      rw [← hW2, hs1] at this
      exact this
  have H1 := Lib.hid h1
  have HW1 := Lib.hid hW1
  have HW2 := Lib.hid hW2
  have HS1 := Lib.hid hs1
  clear hx hN hok h1 hW1 hW2 hn hs1
  go_enter Try.func4, Try.ntmps4
  go_wp2_with fail
  refine (new_any W).mono ?_
  rintro e w1 ⟨rfl, rfl⟩
  rw [← HW1.out]
  go_wp2_with fail
  refine (new_any W1).mono ?_
  rintro e w1 ⟨rfl, rfl⟩
  rw [← HW2.out, HS1.out]
  go_wp2_with fail
  go_loopw [6] (fun i wr => AddsRel W l n i wr) (fun i _ => 50 - (intOf i).toNat)
  case atStart => exact H1.out
  case round =>
    obtain ⟨k, rfl, hk, hta, htb, hb⟩ := hrel
    by_cases hkn : k < n
    · obtain ⟨q, hq⟩ : ∃ q, q + k + 1 = n := ⟨n - 1 - k, by omega⟩
      have hkl : k < l.length := by omega
      have hql : q < l.length := by omega
      obtain ⟨m, hm⟩ : ∃ m, l[k]? = some m := ⟨_, List.getElem?_eq_getElem hkl⟩
      obtain ⟨p, hp⟩ : ∃ p, l[q]? = some p := ⟨_, List.getElem?_eq_getElem hql⟩
      have HM := Lib.hid (HOK.out m (List.mem_of_getElem? hm))
      have HP := Lib.hid (HOK.out p (List.mem_of_getElem? hp))
      obtain ⟨ad, ha, hc⟩ := HX.out.row (i := k) (row := m.cells.toList) (by rw [List.getElem?_map, hm]; rfl) (by simp [Mk.cells])
      obtain ⟨ad', ha', hc'⟩ := HX.out.row (i := q) (row := p.cells.toList) (by rw [List.getElem?_map, hp]; rfl) (by simp [Mk.cells])
      subst ha
      simp only [Option.some.injEq] at ha'
      subst ha'
      have HC := Lib.hid (fun (V : World) (hV : Below W.heap.size W V) => hc V hV)
      have HC2 := Lib.hid (fun (V : World) (hV : Below W.heap.size W V) => hc' V hV)
      obtain ⟨qm, rm, qm24, qm1, qm2, qm3, qm4, hrm⟩ := rt_fact HM.out
      obtain ⟨qp, rp, qp24, qp1, qp2, qp3, qp4, hrp⟩ := rt_fact HP.out
      have hrm1 : 1 ≤ rm := by rw [hrm]; exact (Mk.r_le m).1
      have hrm2 : rm ≤ 24 := by rw [hrm]; exact (Mk.r_le m).2
      have hrp1 : 1 ≤ rp := by rw [hrp]; exact (Mk.r_le p).1
      have hrp2 : rp ≤ 24 := by rw [hrp]; exact (Mk.r_le p).2
      have HEND := Lib.hid (show ∀ (sa sb : Option Addr) (sc sd : Nat) (V : World), TAt V W.heap.size W.heap.size ((runM ((l.take n).take k)).set rm (((runM ((l.take n).take k)).getD rm default).add (m.dn sa sc).of)) → TAt V W.heap.size (W.heap.size + 1) ((runM ((l.take n).reverse.take k)).set rp (((runM ((l.take n).reverse.take k)).getD rp default).add (p.dn sb sd).of)) → Below W.heap.size W V → AddsRel W l n (.int .i64 ((k : Int) + 1)) V from fun sa sb sc sd V h1 h2 h3 => by
        refine ⟨k + 1, by go_num, by omega, ?_, ?_, h3⟩
        · rw [← show stepT (runM ((l.take n).take k)) m = runM ((l.take n).take (k + 1)) from fold_take (by rw [List.getElem?_take, if_pos hkn]; exact hm) _]
          rw [hrm] at h1; exact h1
        · rw [← show stepT (runM ((l.take n).reverse.take k)) p = runM ((l.take n).reverse.take (k + 1)) from fold_take (by rw [rev_get hnl hq]; exact hp) _]
          rw [hrp] at h2; exact h2)
      obtain ⟨n1, hn1⟩ : ∃ n1, n1 + 1 = n := ⟨n - 1, by omega⟩
      have hw1 : IntKind.i64.wrap ((n : Int) - 1) = (n1 : Int) := by rw [IntWalk.i64_in _ (by omega)]; omega
      have hw2 : IntKind.i64.wrap ((n1 : Int) - (k : Int)) = (q : Int) := by rw [IntWalk.i64_in _ (by omega)]; omega
      have hkN : (k : Int) < N := by rw [HN.out]; omega
      have hqN : (q : Int) < N := by rw [HN.out]; omega
      have hkn' : decide (k < n) = true := decide_eq_true hkn
      have HTA0 := Lib.hid (show TAt wr.drew _ _ _ from TAt.later hta ⟨rfl, rfl, rfl, Nat.le_refl _, fun _ _ => rfl⟩)
      have HTB0 := Lib.hid (show TAt wr.drew _ _ _ from TAt.later htb ⟨rfl, rfl, rfl, Nat.le_refl _, fun _ _ => rfl⟩)
      have HB0 := Lib.hid (show Below W.heap.size W wr.drew from hb.trans ⟨rfl, rfl, rfl, Nat.le_refl _, fun _ _ => rfl⟩)
      clear hq hkl hql hm hp hc hc' hta htb hb hrm hrp hn1
      go_wp2_with fail
      refine wp_region_ord [(0, true), (1, true), (2, true), (3, true), (4, true), (5, true), (6, true), (7, true), (8, true), (9, true), (10, true), (11, true), (12, true), (13, false), (14, false), (15, true), (16, true), (17, true), (18, true), (19, true), (20, true), (21, true), (22, true), (23, true), (24, true), (25, true), (26, true), (27, true), (28, true), (29, true), (30, true), (31, true), (32, true), (33, true), (34, true), (35, true), (36, false), (37, false), (38, true), (39, true)] (fun V => Below W.heap.size W V) (by kernel_rfl) (by kernel_rfl) (by decide) (by kernel_rfl) (fun d _ _ _ _ h => by cases d <;> exact h) HB0.out ?_
      iterate 12 ((apply wpOrd_take rfl rfl (by kernel_rfl); (intro V hV; have c0 := HC.out V hV 0 _ rfl; rw [addr_add_zero2] at c0; go_simp; rfl)); (try simp only [List.setIfInBounds_toArray, List.set_cons_succ, List.set_cons_zero]))
      (apply wpOrd_take rfl rfl (by kernel_rfl) (v := .agg m.cells)); · (intro V hV; exact run_load_cs _ _ 31 _ rfl (ad.add (k * 11)) rfl m.cells.toList _ (HC.out V hV) Try.underlying31 rfl (by kernel_rfl))
      (try simp only [List.setIfInBounds_toArray, List.set_cons_succ, List.set_cons_zero])
      apply wpOrd_do rfl (by kernel_rfl)
      intro K hK
      go_simp
      refine (done_any m _ HM.out).mono ?_
      rintro e V1 ⟨sa1, sc1, rfl, hb⟩
      have HB1 := Lib.hid (HB0.out.trans (hb.mono HB0.out.size))
      have HTA1 := Lib.hid (TAt.later HTA0.out hb)
      have HTB1 := Lib.hid (TAt.later HTB0.out hb)
      refine hK _ _ HB1.out ?_
      clear hK K hb
      apply wpOrd_do rfl (by kernel_rfl)
      intro K hK
      go_simp
      refine (note_any _ rm _ _ _ V1 HTA1.out (Mk.dn_ok HM.out sa1 sc1) hrm1 hrm2).mono ?_
      rintro e V2 ⟨rfl, ht, hg⟩
      have HB2 := Lib.hid (HTA1.out.bel HB1.out hg (Nat.le_refl _))
      have HTA2 := Lib.hid ht
      have HTB2 := Lib.hid (TAt.kept HTB1.out hg (by simp))
      refine hK _ _ HB2.out ?_
      clear hK K ht hg
      iterate 20 ((apply wpOrd_take rfl rfl (by kernel_rfl); (intro V hV; have c0 := HC2.out V hV 0 _ rfl; rw [addr_add_zero2] at c0; go_simp; rfl)); (try simp only [List.setIfInBounds_toArray, List.set_cons_succ, List.set_cons_zero]))
      (apply wpOrd_take rfl rfl (by kernel_rfl) (v := .agg p.cells)); · (intro V hV; exact run_load_cs _ _ 31 _ rfl (ad.add (q * 11)) rfl p.cells.toList _ (HC2.out V hV) Try.underlying31 rfl (by kernel_rfl))
      (try simp only [List.setIfInBounds_toArray, List.set_cons_succ, List.set_cons_zero])
      apply wpOrd_do rfl (by kernel_rfl)
      intro K hK
      go_simp
      refine (done_any p _ HP.out).mono ?_
      rintro e V3 ⟨sa3, sc3, rfl, hb⟩
      have HB3 := Lib.hid (HB2.out.trans (hb.mono HB2.out.size))
      have HTA3 := Lib.hid (TAt.later HTA2.out hb)
      have HTB3 := Lib.hid (TAt.later HTB2.out hb)
      refine hK _ _ HB3.out ?_
      clear hK K hb
      apply wpOrd_do rfl (by kernel_rfl)
      intro K hK
      go_simp
      refine (note_any _ rp _ _ _ V3 HTB3.out (Mk.dn_ok HP.out sa3 sc3) hrp1 hrp2).mono ?_
      rintro e V4 ⟨rfl, ht, hg⟩
      have HB4 := Lib.hid (HTB3.out.bel HB3.out hg (Nat.le_refl _))
      have HTB4 := Lib.hid ht
      have HTA4 := Lib.hid (TAt.kept HTA3.out hg (by simp))
      refine hK _ _ HB4.out ?_
      clear hK K ht hg
      iterate 2 ((apply wpOrd_take rfl rfl (by kernel_rfl); (intro V hV; go_simp; rfl)); (try simp only [List.setIfInBounds_toArray, List.set_cons_succ, List.set_cons_zero]))
      refine wpOrd_nil ?_
      have HR := Lib.hid (HEND.out _ _ _ _ _ HTA4.out HTB4.out HB4.out)
      go_wp2_with fail
      go_roundw
      case rel => first | exact HR.out | ((repeat apply Exists.intro); exact ⟨HR.out, rfl⟩)
      case measure => simp [intOf]; omega
    · obtain rfl : k = n := by omega
      obtain ⟨M, hM⟩ : ∃ M, M = l.take k := ⟨_, rfl⟩
      have hMl : M.length = k := by rw [hM, List.length_take]; omega
      have hMok : ∀ m ∈ M, m.ok := fun m hm => HOK.out m (List.mem_of_mem_take (hM ▸ hm))
      have hRok : ∀ m ∈ M.reverse, m.ok := fun m hm => hMok m (by simpa using hm)
      rw [← hM, List.take_of_length_le (by omega)] at hta
      rw [← hM, List.take_of_length_le (by simp; omega)] at htb
      have hga : ∀ r, r < 25 → (runM M).getD r default = tot r M := fun r hr => run_get (by omega) hMok hr
      have hgb : ∀ r, r < 25 → (runM M.reverse).getD r default = tot r M := fun r hr => by
        rw [← tot_reverse]; exact run_get (by simp; omega) hRok hr
      have GA := Lib.hid hga
      have GB := Lib.hid hgb
      have SA := Lib.hid (sumC_all (by omega) hMok hta.len hga)
      have SB := Lib.hid (sumC_all (by omega) hMok htb.len hgb)
      have SG := Lib.hid (show (sumR M 24).got = (k : Int) from by rw [sumR_all, hMl])
      have SM := Lib.hid (show ∀ r, r ≤ 24 → (sumR M r).small 614400 from fun r hr => Cn.small_le (sumR_small (by omega) hMok r) (by omega))
      have SM2 := Lib.hid (show ∀ r, (tot r M).small 25600 from fun r => Cn.small_le (tot_small r M hMok) (by omega))
      obtain ⟨X0, hX0⟩ : ∃ X0, X0 = wr.alloc (.cells #[.int .u64 0, .int .u64 0, .int .u64 0, .int .u64 0, .int .u64 0, .int .u64 0] 37) := ⟨_, rfl⟩
      have hx0 : Below wr.heap.size wr X0 := by rw [hX0]; exact (Below.refl _ _).alloc (Nat.le_refl _) _
      have hr0 : AddsSum W M wr.heap.size (.int .i64 1) X0 := ⟨0, rfl, by omega, hta.later hx0, htb.later hx0, by rw [hX0]; exact heap_alloc_new _ _, hb.trans (hx0.mono hb.size)⟩
      have hg7 : W.heap.size + 1 < wr.heap.size := htb.lt
      have HR0 := Lib.hid hr0
      have HX0 := Lib.hid hX0
      clear hta htb hb hga hgb hM hMl hMok hRok hx0 hX0 hr0 hkn
      go_wp2_with fail
      rw [← HX0.out]
      obtain ⟨g7, hg⟩ : ∃ g7, g7 = wr.heap.size := ⟨_, rfl⟩
      rw [← hg] at hg7 HR0 ⊢
      clear hg HX0
      go_loopw [8] (fun i wr => AddsSum W M g7 i wr) (fun i _ => 50 - (intOf i).toNat)
      case atStart => exact HR0.out
      case round =>
        obtain ⟨r, rfl, hr, hta, htb, hbx, hb⟩ := hrel
        by_cases hr24 : r < 24
        · obtain ⟨r1, hr1⟩ : ∃ r1, r1 = r + 1 := ⟨_, rfl⟩
          have hri : (r : Int) + 1 = (r1 : Int) := by omega
          have hle : decide ((r1 : Int) ≤ 24) = true := decide_eq_true (by omega)
          obtain ⟨c, hc⟩ : ∃ c, c = tot r1 M := ⟨_, rfl⟩
          obtain ⟨s, hs⟩ : ∃ s, s = sumR M r := ⟨_, rfl⟩
          obtain ⟨t, ht⟩ : ∃ t, t = sumR M r1 := ⟨_, rfl⟩
          have htt : t = s.pl c := by rw [ht, hr1, sumR, hs, hc, hr1]
          have hsm := SM.out r hr
          have hcm := SM2.out r1
          rw [← hs] at hsm hbx
          rw [← hc] at hcm
          have HCA := Lib.hid (At_is _ r1 _ _ c (by rw [GA.out r1 (by omega), hc]) _ hta (by omega) (by omega))
          have HCB := Lib.hid (fun (V : World) (hV : TAt V W.heap.size (W.heap.size + 1) (runM M.reverse)) => At_is _ r1 _ _ c (by rw [GB.out r1 (by omega), hc]) V hV (by omega) (by omega))
          have hw0 : IntKind.u64.wrap (s.got + c.got) = t.got := by rw [htt, IntWalk.u64_in _ (by obtain ⟨⟨_, _⟩, _⟩ := hsm; obtain ⟨⟨_, _⟩, _⟩ := hcm; omega)]; rfl
          have hw1 : IntKind.u64.wrap (s.loc + c.loc) = t.loc := by rw [htt, IntWalk.u64_in _ (by obtain ⟨_, ⟨_, _⟩, _⟩ := hsm; obtain ⟨_, ⟨_, _⟩, _⟩ := hcm; omega)]; rfl
          have hw2 : IntKind.u64.wrap (s.cop + c.cop) = t.cop := by rw [htt, IntWalk.u64_in _ (by obtain ⟨_, _, ⟨_, _⟩, _⟩ := hsm; obtain ⟨_, _, ⟨_, _⟩, _⟩ := hcm; omega)]; rfl
          have hw3 : IntKind.u64.wrap (s.los + c.los) = t.los := by rw [htt, IntWalk.u64_in _ (by obtain ⟨_, _, _, ⟨_, _⟩, _⟩ := hsm; obtain ⟨_, _, _, ⟨_, _⟩, _⟩ := hcm; omega)]; rfl
          have hw4 : IntKind.u64.wrap (s.exp + c.exp) = t.exp := by rw [htt, IntWalk.u64_in _ (by obtain ⟨_, _, _, _, ⟨_, _⟩, _⟩ := hsm; obtain ⟨_, _, _, _, ⟨_, _⟩, _⟩ := hcm; omega)]; rfl
          have hw5 : IntKind.u64.wrap (s.bad + c.bad) = t.bad := by rw [htt, IntWalk.u64_in _ (by obtain ⟨_, _, _, _, _, ⟨_, _⟩⟩ := hsm; obtain ⟨_, _, _, _, _, ⟨_, _⟩⟩ := hcm; omega)]; rfl
          have HTA := Lib.hid hta
          have HTB := Lib.hid htb
          have HBX := Lib.hid hbx
          have HB := Lib.hid hb
          have HT := Lib.hid ht
          have HR1 := Lib.hid hr1
          clear hta htb hbx hb hsm hcm hc hs ht htt hr1
          go_wp2_with fail
          refine HCA.out.mono ?_
          rintro e V1 ⟨rfl, hb⟩
          obtain ⟨X1, hX1⟩ : ∃ X1, X1 = V1.alloc (.cells #[.int .u64 c.got, .int .u64 c.loc, .int .u64 c.cop, .int .u64 c.los, .int .u64 c.exp, .int .u64 c.bad] 37) := ⟨_, rfl⟩
          have hx1 : Below wr.heap.size wr X1 := by rw [hX1]; exact hb.alloc hb.size _
          have HTA1 := Lib.hid (HTA.out.later hx1)
          have HTB1 := Lib.hid (HTB.out.later hx1)
          have HBX1 := Lib.hid (BoxC.later HBX.out hx1)
          have HB1 := Lib.hid (HB.out.trans (hx1.mono HB.out.size))
          have HC1 := Lib.hid (show BoxC V1.heap.size c X1 by rw [hX1]; exact heap_alloc_new _ _)
          have HX1 := Lib.hid hX1
          clear hX1 hx1 hb
          go_wp2_with fail
          rw [← HX1.out]
          refine (HCB.out _ HTB1.out).mono ?_
          rintro e V2 ⟨rfl, hb⟩
          have HTA2 := Lib.hid (HTA1.out.later hb)
          have HTB2 := Lib.hid (HTB1.out.later hb)
          have HBX2 := Lib.hid (BoxC.later HBX1.out hb)
          have HB2 := Lib.hid (HB1.out.trans (hb.mono HB1.out.size))
          have hC2 := BoxC.later HC1.out hb
          obtain ⟨x0, x1, x2, x3, x4, x5⟩ := BoxC.cells HBX2.out
          obtain ⟨y0, y1, y2, y3, y4, y5⟩ := BoxC.cells hC2
          have f0 := frozen_of_row _ _ 0 _ _ HBX2.out
          have f1 := frozen_of_row _ _ 1 _ _ HBX2.out
          have f2 := frozen_of_row _ _ 2 _ _ HBX2.out
          have f3 := frozen_of_row _ _ 3 _ _ HBX2.out
          have f4 := frozen_of_row _ _ 4 _ _ HBX2.out
          have f5 := frozen_of_row _ _ 5 _ _ HBX2.out
          have l1 := (Array.getElem?_eq_some_iff.1 hC2).1
          have l7 := (Array.getElem?_eq_some_iff.1 HBX2.out).1
          have w6 := ((((((show Wr V2 V2 g7 37 s.cs.toArray from ⟨rfl, rfl, rfl, Nat.le_refl _, fun _ _ _ => rfl, HBX2.out⟩).set 0 (.int .u64 t.got)).set 1 (.int .u64 t.loc)).set 2 (.int .u64 t.cop)).set 3 (.int .u64 t.los)).set 4 (.int .u64 t.exp)).set 5 (.int .u64 t.bad)
          have hgr : V2.grownBy _ (some g7) := ⟨w6.os, w6.tape, w6.output, w6.size, fun q hq hne => w6.block q hq (fun e => hne (by rw [e]))⟩
          have HG := Lib.hid hgr
          have HBN := Lib.hid (show BoxC g7 t _ from w6.row.trans rfl)
          have HEND := Lib.hid (fun (o : Obj) => (show AddsSum W M g7 (.int .i64 ((r1 : Int) + 1)) (World.alloc _ o) from
            ⟨r1, rfl, by have := HR1.out; omega, (TAt.kept HTA2.out HG.out (by simp; omega)).later ((Below.refl _ _).alloc (Nat.le_refl _) o), (TAt.kept HTB2.out HG.out (by simp; omega)).later ((Below.refl _ _).alloc (Nat.le_refl _) o),
              by rw [← HT.out]; exact BoxC.later HBN.out ((Below.refl _ _).alloc (Nat.le_refl _) o),
              (HB2.out.grown HG.out HB2.out.size (fun q hq => by cases hq; omega)).alloc (Nat.le_trans HB2.out.size HG.out.size) o⟩))
          clear hb hC2 w6 hgr
          go_wp2_with fail
          go_roundw
          case rel => first | exact HEND.out _ | ((repeat apply Exists.intro); exact ⟨HEND.out _, rfl⟩)
          case measure => simp [intOf]; omega
        · obtain rfl : r = 24 := by omega
          obtain ⟨s, hs⟩ : ∃ s, s = sumR M 24 := ⟨_, rfl⟩
          rw [← hs] at hbx
          have hsa := SA.out
          have hsb := SB.out
          have hsg := SG.out
          rw [← hs] at hsa hsb hsg
          have hwk : IntKind.u64.wrap (k : Int) = (k : Int) := IntWalk.u64_in _ (by omega)
          have SA2 := Lib.hid hsa
          have SB2 := Lib.hid hsb
          have HTA0 := Lib.hid (show TAt wr.drew _ _ _ from hta.later ⟨rfl, rfl, rfl, Nat.le_refl _, fun _ _ => rfl⟩)
          have HTB0 := Lib.hid (show TAt wr.drew _ _ _ from htb.later ⟨rfl, rfl, rfl, Nat.le_refl _, fun _ _ => rfl⟩)
          have HSV0 := Lib.hid (show BoxC g7 s wr.drew ∧ Below W.heap.size W wr.drew from ⟨hbx, hb.trans ⟨rfl, rfl, rfl, Nat.le_refl _, fun _ _ => rfl⟩⟩)
          clear hs hsa hsb hta htb hbx hb hr24
          go_wp2_with fail
          refine wp_region_ord [(0, true), (1, true), (2, false), (3, true), (4, true), (5, true), (6, true), (7, false), (8, true), (9, true), (10, true), (11, true), (12, true), (13, true), (14, true), (15, true), (16, true), (17, true), (18, false), (19, true), (20, true)] (fun V => BoxC g7 s V ∧ Below W.heap.size W V) (by kernel_rfl) (by kernel_rfl) (by decide) (by kernel_rfl) (fun d _ _ _ _ h => by cases d <;> exact h) HSV0.out ?_
          (apply wpOrd_take rfl rfl (by kernel_rfl) (v := .agg #[.int .u64 s.got, .int .u64 s.loc, .int .u64 s.cop, .int .u64 s.los, .int .u64 s.exp, .int .u64 s.bad])); · (intro V hV; exact run_load_cs _ _ 37 _ rfl ⟨g7, 0, none⟩ rfl s.cs _ (by have := block_cells hV.1; exact this) Try.underlying37 rfl (by kernel_rfl))
          (try simp only [List.setIfInBounds_toArray, List.set_cons_succ, List.set_cons_zero])
          iterate 1 ((apply wpOrd_take rfl rfl (by kernel_rfl); (intro V hV; obtain ⟨b0, b1, b2, b3, b4, b5⟩ := BoxC.cells hV.1; go_simp; rfl)); (try simp only [List.setIfInBounds_toArray, List.set_cons_succ, List.set_cons_zero]))
          apply wpOrd_do rfl (by kernel_rfl)
          intro K hK
          go_simp
          refine (all_is _ _ _ s SA2.out _ HTA0.out).mono ?_
          rintro e V1 ⟨rfl, hb⟩
          have HSV1 := Lib.hid (show BoxC g7 s V1 ∧ Below W.heap.size W V1 from ⟨BoxC.later HSV0.out.1 hb, HSV0.out.2.trans (hb.mono HSV0.out.2.size)⟩)
          have HTB1 := Lib.hid (HTB0.out.later hb)
          refine hK _ _ HSV1.out ?_
          clear hK K hb
          iterate 4 ((apply wpOrd_take rfl rfl (by kernel_rfl); (intro V hV; obtain ⟨b0, b1, b2, b3, b4, b5⟩ := BoxC.cells hV.1; go_simp; rfl)); (try simp only [List.setIfInBounds_toArray, List.set_cons_succ, List.set_cons_zero]))
          apply wpOrd_do rfl (by kernel_rfl)
          intro K hK
          go_simp
          refine (all_is _ _ _ s SB2.out _ HTB1.out).mono ?_
          rintro e V2 ⟨rfl, hb⟩
          have HSV2 := Lib.hid (show BoxC g7 s V2 ∧ Below W.heap.size W V2 from ⟨BoxC.later HSV1.out.1 hb, HSV1.out.2.trans (hb.mono HSV1.out.2.size)⟩)
          refine hK _ _ HSV2.out ?_
          clear hK K hb
          iterate 10 ((apply wpOrd_take rfl rfl (by kernel_rfl); (intro V hV; obtain ⟨b0, b1, b2, b3, b4, b5⟩ := BoxC.cells hV.1; go_simp; rfl)); (try simp only [List.setIfInBounds_toArray, List.set_cons_succ, List.set_cons_zero]))
          apply wpOrd_do rfl (by kernel_rfl)
          intro K hK
          go_simp
          refine (HW.out V2).mono ?_
          rintro e V3 ⟨rfl, hb⟩
          have HSV3 := Lib.hid (show BoxC g7 s V3 ∧ Below W.heap.size W V3 from ⟨BoxC.later HSV2.out.1 hb, HSV2.out.2.trans (hb.mono HSV2.out.2.size)⟩)
          refine hK _ _ HSV3.out ?_
          clear hK K hb
          iterate 2 ((apply wpOrd_take rfl rfl (by kernel_rfl); (intro V hV; obtain ⟨b0, b1, b2, b3, b4, b5⟩ := BoxC.cells hV.1; go_simp; rfl)); (try simp only [List.setIfInBounds_toArray, List.set_cons_succ, List.set_cons_zero]))
          refine wpOrd_nil ?_
          go_wp2_with fail
          go_returns
          exact ⟨rfl, HSV3.out.2⟩

end Go.Proofs.Ytnfdkgmikijbgaa
