/- The walk of the law HeapStrange. -/
import Derived.Test.YtbigglcolfbglaaHeapStrangeA
import Derived.OwnWalk
import Derived.IntWalk
set_option linter.unusedSimpArgs false
set_option linter.unusedVariables false
namespace Go.Proofs.Ytbigglcolfbglaa
open Go.RowKit Go.ChangeShapes Go.WideShapes

abbrev wcaps (p : Nat) : Array Value := #[.pointer (some ⟨p, 0, none⟩)]
def StRel1 (W1 : World) (order : Int) (p h g m : Nat) (xs : List Int) (o i : Value) (wr : World) : Prop :=
  ∃ (k : Nat) (s : Value), i = .int .i64 k ∧ k ≤ m ∧ SS W1 h 19 #[.pointer (some ⟨p, 0, none⟩)] (pushs (lah (wlt order)) [] 0 (xs.take k)) k s o k (iS (xs.take k)) (.slice (some ⟨g, 0, none⟩) 256 256) 256 (fL (cntF (xs.take k))) (.slice none 0 0) 0 [] wr
def StRel2 (W1 : World) (order : Int) (p h g t N : Nat) (xs P : List Int) (o : Value) (i : Value) (wr : World) : Prop :=
  ∃ (k : Nat) (M : List (Int × Nat)) (s : Value) (done : List Int), i = .int .i64 k ∧ k ≤ N ∧ M.length = N - k ∧ (done ++ M.map (·.1)).Perm xs ∧ SS W1 h 19 #[.pointer (some ⟨p, 0, none⟩)] M N s o N (iS P) (.slice (some ⟨g, 0, none⟩) 256 256) 256 (fL (cntF xs)) (.slice (some ⟨t, 0, none⟩) 256 256) 256 (fL (cntF (done ++ P.take k))) wr
def StRel3 (h g t : Nat) (xs ys : List Int) (wo : World) (i : Value) (wr : World) : Prop :=
  ∃ k : Nat, i = .int .i64 k ∧ k ≤ 256 ∧ Below wo.heap.size wo wr

theorem pushs_fst {ah : Int × Nat → Int × Nat → Bool} (xs : List Int) : ((pushs ah [] 0 xs).map (·.1)).Perm xs := by
  have h := (pushs_perm ah xs [] 0).map (·.1)
  have e : (([] : List (Int × Nat)) ++ xs.mapIdx fun i v => (v, 0 + i)).map (·.1) = xs := by
    rw [List.nil_append]
    apply List.ext_getElem?
    intro i
    simp only [List.getElem?_map, List.getElem?_mapIdx]
    cases xs[i]? <;> rfl
  rw [e] at h
  exact h
theorem iSorted_perm {lt : Int → Int → Bool} (xs : List Int) : (iSorted lt xs).Perm xs := by
  refine (pops_perm _ xs.length _ ?_).trans (pushs_fst xs)
  rw [pushs_length]; simp
theorem cntF_app {l m : List Int} {i : Nat} : cntF (l ++ m) i = cntF l i + cntF m i := by simp [cntF]

theorem fL_zero : (madeCells #[Value.int .i64 0] 256).toList = fL (cntF []) := by kernel_rfl

set_option maxRecDepth 1000000 in
set_option maxHeartbeats 4000000 in
theorem heapStrange_walk (order : Int) (x : Option Addr × Nat × List Int) (W : World) (ho : 0 ≤ order ∧ order ≤ 18446744073709551615) (hx : U8At W x.1 x.2.2) :
    Calls Try.prog 6 #[.int .u64 order, .slice x.1 x.2.2.length x.2.1] W fun e W' => e = .returned (.bool true) ∧ Below W.heap.size W W' := by
  obtain ⟨a, cap, l⟩ := x
  simp only at hx ⊢
  obtain ⟨N, hN⟩ : ∃ N, N = l.length := ⟨_, rfl⟩
  obtain ⟨m, hm⟩ : ∃ m, m = min l.length 60 := ⟨_, rfl⟩
  have hm1 : m ≤ N := by omega
  have hm2 : m ≤ 60 := by omega
  have hmx : ∀ k, k < N → k < 60 → k < m := by omega
  have hmy : ∀ k, k ≤ m → N ≤ k ∨ 60 ≤ k → k = m := by omega
  rw [← hN]
  have HN := Lib.hid hN
  have HX := Lib.hid hx
  have HMX := Lib.hid hmx
  have HMY := Lib.hid hmy
  clear hx hN hm hmx hmy
  obtain ⟨W1, hW1⟩ : ∃ W1, W1 = W.alloc (.cells #[.int .u64 order] 45) := ⟨_, rfl⟩
  have hb1 : Below W.heap.size W W1 := by rw [hW1]; exact (Below.refl _ _).alloc (Nat.le_refl _) _
  have hp1 : W1.cell? ⟨W.heap.size, 0, none⟩ = some (.int .u64 order) := by rw [hW1, cell_of_row _ _ 0 _ _ _ (heap_alloc_new _ _)]; rfl
  have hpl : W.heap.size < W1.heap.size := by rw [hW1, World.size_alloc]; omega
  have HW1 := Lib.hid hW1
  have HO := Lib.hid (wOrder order W.heap.size W1.heap.size ho hpl)
  have HI := Lib.hid (show ∀ V, Below W1.heap.size W1 V → V.cell? ⟨W.heap.size, 0, none⟩ = some (.int .u64 order) from fun V hV => (hV.cell (p := ⟨W.heap.size, 0, none⟩) hpl).trans hp1)
  obtain ⟨i0, hi, hz0, hz1, hz2⟩ := info_parts infoIn
  have HBB := Lib.hid hb1
  clear hW1 hp1 hpl ho hb1
  go_enter Try.func6, Try.ntmps6
  go_wp2_with fail
  rw [← HW1.out]
  refine (inew_any 19 #[.pointer (some ⟨W.heap.size, 0, none⟩)] W1).mono ?_
  rintro e w2 ⟨rfl, hw2⟩
  have hat0 := inew_at 19 #[.pointer (some ⟨W.heap.size, 0, none⟩)] W1 (Nat.le_refl W1.heap.size)
  have hbw2 : Below W1.heap.size W1 w2 := by rw [← hw2]; exact (Below.refl _ _).alloc (Nat.le_refl _) _
  rw [hw2] at hat0
  have hsz2 : w2.heap.size = W1.heap.size + 1 := by rw [← hw2, World.size_alloc]
  have HS2 := Lib.hid hsz2
  clear hw2 hsz2
  go_wp2_with (at_make; refine wpList_make_full _ rfl (.const (.int .i64 256)) (.const (.int .i64 256)) 51 rfl W1.heap.size 3 i0 (.int .i64 0) 1 Try.underlying51 hi hz0 hz1 .i64 .i64 256 256 256 rfl rfl rfl rfl ?c1 ?c2 ?c3 ?_)
  case c1 => rw [hz2]; decide
  case c2 => simp [maxLen]
  case c3 => have := HS2.out; omega
  intro w3 hown3 hg3
  rw [fL_zero] at hown3
  have hrow3 := Row.of_own hown3
  have hss0 : SS W1 W1.heap.size 19 #[.pointer (some ⟨W.heap.size, 0, none⟩)] [] 0 (.slice none 0 0) (.slice none 0 0) 0 [] (.slice (some ⟨w2.heap.size, 0, none⟩) 256 256) 256 (fL (cntF [])) (.slice none 0 0) 0 [] w3 := by
    have hb3 : Below w2.heap.size w2 w3 := ⟨hg3.os, hg3.tape, hg3.output, hg3.size, fun k hk => hg3.block k hk (by simp)⟩
    refine ⟨HeapAt.later hat0 hb3, Row.nil_ _ _ _ _, hrow3, Row.nil_ _ _ _ _, hbw2.trans (hb3.mono hbw2.size), by intro q hq; simp [Value.ownBlock] at hq, fun q hq => ?_, by intro q hq; simp [Value.ownBlock] at hq⟩
    have := hrow3.lt q hq
    simp only [Value.ownBlock, Option.some.injEq] at hq
    subst hq
    exact ⟨⟨this.2, by have := HS2.out; omega, by simp [Value.ownBlock]⟩, by simp [Value.ownBlock]⟩
  have h0 := Lib.hid (show StRel1 W1 order W.heap.size W1.heap.size w2.heap.size m l (.slice none 0 0) (.int .i64 0) w3 from ⟨0, .slice none 0 0, rfl, by omega, hss0⟩)
  clear hown3 hg3 hrow3 hss0 hbw2 hat0
  go_wp2_with fail
  go_loopw [8, 9] (fun o i wr => StRel1 W1 order W.heap.size W1.heap.size w2.heap.size m l o i wr) (fun _ i _ => 60 - (intOf i).toNat)
  case atStart => exact h0.out
  case round =>
    obtain ⟨k, s, rfl, hk, hss⟩ := hrel
    by_cases hgo : k < N ∧ k < 60
    · obtain ⟨hkN, hk60⟩ := hgo
      have hk60i : (k : Int) < 60 := by omega
      have hkm : k < m := HMX.out k hkN hk60
      have hkl : k < l.length := by rw [← HN.out]; exact hkN
      obtain ⟨ad, ha, c0, cb1, cb2⟩ := HX.out k hkl
      obtain ⟨z, hz⟩ : ∃ z : Nat, (z : Int) = l.getD k default := ⟨(l.getD k default).toNat, by omega⟩
      rw [← hz] at c0 cb1 cb2
      subst ha
      have hsn : l.take (k + 1) = l.take k ++ [(z : Int)] := by rw [take_snoc hkl, hz]
      have hz255 : z < 256 := by omega
      have hbW : ∀ V, Below W1.heap.size W1 V → V.cell? (ad.add k) = some (.int .u8 z) := fun V hV => by
        have h1 := HBB.out.trans (hV.mono HBB.out.size)
        exact (h1.cell (block_lt_of_cell c0)).trans c0
      have HCF := Lib.hid hbW
      have c1 := hbW wr hss.bel
      obtain ⟨oa, ocap, ho, _, _⟩ := Row.shape hss.ra
      subst ho
      have HSS := Lib.hid hss
      have hra := hss.ra
      have HSN := Lib.hid hsn
      have hszr := hss.bel.size
      clear hz hsn hbW hss c0
      go_wp2_with (at_builtin; refine wpList_append_row _ rfl (.tmp 32) (.tmp 38) 51 rfl W1.heap.size 3 i0 (.int .i64 0) 1 8 Try.underlying51 hi hz0 hz1 hz2 rfl (by decide) (.slice oa k ocap) k (iS (l.take k)) rfl (Row.alloc hra _) ⟨wr.heap.size, 0, none⟩ 1 1 (iS [(z : Int)]) rfl rfl ?d1 iS_one ?d3 ?d4 ?d5 ?_)
      case d1 => exact cell_one_new _ _ _
      case d3 => unfold maxLen; omega
      case d4 => omega
      case d5 => rw [World.size_alloc]; omega
      intro v4 w4 hrow4 hg4 _ ho4
      rw [← iS_append, ← HSN.out] at hrow4
      have hss4 := (HSS.out.later ((Below.refl _ _).alloc (Nat.le_refl _) _)).append hrow4 hg4 (by rw [World.size_alloc]; exact ho4)
      obtain ⟨v, hv⟩ : ∃ v, v = cntF (l.take k) z := ⟨_, rfl⟩
      have hv1 : 0 ≤ v := by rw [hv]; simp [cntF]
      have hv2 : v ≤ 100 := by
        have := List.count_le_length (a := (z : Int)) (l := l.take k)
        rw [List.length_take] at this
        rw [hv, cntF]
        omega
      obtain ⟨g5, c5, he5, f1, f2, f3, f4, hc5, hf5⟩ := hss4.rb.form (by omega)
      simp only [Value.slice.injEq, Option.some.injEq, Addr.mk.injEq, and_true, true_and] at he5
      obtain ⟨rfl, rfl⟩ := he5
      have n0 := (hc5 z (by omega)).trans (fL_get _ hz255)
      rw [← hv] at n0
      have n1 := hf5 z (by omega)
      have c4 := HCF.out w4 hss4.bel
      have hss5 := hss4.setB (j := z) (u := .int .i64 (v + 1))
      have hcn : (fL (cntF (l.take k))).set z (.int .i64 (v + 1)) = fL (cntF (l.take (k + 1))) := by
        rw [fL_set, HSN.out, ← cntF_snoc (l.take k) (z : Int) z rfl _ rfl, hv]
      rw [hcn] at hss5
      have c5 := HCF.out _ hss5.bel
      have hplen : (pushs (lah (wlt order)) [] 0 (l.take k)).length = k := by rw [pushs_length, List.length_take]; simp; omega
      have hokl : ∀ y ∈ l, 0 ≤ y ∧ y ≤ 255 := by
        intro y hy
        obtain ⟨j, hj, rfl⟩ := List.getElem_of_mem hy
        obtain ⟨_, _, _, h1, h2⟩ := HX.out j hj
        rw [List.getD_eq_getElem?_getD, List.getElem?_eq_getElem hj] at h1 h2
        exact ⟨h1, h2⟩
      have HP := Lib.hid (ipush_any HO.out (pushs (lah (wlt order)) [] 0 (l.take k)) s (z : Int) _ (by have := hss5.at_.lt; omega) hss5.at_ (HI.out _ hss5.bel) (fun y hy => hokl _ (List.mem_of_mem_take (pushs_mem _ hy))) (by omega) (by omega) (by omega))
      have HQ := Lib.hid (show ∀ V, iPushed (wlt order) _ _ _ _ _ _ _ _ _ V → StRel1 W1 order W.heap.size W1.heap.size w2.heap.size m l v4 (.int .i64 ((k : Int) + 1)) V from fun V hp => by
        obtain ⟨s', h⟩ := hss5.pushed hp
        refine ⟨k + 1, s', by go_num, by omega, ?_⟩
        rw [HSN.out, pushs_snoc, Nat.zero_add, show (l.take k).length = k from by rw [List.length_take]; omega, ← HSN.out]
        exact h)
      clear hrow4 hg4 ho4 hss4 hss5 hcn hplen hokl hv hc5 hf5 hra f1 f2 f3 f4 c1
      go_wp2_with fail
      refine HP.out.mono ?_
      rintro e V ⟨rfl, hp⟩
      have HV := Lib.hid (HQ.out V hp)
      clear hp
      go_wp2_with fail
      go_roundw
      case rel => first | exact HV.out | ((repeat apply Exists.intro); exact ⟨HV.out, rfl⟩)
      case measure => simp [intOf]; omega
    · have hex : N ≤ k ∨ (k < N ∧ 60 ≤ (k : Int)) := by omega
      have hkm : k = m := HMY.out k hk (by omega)
      subst hkm
      obtain ⟨oa, ocap, ho, _, _⟩ := Row.shape hss.ra
      subst ho
      obtain ⟨xs, hxs⟩ : ∃ xs, xs = l.take k := ⟨_, rfl⟩
      have hxl : xs.length = k := by rw [hxs, List.length_take, ← HN.out]; omega
      have hokx : ∀ y ∈ xs, 0 ≤ y ∧ y ≤ 255 := by
        intro y hy
        rw [hxs] at hy
        obtain ⟨j, hj, rfl⟩ := List.getElem_of_mem (List.mem_of_mem_take hy)
        obtain ⟨_, _, _, h1, h2⟩ := HX.out j hj
        rw [List.getD_eq_getElem?_getD, List.getElem?_eq_getElem hj] at h1 h2
        exact ⟨h1, h2⟩
      rw [← hxs] at hss
      obtain ⟨P, hP⟩ : ∃ P, P = iSorted (wlt order) xs := ⟨_, rfl⟩
      have hPp : P.Perm xs := by rw [hP]; exact iSorted_perm xs
      have hPl : P.length = k := by rw [hPp.length_eq, hxl]
      have hszr := hss.bel.size
      have hso := isort_any HO.out xs (.slice oa k ocap) wr hszr (b := W1.heap.size) (by unfold IRow; rw [hxl]; exact hss.ra) (HI.out _ hss.bel) hokx (by omega)
      rw [← hP] at hso
      have HS := Lib.hid hso
      have hplen : (pushs (lah (wlt order)) [] 0 xs).length = k := by rw [pushs_length, hxl]; simp
      have HR := Lib.hid (show ∀ (V : World) (p : Value), IRow V wr.heap.size p P → Below wr.heap.size wr V → SS W1 W1.heap.size 19 #[.pointer (some ⟨W.heap.size, 0, none⟩)] (pushs (lah (wlt order)) [] 0 xs) k s p k (iS P) (.slice (some ⟨w2.heap.size, 0, none⟩) 256 256) 256 (fL (cntF xs)) (.slice none 0 0) 0 [] V from fun V p hp hV => by
        unfold IRow at hp
        rw [hPl] at hp
        exact hss.freshA hV hp)
      have HPP := Lib.hid hPp
      have HPL := Lib.hid hPl
      have HXL := Lib.hid hxl
      have HOK := Lib.hid hokx
      have HPU := Lib.hid (show ((pushs (lah (wlt order)) [] 0 xs).map (·.1)).Perm xs from pushs_fst xs)
      have HPN := Lib.hid hplen
      clear hgo hss hso hplen hP hPp hPl hxl hokx hxs
      obtain ⟨M0, hM0⟩ : ∃ M0, M0 = pushs (lah (wlt order)) [] 0 xs := ⟨_, rfl⟩
      rw [← hM0] at HR HPU HPN
      clear hM0
      obtain ⟨wo, rfl⟩ : ∃ wo : World, wo = wr := ⟨_, rfl⟩
      rcases hex with hx | ⟨hx, hx'⟩
      all_goals
        go_wp2_with fail
        refine HS.out.mono ?_
        rintro e V hp
        obtain ⟨p, rfl, hpr, hpb⟩ := hp
        have hs2 := HR.out V p hpr hpb
        obtain ⟨pa, pc, hpe, _, _⟩ := Row.shape hs2.ra
        subst hpe
        have HSA := Lib.hid hs2
        have HLN := Lib.hid (ilen_any V hs2.at_)
        rw [HPN.out] at HLN
        clear hpr hpb hs2
        go_wp2_with fail
        refine HLN.out.mono ?_
        rintro e V' ⟨rfl, rfl⟩
        go_wp2_with (at_make; refine wpList_make_full _ rfl (.const (.int .i64 256)) (.const (.int .i64 256)) 51 rfl V.heap.size 3 i0 (.int .i64 0) 1 Try.underlying51 hi hz0 hz1 .i64 .i64 256 256 256 rfl rfl rfl rfl ?c1 ?c2 ?c3 ?_)
        case c1 => rw [hz2]; decide
        case c2 => simp [maxLen]
        case c3 => exact Nat.le_refl _
        intro w3' hown3 hg3
        rw [fL_zero] at hown3
        have hrow3 := Row.of_own hown3
        have hb3 : Below V.heap.size V w3' := ⟨hg3.os, hg3.tape, hg3.output, hg3.size, fun k hk => hg3.block k hk (by simp)⟩
        have hs3 := HSA.out.freshC hb3 hrow3
        have h3 := Lib.hid (show StRel2 W1 order W.heap.size W1.heap.size w2.heap.size V.heap.size k xs P (.slice pa k pc) (.int .i64 0) w3' from ⟨0, M0, s, [], rfl, by omega, HPN.out, HPU.out, hs3⟩)
        clear hown3 hg3 hrow3 hb3 hs3
        go_wp2_with fail
        go_loopw [12] (fun i wr => StRel2 W1 order W.heap.size W1.heap.size w2.heap.size V.heap.size k xs P (.slice pa k pc) i wr) (fun i _ => k - (intOf i).toNat)
        case atStart => exact h3.out
        case round =>
          obtain ⟨j, M, s2, done, rfl, hj, hM, hpm, hss2⟩ := hrel
          by_cases hjk : j < k
          · have hjP : j < P.length := by rw [HPL.out]; exact hjk
            have hps := take_snoc hjP
            have hmemM : ∀ y ∈ M, 0 ≤ y.1 ∧ y.1 ≤ 255 := fun y hy => HOK.out _ (hpm.mem_iff.1 (List.mem_append_right _ (List.mem_map_of_mem hy)))
            have hpo := ipop_yes HO.out M s2 wr (by have := hss2.bel.size; omega) hss2.at_ (HI.out _ hss2.bel) hmemM (by omega) (by omega)
            have hpj : P.getD j default ∈ P := by rw [List.getD_eq_getElem?_getD, List.getElem?_eq_getElem hjP]; exact List.getElem_mem hjP
            obtain ⟨hq1, hq2⟩ := HOK.out _ (HPP.out.mem_iff.1 hpj)
            obtain ⟨z, hz⟩ : ∃ z : Nat, (z : Int) = P.getD j default := ⟨(P.getD j default).toNat, by omega⟩
            have hg0 : g M 0 ∈ M := by unfold g; rw [List.getD_eq_getElem?_getD, List.getElem?_eq_getElem (by omega)]; exact List.getElem_mem (by omega)
            obtain ⟨hv1, hv2⟩ := hmemM _ hg0
            obtain ⟨v, hv⟩ : ∃ v : Nat, (v : Int) = (g M 0).1 := ⟨(g M 0).1.toNat, by omega⟩
            rw [← hv] at hpo hv1 hv2
            rw [← hz] at hps hq1 hq2
            have hz255 : z < 256 := by omega
            have hv255 : v < 256 := by omega
            have hplM := popL_length (lah (wlt order)) (L := M) (by omega)
            have hpm2 : ((done ++ [(v : Int)]) ++ (popL (lah (wlt order)) M).map (·.1)).Perm xs := by
              refine List.Perm.trans ?_ hpm
              rw [List.append_assoc]
              refine List.Perm.append_left _ ?_
              have h := (popL_perm (lah (wlt order)) (L := M) (by omega)).map (·.1)
              rw [List.map_cons, ← hv] at h
              exact h
            have hcl : done.length + M.length = k := by
              have h := hpm.length_eq
              rw [List.length_append, List.length_map, HXL.out] at h
              exact h
            have hbnd : ∀ i, 0 ≤ cntF (done ++ P.take j) i ∧ cntF (done ++ P.take j) i ≤ 200 := by
              intro i
              have := List.count_le_length (a := (i : Int)) (l := done ++ P.take j)
              rw [List.length_append, List.length_take] at this
              rw [cntF]
              omega
            obtain ⟨n1, hn1⟩ : ∃ n1, n1 = cntF (done ++ P.take j) v := ⟨_, rfl⟩
            obtain ⟨n2, hn2⟩ : ∃ n2, n2 = cntF ((done ++ P.take j) ++ [(v : Int)]) z := ⟨_, rfl⟩
            have hb1 := hbnd v
            rw [← hn1] at hb1
            have hb2 : 0 ≤ n2 ∧ n2 ≤ 201 := by
              have h1 := hbnd z
              have h2 : cntF [(v : Int)] z = 0 ∨ cntF [(v : Int)] z = 1 := by
                have := List.count_le_length (a := (z : Int)) (l := [(v : Int)])
                rw [List.length_singleton] at this
                rw [cntF]
                omega
              rw [hn2, cntF_app]
              omega
            have hset1 : (fL (cntF (done ++ P.take j))).set v (.int .i64 (n1 + 1)) = fL (cntF ((done ++ P.take j) ++ [(v : Int)])) := by
              rw [fL_set, ← cntF_snoc (done ++ P.take j) (v : Int) v rfl _ rfl, hn1]
            have hset2 : (fL (cntF ((done ++ P.take j) ++ [(v : Int)]))).set z (.int .i64 (n2 + 1)) = fL (cntF ((done ++ [(v : Int)]) ++ P.take (j + 1))) := by
              rw [fL_set, hn2, cntF_snoc ((done ++ P.take j) ++ [(v : Int)]) (z : Int) z rfl _ rfl, hps]
              refine congrArg fL (cntF_perm ?_)
              rw [← List.append_assoc]
              refine List.Perm.append_right _ ?_
              rw [List.append_assoc, List.append_assoc]
              exact List.Perm.append_left _ List.perm_append_comm
            have HPO := Lib.hid hpo
            have HSP := Lib.hid (fun (X : World) hp => hss2.popped (lt := wlt order) (w' := X) hp)
            have HST1 := Lib.hid hset1
            have HST2 := Lib.hid hset2
            have HN1 := Lib.hid hn1
            have HN2 := Lib.hid hn2
            have HZ := Lib.hid hz
            have HPM := Lib.hid hpm2
            clear hps hmemM hpo hpj hz hg0 hv hpm2 hbnd hn1 hn2 hset1 hset2 hss2 hpm hcl
            go_wp2_with fail
            refine HPO.out.mono ?_
            rintro e V2 ⟨rfl, hp⟩
            obtain ⟨s3, hss3⟩ := HSP.out V2 hp
            obtain ⟨g5, c5, he5, f1, f2, f3, f4, hc5, hf5⟩ := hss3.ra.form (by omega)
            simp only [Value.slice.injEq] at he5
            obtain ⟨rfl, hkk, rfl⟩ := he5
            obtain ⟨g6, c6, he6, f5, f6, f7, f8, hc6, hf6⟩ := hss3.rc.form (by omega)
            simp only [Value.slice.injEq, Option.some.injEq, Addr.mk.injEq, and_true, true_and] at he6
            obtain ⟨rfl, rfl⟩ := he6
            have n3 := (hc6 v hv255).trans (fL_get _ hv255)
            rw [← HN1.out] at n3
            have n4 := hf6 v hv255
            have hss4 := hss3.setC (j := v) (u := .int .i64 (n1 + 1))
            rw [HST1.out] at hss4
            obtain ⟨g7, c7, he7, f9, f10, f11, f12, hc7, hf7⟩ := hss4.rc.form (by omega)
            simp only [Value.slice.injEq, Option.some.injEq, Addr.mk.injEq, and_true, true_and] at he7
            obtain ⟨rfl, rfl⟩ := he7
            have n5 := (hc7 z hz255).trans (fL_get _ hz255)
            rw [← HN2.out] at n5
            have n6 := hf7 z hz255
            have hPz : (iS P)[j]? = some (.int .i64 z) := by
              rw [iS, List.getElem?_map, List.getElem?_eq_getElem hjP]
              rw [List.getD_eq_getElem?_getD, List.getElem?_eq_getElem hjP] at HZ
              simp only [Option.map_some, Option.getD_some] at HZ ⊢
              rw [HZ.out]
            have n7 := (hc5 j (by omega)).trans hPz
            obtain ⟨g8, c8, he8, f13, f14, f15, f16, hc8, hf8⟩ := hss4.ra.form (by omega)
            simp only [Value.slice.injEq, Option.some.injEq, Addr.mk.injEq, and_true, true_and] at he8
            obtain ⟨rfl, rfl⟩ := he8
            have n8 := (hc8 j (by omega)).trans hPz
            have hss5 := hss4.setC (j := z) (u := .int .i64 (n2 + 1))
            rw [HST2.out] at hss5
            have HS5 := Lib.hid (show StRel2 W1 order W.heap.size W1.heap.size w2.heap.size V.heap.size k xs P (.slice (some ⟨g5, 0, none⟩) k pc) (.int .i64 ((j : Int) + 1)) _ from ⟨j + 1, popL (lah (wlt order)) M, s3, done ++ [(v : Int)], by go_num, by omega, by omega, HPM.out, hss5⟩)
            clear hss3 hss4 hss5 hc5 hf5 hc6 hf6 hc7 hf7 hc8 hf8 f1 f2 f3 f4 f5 f6 f7 f8 f9 f10 f11 f12 f13 f14 f15 f16 hp hkk hPz
            go_wp2_with fail
            go_roundw
            case rel => first | exact HS5.out | ((repeat apply Exists.intro); exact ⟨HS5.out, rfl⟩)
            case measure => simp [intOf]; omega
          · have hjk' : j = k := by omega
            subst hjk'
            have hM0 : M = [] := List.eq_nil_of_length_eq_zero (by omega)
            subst hM0
            have hdbl : cntF (done ++ P.take j) = fun i => 2 * cntF xs i := by
              funext i
              rw [cntF_app, List.take_of_length_le (by rw [HPL.out]; exact Nat.le_refl _), cntF_perm HPP.out]
              have h : cntF done = cntF xs := cntF_perm (by simpa using hpm)
              rw [h]
              omega
            rw [hdbl] at hss2
            have hc1 : ∀ i, i < 256 → wr.cell? ⟨w2.heap.size, i, none⟩ = some (.int .i64 (cntF xs i)) := fun i hi => by
              obtain ⟨g5, c5, he5, f1, f2, f3, f4, hc5, hf5⟩ := hss2.rb.form (by omega)
              simp only [Value.slice.injEq, Option.some.injEq, Addr.mk.injEq, and_true, true_and] at he5
              obtain ⟨rfl, rfl⟩ := he5
              exact (hc5 i hi).trans (fL_get _ hi)
            have hc2 : ∀ i, i < 256 → wr.cell? ⟨V.heap.size, i, none⟩ = some (.int .i64 (2 * cntF xs i)) := fun i hi => by
              obtain ⟨g5, c5, he5, f1, f2, f3, f4, hc5, hf5⟩ := hss2.rc.form (by omega)
              simp only [Value.slice.injEq, Option.some.injEq, Addr.mk.injEq, and_true, true_and] at he5
              obtain ⟨rfl, rfl⟩ := he5
              exact (hc5 i hi).trans (fL_get _ hi)
            have hbnd : ∀ i, 0 ≤ cntF xs i ∧ cntF xs i ≤ 100 := by
              intro i
              have := List.count_le_length (a := (i : Int)) (l := xs)
              rw [HXL.out] at this
              rw [cntF]
              omega
            have hr1 := hss2.rb.lt w2.heap.size rfl
            have hr2 := hss2.rc.lt V.heap.size rfl
            have HH := Lib.hid hss2.at_
            have HBE := Lib.hid hss2.bel
            have HC1 := Lib.hid (show ∀ (X : World) (i : Nat), Below wr.heap.size wr X → i < 256 → X.cell? ⟨w2.heap.size, i, none⟩ = some (.int .i64 (cntF xs i)) from fun X i hX hi => (hX.cell (p := ⟨w2.heap.size, i, none⟩) hr1.2).trans (hc1 i hi))
            have HC2 := Lib.hid (show ∀ (X : World) (i : Nat), Below wr.heap.size wr X → i < 256 → X.cell? ⟨V.heap.size, i, none⟩ = some (.int .i64 (2 * cntF xs i)) from fun X i hX hi => (hX.cell (p := ⟨V.heap.size, i, none⟩) hr2.2).trans (hc2 i hi))
            have HBN := Lib.hid hbnd
            clear hdbl hc1 hc2 hbnd hr1 hr2 hss2 hpm hM
            obtain ⟨wo2, hwo2⟩ : ∃ wo2 : World, wo2 = wr := ⟨_, rfl⟩
            subst hwo2
            go_wp2_with fail
            go_loopw [15] (fun i wr => StRel3 W1.heap.size w2.heap.size V.heap.size xs P wo2 i wr) (fun i _ => 256 - (intOf i).toNat)
            case atStart => exact ⟨0, rfl, by omega, Below.refl _ _⟩
            case round =>
              obtain ⟨q, rfl, hq, hbq⟩ := hrel
              by_cases hq2 : q < 256
              · have n1 := HC1.out wr q hbq hq2
                have n2 := HC2.out wr q hbq hq2
                obtain ⟨n, hn⟩ : ∃ n, n = cntF xs q := ⟨_, rfl⟩
                obtain ⟨hn1, hn2⟩ := HBN.out q
                rw [← hn] at n1 n2 hn1 hn2
                have hq2i : (q : Int) < 256 := by omega
                have HBQ := Lib.hid hbq
                have hwn : IntKind.i64.wrap (2 * n) = 2 * n := IntWalk.i64_in _ (by omega)
                have HBD := Lib.hid (show StRel3 W1.heap.size w2.heap.size V.heap.size xs P wo2 (.int .i64 ((q : Int) + 1)) wr.drew from ⟨q + 1, by go_num, by omega, hbq.trans ⟨rfl, rfl, rfl, Nat.le_refl _, fun _ _ => rfl⟩⟩)
                clear hn hbq
                go_wp2_with fail
                refine wp_region_ord [(0, true), (1, true), (2, true), (3, true), (4, true), (5, true), (6, true), (7, true), (8, true), (9, true)] (fun V => V = wr.drew) (by kernel_rfl) (by kernel_rfl) (by decide) (by kernel_rfl) (fun d _ _ _ _ h => by cases d <;> exact h) rfl ?_
                iterate 10 ((apply wpOrd_take rfl rfl (by kernel_rfl); (intro V hV; subst hV; go_simp; rfl)); (try simp only [List.setIfInBounds_toArray, List.set_cons_succ, List.set_cons_zero]))
                refine wpOrd_nil ?_
                go_wp2_with fail
                go_roundw
                case rel => first | exact HBD.out | ((repeat apply Exists.intro); exact ⟨HBD.out, rfl⟩)
                case measure => simp [intOf]; omega
              · have hqe : q = 256 := by omega
                subst hqe
                have HLE := Lib.hid (ilen_any wr (HeapAt.later HH.out hbq))
                have HBE2 := Lib.hid (HBB.out.trans ((HBE.out.trans (hbq.mono HBE.out.size)).mono HBB.out.size))
                clear hbq
                go_wp2_with fail
                refine HLE.out.mono ?_
                rintro e w9 ⟨rfl, rfl⟩
                go_wp2_with fail
                refine (works_any _).mono ?_
                rintro e w8 ⟨rfl, hb8⟩
                go_wp2_with fail
                go_ret
                exact ⟨rfl, HBE2.out.trans (hb8.mono HBE2.out.size)⟩

end Go.Proofs.Ytbigglcolfbglaa
