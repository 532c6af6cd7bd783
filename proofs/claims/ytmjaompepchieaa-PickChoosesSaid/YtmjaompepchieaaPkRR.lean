/- Contract of the reference's Rank: the best, and then the best of the others. -/
import Derived.Test.YtmjaompepchieaaPkK
set_option linter.unusedSimpArgs false
set_option linter.unusedVariables false
namespace Go.Proofs.Ytmjaompepchieaa
open Go.RowKit Go.ChangeShapes Go.WideShapes Go.Sort

/-- append of a list to none: a list of the call's own. -/
theorem wpList_append_lst {P : Program} {w : World} {ops : Array Oper} {rest : List Oper} {o : Oper} {a : Act} {Q : Exit → Act → World → Prop} (hgd : o.guard = none) (s x : Operand) (t : TypeId)
    (ho : o.op = .call { callee := .builtin .append, args := #[s, x], argTypes := #[t, t] })
    (e : TypeId) (i : TypeInfo) (z : Value) (ht : P.underlying t = some (.slice e)) (hi : P.info? e = some i) (hz : i.zero = some z)
    (hsize : i.size = 1) (hby : i.bytes = 8) (hzs : z.cells.size = 1)
    (v : Value) (l : List Int) (hs : a.eval s = .slice none 0 0) (hx : a.eval x = v) (hL : Lst w v l)
    (h : ∀ v' w', Row w' w.heap.size e 1 v' l.length (ints l) → Below w.heap.size w w' → wpList P ops Q rest (a.put o.dst v') w') : wpList P ops Q (o :: rest) a w := by
  rcases hL with ⟨rfl, rfl⟩ | ⟨g, off, cap, rfl, h0, h1, h2, hg, hcells⟩
  · refine wpList_plain hgd fun _ hK => ?_
    have hr : (Builtin.append_ #[t, t] o.type #[.slice none 0 0, .slice none 0 0]).run P w = .ok (.slice none 0 0) w := by
      simp [Builtin.append_, run_underlying ht, sizeOf, typeInfo, hi, Builtin.lenOf, Builtin.firstCells, Go.storeCells, Go.loadCells, loadCellsFrom, Sem.run_bind, Sem.run_pure]
    unfold Oper.wp execOp
    simp only [ho, resolve, invoke, builtin, Sem.run_bind, Sem.run_pure, Result.andThen_ok, List.map_toArray, List.map_cons, List.map_nil, hs, hx, hr]
    exact hK _ _ (h _ _ (Row.nil_ _ _ _ _) (Below.refl _ _))
  · refine wpList_append_row w hgd s x t ho w.heap.size e i z 1 8 ht hi hz hsize hby hzs (by decide) (.slice none 0 0) 0 [] hs (Row.nil_ _ _ _ _) ⟨g, off, none⟩ l.length cap (ints l) hx (by simp [ints]) ?_ ?_ (by simp [maxLen]; omega) (by omega) (Nat.le_refl _) fun v' w' h3 h4 _ _ => h v' w' (by simpa using h3) ?_
    · intro j u hj
      unfold ints at hj
      rw [List.getElem?_map] at hj
      cases hlj : l[j]? with
      | none => rw [hlj] at hj; simp at hj
      | some y =>
        rw [hlj] at hj
        simp only [Option.map_some, Option.some.injEq] at hj
        subst hj
        have hjl := (List.getElem?_eq_some_iff.1 hlj).1
        have := (hcells j hjl).1
        rw [List.getD_eq_getElem?_getD, hlj] at this
        have ha : (⟨g, off, none⟩ : Addr).add j = ⟨g, off + j, none⟩ := by unfold Addr.add; split <;> simp_all
        rw [ha]; exact this
    · intro u hu
      unfold ints at hu
      obtain ⟨y, _, rfl⟩ := List.mem_map.1 hu
      rfl
    · exact ⟨h4.os, h4.tape, h4.output, h4.size, fun k hk => h4.block k hk (by simp [Value.ownBlock])⟩

theorem nbs_len : ∀ (l : List Int) (z : Int), nbs z l = true → z ≤ 24 → (l.length : Int) ≤ 24 - z
  | [], z, _, h => by simp; omega
  | n :: t, z, h, hz => by
    rw [nbs] at h
    split at h
    · cases h
    · rename_i hn
      have := nbs_len t n h (by omega)
      rw [List.length_cons]
      omega
theorem nbs_24 {l : List Int} (h : nbs 0 l = true) : l.length ≤ 24 := by
  have := nbs_len l 0 h (by omega); omega
theorem nodup_of_pw {l : List Int} (h : l.Pairwise (· < ·)) : l.Nodup := h.imp fun {a b} h => by omega
theorem rk_uncons {e : Nat} {l : List Int} (he : e < 4294967296) (hl : nbs 0 l = true) (h0 : 0 < l.length) : rk e l = bst e l :: rk e (l.filter (· != bst e l)) := by
  have hh := rk_head he hl h0
  have hlr := rk_len e l
  have hnd : (rk e l).Nodup := (rk_perm e l).nodup_iff.2 (nodup_of_pw (nbs_rise l 0 hl).1)
  rw [rk_filter he hl]
  cases hr : rk e l with
  | nil => rw [hr] at hlr; simp at hlr; omega
  | cons a t =>
    rw [hr] at hh hnd
    have ha : a = bst e l := by simpa using hh
    subst ha
    congr 1
    rw [List.filter_cons_of_neg (by simp)]
    refine (List.filter_eq_self.2 fun x hx => ?_).symm
    rw [bne_iff_ne]
    intro h
    subst h
    exact (List.nodup_cons.1 hnd).1 hx
theorem bst_mem {e : Nat} {l : List Int} (h0 : 0 < l.length) : bst e l ∈ l := by
  obtain ⟨i, hi, hb⟩ := bst_in e h0
  rw [← hb]; exact at_mem hi

def lenV : Value → Nat
  | .slice _ n _ => n
  | _ => 0
def RkRel (X : World) (e : Nat) (l : List Int) (left out : Value) (wr : World) : Prop := ∃ xs ys, Two X left out xs ys wr ∧ rk e l = ys ++ rk e xs ∧ nbs 0 xs = true
def IxRel (Y : World) (b : Int) (xs : List Int) (next i : Value) (wr : World) : Prop :=
  ∃ k : Nat, i = .int .i64 k ∧ k ≤ xs.length ∧ Row wr Y.heap.size 3 1 next (flt b xs k).length (ints (flt b xs k)) ∧ Below Y.heap.size Y wr

set_option maxRecDepth 100000 in
set_option maxHeartbeats 6400000 in
theorem rrank_any (e : Nat) (l : List Int) (v : Value) (W : World) (he : e < 4294967296) (h : Lst W v l) :
    Calls Try.prog 12 #[.int .u32 e, v] W fun x W' => ∃ v', x = .returned (.tuple #[v', .int .i64 (rkz e l).2]) ∧ Own W.heap.size W' v' (rkz e l).1 ∧ Below W.heap.size W W' := by
  have HN := Lib.hid (rnbs_any l v W h)
  have HL := Lib.hid h
  obtain ⟨a, cap, rfl, hs, _, _⟩ := h.shape
  clear h
  cases hnb : nbs 0 l with
  | false =>
    have HE := Lib.hid (show rkz e l = ([], 2) by unfold rkz; rw [hnb]; rfl)
    go_enter Try.func12, Try.ntmps12
    go_wp2_with fail
    rw [hnb] at HN
    refine HN.out.mono ?_
    rintro x w ⟨rfl, q, rfl⟩
    clear hnb
    go_wp2_with fail
    go_returns
    exact ⟨_, by rw [HE.out]; rfl, ⟨by rw [HE.out]; exact .inl ⟨rfl, rfl⟩, fun k hk => by simp [Value.ownBlock] at hk⟩, ⟨rfl, rfl, rfl, Nat.le_refl _, fun _ _ => rfl⟩⟩
  | true =>
    have HE := Lib.hid (show rkz e l = (rk e l, 0) by unfold rkz; rw [hnb, if_pos rfl])
    have HNL := Lib.hid hnb
    rw [hnb] at HN
    clear hnb hs
    obtain ⟨i0, hi, hz0, hz1, hz2⟩ := info_parts infoI
    go_enter Try.func12, Try.ntmps12
    go_wp2_with fail
    refine HN.out.mono ?_
    rintro x X ⟨rfl, q, hX⟩
    have HBX := Lib.hid (show Below W.heap.size W X by rw [hX]; exact ⟨rfl, rfl, rfl, Nat.le_refl _, fun _ _ => rfl⟩)
    have HSX := Lib.hid (show X.heap.size = W.heap.size by rw [hX]; rfl)
    have HLX := Lib.hid (HL.out.later HBX.out)
    clear hX HL HN
    go_wp2_with (at_builtin; refine wpList_append_lst rfl (.tmp 14) (.tmp 15) 23 rfl 3 i0 (.int .i64 0) Try.underlying23 hi hz0 hz1 hz2 rfl _ l rfl rfl HLX.out ?_)
    intro v1 w1 hrow1 hb1
    have H0 := Lib.hid (show RkRel X e l v1 (.slice none 0 0) w1 from ⟨l, [], ⟨hrow1, Row.nil_ _ _ _ _, fun k _ hk => by simp [Value.ownBlock] at hk, hb1⟩, rfl, HNL.out⟩)
    clear hrow1 hb1 hi hz0 hz1 hz2
    go_wp2_with fail
    go_loopw [6, 7] (fun left out wr => RkRel X e l left out wr) (fun left _ _ => lenV left)
    case atStart => exact H0.out
    case round =>
      clear H0
      obtain ⟨xs, ys, hT, hrk, hnx⟩ := hrel
      have HT := Lib.hid hT
      have HRK := Lib.hid hrk
      have HNX := Lib.hid hnx
      have hx24 := nbs_24 hnx
      have hy24 : ys.length + xs.length ≤ 24 := by
        have := congrArg List.length hrk
        rw [List.length_append, rk_len, rk_len] at this
        have := nbs_24 HNL.out
        omega
      obtain ⟨a1, c1, rfl, _, _⟩ := hT.rv.shape
      obtain ⟨a2, c2, rfl, _, _⟩ := hT.ru.shape
      clear hT hrk hnx
      obtain ⟨n, hn⟩ : ∃ n, n = xs.length := ⟨_, rfl⟩
      obtain ⟨m, hm⟩ : ∃ m, m = ys.length := ⟨_, rfl⟩
      rw [← hn, ← hm] at hy24
      rw [← hn] at hx24
      rw [← hn, ← hm]
      have HNN := Lib.hid hn
      have HMM := Lib.hid hm
      clear hn hm
      by_cases h0 : 0 < n
      · have d0 : decide (0 < (n : Int)) = true := decide_eq_true (by omega)
        have HB := Lib.hid (rbest_any e xs (.slice a1 n c1) wr he (by rw [HNN.out]; exact (Row.own HT.out.rv (by rw [← HNN.out]; omega)).1) (by rw [← HNN.out]; exact h0))
        obtain ⟨b, hb⟩ : ∃ b, b = bst e xs := ⟨_, rfl⟩
        rw [← hb] at HB
        have HBB := Lib.hid hb
        have HG := Lib.hid HT.out.bel.size
        clear hb
        go_wp2_with fail
        refine HB.out.mono ?_
        rintro x w2 ⟨rfl, rfl⟩
        clear HB
        obtain ⟨i0, hi, hz0, hz1, hz2⟩ := info_parts infoI
        go_wp2_with (at_builtin; refine wpList_append_one2 rfl (.tmp 23) (.tmp 25) 23 rfl X.heap.size 3 i0 (.int .i64 0) 8 Try.underlying23 hi hz0 hz1 hz2 rfl _ _ _ _ HT.out.ru (by rw [← HMM.out]; rfl) rfl rfl ?c3 ?c4 HG.out ?_)
        case c3 => rw [← HMM.out]; unfold maxLen; omega
        case c4 => rw [← HMM.out]; omega
        intro v2 Y hrow2 hg2 hb2
        have HT2 := Lib.hid (HT.out.turn.more hrow2 hg2 hb2).turn
        clear hrow2 hg2 hb2 hi hz0 hz1 hz2
        have HCL := Lib.hid (show ∃ g, a1 = some ⟨g, 0, none⟩ ∧ ∀ wr', Below Y.heap.size Y wr' → ∀ k, k < n → wr'.cell? ⟨g, k, none⟩ = some (.int .i64 (xs.getD k 0)) from by
          obtain ⟨g, c, he, _, hg, _, _, hcells, _⟩ := Row.form HT2.out.rv (by rw [← HNN.out]; exact h0)
          simp only [Value.slice.injEq] at he
          refine ⟨g, he.1, fun wr' hb k hk => (below_cell hb ⟨g, k, none⟩ hg).trans ?_⟩
          rw [hcells k (by rw [← HNN.out]; omega)]
          unfold ints
          rw [List.getElem?_map, List.getD_eq_getElem?_getD, List.getElem?_eq_getElem (by rw [← HNN.out]; exact hk)]
          rfl)
        obtain ⟨g, rfl, hcl⟩ := HCL.out
        have HCL2 := Lib.hid hcl
        clear hcl HCL HT
        have H1 := Lib.hid (show IxRel Y b xs (.slice none 0 0) (.int .i64 0) Y from ⟨0, rfl, Nat.zero_le _, Row.nil_ _ _ _ _, Below.refl _ _⟩)
        go_wp2_with fail
        go_loopw [9, 10] (fun next i wr => IxRel Y b xs next i wr) (fun _ i _ => n - (intOf i).toNat)
        case atStart => exact H1.out
        case round =>
          clear H1
          obtain ⟨k, rfl, hk, hrow, hbel⟩ := hrel
          rw [← HNN.out] at hk
          have HROW := Lib.hid hrow
          have HBEL := Lib.hid hbel
          obtain ⟨a3, c3, rfl, _, _⟩ := hrow.shape
          clear hrow hbel
          by_cases hlt : k < n
          · have hlz : decide ((k : Int) < (n : Int)) = true := decide_eq_true (by omega)
            have cx := HCL2.out _ HBEL.out k hlt
            have s1 := flt_step (g := b) (l := xs) (k := k) (by rw [← HNN.out]; exact hlt)
            have hl1 := flt_len b xs k
            obtain ⟨y, hy⟩ : ∃ y, y = xs.getD k 0 := ⟨_, rfl⟩
            rw [← hy] at cx s1
            have HS1 := Lib.hid s1
            have HG2 := Lib.hid HBEL.out.size
            clear hy s1
            cases b1 : (y != b) with
            | true =>
              have HE1 := Lib.hid (show flt b xs (k + 1) = flt b xs k ++ [y] by have := HS1.out; rw [b1] at this; simpa using this)
              clear HS1
              obtain ⟨i0, hi, hz0, hz1, hz2⟩ := info_parts infoI
              go_wp2_with (at_builtin; refine wpList_append_one2 rfl (.tmp 39) (.tmp 44) 23 rfl Y.heap.size 3 i0 (.int .i64 0) 8 Try.underlying23 hi hz0 hz1 hz2 rfl _ _ _ _ HROW.out rfl rfl rfl ?d3 ?d4 HG2.out ?_)
              case d3 => unfold maxLen; omega
              case d4 => omega
              intro v4 w4 hrow4 hg4 hb4
              have HREL := Lib.hid (show IxRel Y b xs v4 (.int .i64 ((k : Int) + 1)) w4 from ⟨k + 1, by rw [show (k : Int) + 1 = ((k + 1 : Nat) : Int) from by simp], by rw [← HNN.out]; omega, by rw [HE1.out]; simpa [ints] using hrow4, below_one HBEL.out HBEL.out.size hg4 fun j hj => (HROW.out.lt j hj).1⟩)
              clear hrow4 hg4 hb4 hi hz0 hz1 hz2
              go_wp2_with fail
              go_roundw
              case rel => first | exact HREL.out | exact ⟨_, _, HREL.out, rfl⟩ | ((repeat apply Exists.intro); exact ⟨HREL.out, rfl⟩)
              case measure => simp [intOf]; omega
            | false =>
              have HE1 := Lib.hid (show flt b xs (k + 1) = flt b xs k by have := HS1.out; rw [b1] at this; simpa using this)
              clear HS1
              have HREL := Lib.hid (show IxRel Y b xs (.slice a3 (flt b xs k).length c3) (.int .i64 ((k : Int) + 1)) wr from ⟨k + 1, by rw [show (k : Int) + 1 = ((k + 1 : Nat) : Int) from by simp], by rw [← HNN.out]; omega, by rw [HE1.out]; exact HROW.out, HBEL.out⟩)
              go_wp2_with fail
              go_roundw
              case rel => first | exact HREL.out | exact ⟨_, _, HREL.out, rfl⟩ | ((repeat apply Exists.intro); exact ⟨HREL.out, rfl⟩)
              case measure => simp [intOf]; omega
          · obtain rfl : k = n := by omega
            have hlz : decide ((k : Int) < (k : Int)) = false := decide_eq_false (by omega)
            obtain ⟨zs, hzs⟩ : ∃ zs, zs = xs.filter (· != b) := ⟨_, rfl⟩
            have e1 : flt b xs k = zs := by rw [hzs, HNN.out, flt_all]
            have hR := HROW.out
            rw [e1] at hR
            rw [e1]
            have HREL := Lib.hid (show RkRel X e l (.slice a3 zs.length c3) v2 wr from ⟨zs, ys ++ [b],
              ⟨hR.more HT2.out.bel.size, HT2.out.ru.later HBEL.out, fun j h1 h2 => by
                have k1 := (hR.lt j h1).1
                have k2 := (HT2.out.ru.lt j h2).2
                omega, HT2.out.bel.trans (HBEL.out.mono HT2.out.bel.size)⟩,
              by rw [HRK.out, rk_uncons he HNX.out (by rw [← HNN.out]; exact h0), ← HBB.out, hzs]; simp,
              by rw [hzs]; exact filter_nbs _ HNX.out⟩)
            have hdec : zs.length < k := by
              rw [hzs, HNN.out]
              refine List.length_filter_lt_length_iff_exists.2 ⟨b, ?_, by simp⟩
              rw [HBB.out]
              exact bst_mem (by rw [← HNN.out]; exact h0)
            clear hR e1 hzs
            go_wp2_with fail
            go_roundw
            case rel => first | exact HREL.out | exact ⟨_, _, HREL.out, rfl⟩ | ((repeat apply Exists.intro); exact ⟨HREL.out, rfl⟩)
            case measure => simp only [lenV]; omega
      · obtain rfl : n = 0 := by omega
        have hx0 : xs = [] := List.eq_nil_of_length_eq_zero HNN.out.symm
        have hE : rk e l = ys := by
          have h1 : rk e [] = [] := List.eq_nil_of_length_eq_zero (rk_len e [])
          rw [HRK.out, hx0, h1, List.append_nil]
        have HFIN := Lib.hid (show Own W.heap.size wr (.slice a2 m c2) (rkz e l).1 ∧ Below W.heap.size W wr from by
          have ho := Row.own HT.out.ru (by rw [← HMM.out]; omega)
          rw [HE.out]
          simp only
          rw [hE, HMM.out]
          rw [HSX.out] at ho
          exact ⟨ho, HBX.out.trans (HT.out.bel.mono (by rw [HSX.out]; exact Nat.le_refl _))⟩)
        clear hx0 hE
        go_wp2_with fail
        go_returns
        exact ⟨_, by rw [HE.out]; rfl, HFIN.out.1, HFIN.out.2⟩

end Go.Proofs.Ytmjaompepchieaa
