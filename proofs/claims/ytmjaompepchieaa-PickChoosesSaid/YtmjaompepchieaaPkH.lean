/- Contracts of the routers of a set, and of the law's own example. -/
import Derived.Test.YtmjaompepchieaaPkG
set_option linter.unusedSimpArgs false
set_option linter.unusedVariables false
namespace Go.Proofs.Ytmjaompepchieaa
open Go.RowKit Go.ChangeShapes Go.WideShapes Go.Sort

/-- The routers of a set, up to k. -/
def ofs (s : Nat) : Nat → List Int
  | 0 => []
  | k + 1 => if s / 2 ^ (k + 1) % 2 = 1 then ofs s k ++ [((k + 1 : Nat) : Int)] else ofs s k
theorem ofs_len (s : Nat) : ∀ k, (ofs s k).length ≤ k
  | 0 => Nat.le_refl _
  | k + 1 => by
    have := ofs_len s k
    rw [ofs]
    split
    · rw [List.length_append, List.length_singleton]; omega
    · omega
theorem ofs_in (s : Nat) : ∀ k, ∀ x ∈ ofs s k, 0 < x ∧ x ≤ (k : Int)
  | 0, x, h => by simp [ofs] at h
  | k + 1, x, h => by
    rw [ofs] at h
    split at h
    · rcases List.mem_append.1 h with h | h
      · have := ofs_in s k x h; omega
      · rw [List.mem_singleton] at h; omega
    · have := ofs_in s k x h; omega
theorem ofs_rise (s : Nat) : ∀ k, Rise (ofs s k)
  | 0 => List.Pairwise.nil
  | k + 1 => by
    rw [ofs]
    split
    · refine List.pairwise_append.2 ⟨ofs_rise s k, List.pairwise_singleton _ _, fun x hx y hy => ?_⟩
      rw [List.mem_singleton] at hy
      have := ofs_in s k x hx
      omega
    · exact ofs_rise s k
theorem nbs_of : ∀ (l : List Int) (z : Int), Rise l → (∀ x ∈ l, z < x ∧ x ≤ 24) → nbs z l = true
  | [], _, _, _ => rfl
  | n :: t, z, hr, hh => by
    have h1 := hh n (List.mem_cons_self ..)
    obtain ⟨h2, h3⟩ := List.pairwise_cons.1 hr
    rw [nbs, if_neg (by omega)]
    exact nbs_of t n h3 fun x hx => ⟨h2 x hx, (hh x (List.mem_cons_of_mem _ hx)).2⟩
theorem ofs_nbs (s : Nat) : nbs 0 (ofs s 24) = true := nbs_of _ _ (ofs_rise s 24) fun x hx => ofs_in s 24 x hx

theorem bit32_run (w k : Nat) (hw : w < 4294967296) : (bits BinOp.and IntKind.u32 ((w : Int) / 2 ^ k) 1 == 1) = (w / 2 ^ k % 2 == 1) := by
  have e : ((w : Int) / 2 ^ k) = ((w / 2 ^ k : Nat) : Int) := by simp
  have h1 : bits .and .u32 ((w / 2 ^ k : Nat) : Int) (1 : Int) = ((w / 2 ^ k &&& 1 : Nat) : Int) := u32_and_nat _ 1 (Nat.lt_of_le_of_lt (Nat.div_le_self _ _) hw) (by decide)
  rw [e, h1, Nat.and_one_is_mod, Bool.eq_iff_iff]
  simp only [beq_iff_eq]
  omega
theorem infoI : (Try.prog.info? 3).map (fun i => (i.zero, i.size, i.bytes)) = some (some (.int .i64 0), 1, 8) := by kernel_rfl
theorem info_parts {t : TypeId} {z : Value} {n b : Nat} (h : (Try.prog.info? t).map (fun i => (i.zero, i.size, i.bytes)) = some (some z, n, b)) : ∃ i, Try.prog.info? t = some i ∧ i.zero = some z ∧ i.size = n ∧ i.bytes = b := by
  cases hi : Try.prog.info? t with
  | none => rw [hi] at h; cases h
  | some i => rw [hi] at h; simp only [Option.map_some, Option.some.injEq, Prod.mk.injEq] at h; exact ⟨i, rfl, h.1, h.2.1, h.2.2⟩
def ints (l : List Int) : List Value := l.map (Value.int .i64)
def OfRel (W : World) (s : Nat) (out i : Value) (wr : World) : Prop :=
  ∃ k : Nat, i = .int .i64 ((k : Int) + 1) ∧ k ≤ 24 ∧ Row wr W.heap.size 3 1 out (ofs s k).length (ints (ofs s k)) ∧ Below W.heap.size W wr

set_option maxRecDepth 100000 in
set_option maxHeartbeats 1600000 in
theorem of_row (s : Nat) (W : World) (hs : s < 4294967296) : Calls Try.prog 17 #[.int .u32 s] W fun e W' => ∃ v, e = .returned v ∧ Row W' W.heap.size 3 1 v (ofs s 24).length (ints (ofs s 24)) ∧ Below W.heap.size W W' := by
  have H0 := Lib.hid (show OfRel W s (.slice none 0 0) (.int .i64 1) W from ⟨0, rfl, by omega, Row.nil_ _ _ _ _, Below.refl _ _⟩)
  go_enter Try.func17, Try.ntmps17
  go_wp2_with fail
  go_loopw [3, 4] (fun out i wr => OfRel W s out i wr) (fun _ i _ => 25 - (intOf i).toNat)
  case atStart => exact H0.out
  case round =>
    obtain ⟨k, rfl, hk, hr, hb⟩ := hrel
    by_cases hlt : k < 24
    · obtain ⟨n, hn⟩ : ∃ n, n = k + 1 := ⟨_, rfl⟩
      have hni : (k : Int) + 1 = (n : Int) := by omega
      have hle : decide ((n : Int) ≤ 24) = true := decide_eq_true (by omega)
      have hn1 : 1 ≤ n := by omega
      have hn2 : n ≤ 24 := by omega
      have hbr := bit32_run s n hs
      have hss := ofs_len s k
      have HU := Lib.hid (show ofs s n = if s / 2 ^ n % 2 = 1 then ofs s k ++ [(n : Int)] else ofs s k by rw [hn]; rfl)
      have HN := Lib.hid hn
      have HR := Lib.hid hr
      have HB := Lib.hid hb
      have HG := Lib.hid hb.size
      clear hn hr hb
      obtain ⟨out_a, ocap, ho, _, _⟩ := HR.out.shape
      subst ho
      by_cases hbit : s / 2 ^ n % 2 = 1
      · have hbb : (s / 2 ^ n % 2 == 1) = true := by rw [beq_iff_eq]; exact hbit
        rw [hbb] at hbr
        have hup := HU.out
        rw [if_pos hbit] at hup
        have HUP := Lib.hid hup
        obtain ⟨i0, hi, hz0, hz1, hz2⟩ := info_parts infoI
        clear hup hbit hbb
        go_wp2_with (at_builtin; refine wpList_append_one _ rfl (.tmp 14) (.tmp 16) 23 rfl W.heap.size 3 i0 (.int .i64 0) 8 Try.underlying23 hi hz0 hz1 hz2 rfl _ _ _ _ HR.out rfl rfl rfl ?c3 ?c4 HG.out ?_)
        case c3 => unfold maxLen; omega
        case c4 => omega
        intro v' w' hrow' hg
        have HREL := Lib.hid (show OfRel W s v' (.int .i64 ((n : Int) + 1)) w' from by
          refine ⟨n, rfl, hn2, ?_, ?_⟩
          · rw [HUP.out]
            simpa [ints] using hrow'
          · exact below_one HB.out HB.out.size hg fun q hq => by have := (HR.out.lt _ hq).1; omega)
        clear hrow' hg hi hz0 hz1 hz2
        go_wp2_with fail
        go_roundw
        case rel => first | exact HREL.out | exact ⟨_, _, HREL.out, rfl⟩ | ((repeat apply Exists.intro); exact ⟨HREL.out, rfl⟩)
        case measure => simp [intOf]; omega
      · have hbb : (s / 2 ^ n % 2 == 1) = false := by rw [beq_eq_false_iff_ne]; exact hbit
        rw [hbb] at hbr
        have hup := HU.out
        rw [if_neg hbit] at hup
        have HREL := Lib.hid (show OfRel W s (.slice out_a (ofs s k).length ocap) (.int .i64 ((n : Int) + 1)) wr from ⟨n, rfl, hn2, by rw [hup]; exact HR.out, HB.out⟩)
        clear hup hbit hbb
        go_wp2_with fail
        go_roundw
        case rel => first | exact HREL.out | exact ⟨_, _, HREL.out, rfl⟩ | ((repeat apply Exists.intro); exact ⟨HREL.out, rfl⟩)
        case measure => simp [intOf]; omega
    · obtain rfl : k = 24 := by omega
      obtain ⟨c, hc⟩ : ∃ c, c = (ofs s 24).length := ⟨_, rfl⟩
      have HE := Lib.hid (And.intro hr hb)
      clear hr hb hc
      go_wp2_with fail
      go_returns
      exact ⟨_, rfl, HE.out⟩
theorem of_any (s : Nat) (W : World) (hs : s < 4294967296) : Calls Try.prog 17 #[.int .u32 s] W fun e W' => ∃ v, e = .returned v ∧ Own W.heap.size W' v (ofs s 24) ∧ Below W.heap.size W W' :=
  (of_row s W hs).mono fun x V ⟨v, h1, h2, h3⟩ => ⟨v, h1, Row.own h2 (by have := ofs_len s 24; omega), h3⟩

/-- A list that a call has just laid. -/
theorem Lst.new (V : World) (l : List Int) (hs : l.length ≤ 1000) : Lst (V.alloc (.cells (l.map (Value.int .i64)).toArray 3)) (.slice (some ⟨V.heap.size, 0, none⟩) l.length l.length) l := by
  refine .inr ⟨V.heap.size, 0, l.length, rfl, hs, Nat.le_refl _, by unfold maxLen; omega, by rw [World.size_alloc]; omega, fun j hj => ⟨?_, ?_⟩⟩
  · rw [cell_of_row _ _ _ _ _ _ (heap_alloc_new _ _)]
    simp [List.getD_eq_getElem?_getD, hj]
  · simp only [World.frozen?, heap_alloc_new]
    simp
theorem rk_eq {e : Nat} {l m : List Int} (he : e < 4294967296) (hr : ∀ x ∈ l, 0 < x ∧ x ≤ 24) (hP : m.Perm l) (hS : m.Pairwise fun x y => key e y ≤ key e x) : rk e l = m := by
  unfold rk
  refine (List.Perm.eq_of_pairwise (le := fun x y => decide (key e y ≤ key e x) = true) ?_ ?_ ?_ (hP.trans (List.mergeSort_perm _ _).symm)).symm
  · intro a b ha hb h1 h2
    rw [decide_eq_true_eq] at h1 h2
    have ha' := hr a (hP.mem_iff.1 ha)
    have hb' := hr b ((List.mergeSort_perm _ _).mem_iff.1 hb)
    exact key_inj he (by omega) (by omega) (by omega) (by omega) (by omega)
  · exact hS.imp fun h => decide_eq_true h
  · refine List.pairwise_mergeSort ?_ ?_ _
    · intro a b c h1 h2
      rw [decide_eq_true_eq] at *
      omega
    · intro a b
      rw [Bool.or_eq_true, decide_eq_true_eq, decide_eq_true_eq]
      omega
theorem rkz4 : rkz 4 [1, 2, 3] = ([1, 2, 3], 0) := by
  unfold rkz
  rw [if_pos (by decide +kernel), rk_eq (m := [1, 2, 3]) (by decide) (by decide) (by decide) (by decide +kernel)]
theorem chz0 : chz 0 [1, 2, 3] = (3, 0) := by decide +kernel
theorem key95 : key 9 5 = 3340711254 := by decide +kernel

end Go.Proofs.Ytmjaompepchieaa
