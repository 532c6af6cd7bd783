/- Contract of the heap's Sort, over whatever order. -/
import Derived.Test.YtbigglcolfbglaaHeapW
set_option linter.unusedSimpArgs false
set_option linter.unusedVariables false
namespace Go.Proofs.Ytbigglcolfbglaa
open Go.RowKit

/-- A list of integers, as cells. -/
def iS (l : List Int) : List Value := l.map (Value.int .i64)
theorem iS_length (l : List Int) : (iS l).length = l.length * 1 := by simp [iS]
theorem iS_append (l m : List Int) : iS (l ++ m) = iS l ++ iS m := by simp [iS]
theorem iS_get {l : List Int} {i : Nat} (h : i < l.length) : (iS l)[i]? = some (.int .i64 (l.getD i default)) := by simp [iS, List.getD_eq_getElem?_getD, h]
theorem iS_one {l : List Int} : ∀ u ∈ iS l, u.oneCell' = true := by
  intro u hu
  simp only [iS, List.mem_map] at hu
  obtain ⟨x, _, rfl⟩ := hu
  rfl
/-- A slice that reads as a list of integers. -/
def IRow (W : World) (b : Nat) (v : Value) (l : List Int) : Prop := Row W b 3 1 v l.length (iS l)
theorem infoIn : (Try.prog.info? 3).map (fun i => (i.zero, i.size, i.bytes)) = some (some (.int .i64 0), 1, 8) := by kernel_rfl

theorem take_snoc {β : Type} [Inhabited β] {l : List β} {k : Nat} (h : k < l.length) : l.take (k + 1) = l.take k ++ [l.getD k default] := by
  rw [List.take_succ_eq_append_getElem h]
  simp [List.getD_eq_getElem?_getD, h]
theorem drop_cons {β : Type} [Inhabited β] {l : List β} {k : Nat} (h : k < l.length) : l.drop k = l.getD k default :: l.drop (k + 1) := by
  rw [List.drop_eq_getElem_cons h]
  simp [List.getD_eq_getElem?_getD, h]

/-! ### at int -/
def iSortPost (W : World) (P : List (Int)) (e : Ending) (W' : World) : Prop := ∃ v', e = .returned v' ∧ IRow W' W.heap.size v' P ∧ Below W.heap.size W W'
/-- What the sorting gives. -/
def iSorted (lt : (Int) → (Int) → Bool) (l : List (Int)) : List (Int) := pops (lah lt) l.length (pushs (lah lt) [] 0 l)

def iSortIn (lt : (Int) → (Int) → Bool) (W : World) (G : Nat) (caps : Array Value) (l : List (Int)) (i : Value) (wr : World) : Prop :=
  ∃ (k : Nat) (s : Value), i = .int .i64 k ∧ k ≤ l.length ∧ iAt wr W.heap.size W.heap.size G caps (pushs (lah lt) [] 0 (l.take k)) k s ∧ Below W.heap.size W wr
def iSortOut (lt : (Int) → (Int) → Bool) (ok : (Int) → Prop) (W : World) (G : Nat) (caps : Array Value) (N : Nat) (P : List (Int)) (o i : Value) (wr : World) : Prop :=
  ∃ (k : Nat) (M : List ((Int) × Nat)) (s : Value), i = .int .i64 k ∧ k ≤ N ∧ M.length = N - k ∧ pops (lah lt) (N - k) M = P.drop k ∧ (∀ x ∈ M, ok x.1) ∧ iAt wr W.heap.size W.heap.size G caps M N s ∧ IRow wr W.heap.size o (P.take k) ∧ Below W.heap.size W wr ∧
    ∀ q, o.ownBlock = some q → q ≠ W.heap.size ∧ s.ownBlock ≠ some q

theorem isort_in {lt : (Int) → (Int) → Bool} {W wr W' : World} {G k : Nat} {caps : Array Value} {l : List (Int)} {s : Value} (hk : k < l.length) (hb : Below W.heap.size W wr) (hs : ∀ q, s.ownBlock = some q → W.heap.size ≤ q)
    (hp : iPushed lt wr W.heap.size W.heap.size G caps (pushs (lah lt) [] 0 (l.take k)) (l.getD k default) k s W') : iSortIn lt W G caps l (.int .i64 ((k : Int) + 1)) W' := by
  obtain ⟨s', hat, T⟩ := hp
  refine ⟨k + 1, s', by go_num, by omega, ?_, hb.trans (T.below hb.size (Nat.le_refl _) hs)⟩
  rw [take_snoc hk, pushs_snoc, Nat.zero_add, show (l.take k).length = k from by rw [List.length_take]; omega]
  exact hat

theorem isort_out {lt : (Int) → (Int) → Bool} {ok : (Int) → Prop} {W wr V W' : World} {G k N : Nat} {caps : Array Value} {P : List (Int)} {M : List ((Int) × Nat)} {s o o' : Value} (hk : k < N) (hN : P.length = N) (hM : M.length = N - k) (hpp : pops (lah lt) (N - (k + 1)) (popL (lah lt) M) = P.drop (k + 1)) (hok : ∀ x ∈ M, ok x.1)
    (hat0 : iAt wr W.heap.size W.heap.size G caps M N s) (hb : Below W.heap.size W wr) (hrow : IRow wr W.heap.size o (P.take k)) (hap : ∀ q, o.ownBlock = some q → q ≠ W.heap.size ∧ s.ownBlock ≠ some q)
    (hp : iPopped lt wr W.heap.size W.heap.size G caps M N s V) {B1 : World} (hB1 : Below V.heap.size V B1) (hrow' : Row W' W.heap.size 3 1 o' (k + 1) (iS (P.take (k + 1)))) (hg : B1.grownBy W' o.ownBlock) (ho : o'.ownBlock = o.ownBlock ∨ o'.ownBlock = some B1.heap.size) :
    iSortOut lt ok W G caps N P o' (.int .i64 ((k : Int) + 1)) W' := by
  obtain ⟨s', hat, T⟩ := hp
  have hpl := popL_length (lah lt) (L := M) (by omega)
  have hbV : Below W.heap.size W V := hb.trans (T.below hb.size (Nat.le_refl _) fun q hq => ((HeapAt.row hat0).lt q hq).1)
  have hbB := hbV.trans (hB1.mono hbV.size)
  have hapV : ∀ q, o.ownBlock = some q → q ≠ W.heap.size ∧ s'.ownBlock ≠ some q := fun q hq => by
    obtain ⟨h1, h2⟩ := hap q hq
    refine ⟨h1, fun e => ?_⟩
    rcases T.own with e' | ⟨k', e', hk'⟩
    · exact h2 (e' ▸ e)
    · rw [e'] at e; simp only [Option.some.injEq] at e; have := (Row.lt hrow q hq).2; omega
  have hatB := HeapAt.later hat hB1
  have hown : ∀ q, o.ownBlock = some q → q < B1.heap.size := fun q hq => Nat.lt_of_lt_of_le (Row.lt hrow q hq).2 (Nat.le_trans T.size hB1.size)
  refine ⟨k + 1, popL (lah lt) M, s', by go_num, by omega, by omega, hpp, fun x hx => hok x (popL_mem _ (by omega) hx), ?_, ?_, ?_, ?_⟩
  · refine HeapAt.same hatB (hg.block _ hatB.lt fun e => (hapV _ e.symm).1 rfl) fun q hq => hg.block q (hatB.row.lt q hq).2 fun e => (hapV q e.symm).2 hq
  · show Row _ _ _ _ _ _ _
    rw [show (P.take (k + 1)).length = k + 1 from by rw [List.length_take]; omega]
    exact hrow'
  · exact hbB.grown hg hbB.size fun q hq => (Row.lt hrow q hq).1
  · intro q hq
    rcases ho with e | e
    · exact hapV q (e ▸ hq)
    · rw [e] at hq
      simp only [Option.some.injEq] at hq
      subst hq
      exact ⟨by have := hatB.lt; omega, fun e' => by have := (hatB.row.lt _ e').2; omega⟩

set_option maxRecDepth 100000 in
set_option maxHeartbeats 1600000 in
theorem isort_any {B G b : Nat} {caps : Array Value} {lt : (Int) → (Int) → Bool} {ok : (Int) → Prop} {I : World → Prop} (O : Order Try.prog iV B G caps lt ok I) (l : List (Int)) (v : Value) (W : World) (hB : B ≤ W.heap.size) (hrow : IRow W b v l) (hI : I W) (hok : ∀ x ∈ l, ok x) (hl : l.length < 100000) :
    Calls Try.prog 23 #[v, .func (.func G) #[] caps] W (iSortPost W (iSorted lt l)) := by
  obtain ⟨av, cap, rfl, hc1, hc2⟩ := hrow.shape
  have O' : Order Try.prog iV W.heap.size G caps lt ok I := ⟨O.enter, fun V V' hb => O.stays V V' (hb.mono hB), fun x y V hx hy hI hV => O.calls x y V hx hy hI (Nat.le_trans hB hV)⟩
  obtain ⟨N, hN⟩ : ∃ N, N = l.length := ⟨_, rfl⟩
  have hPl : (iSorted lt l).length = N := by rw [iSorted, pops_length, hN]
  have HPL := Lib.hid hPl
  have HN := Lib.hid hN
  have hNs : N < 100000 := by omega
  rw [← hN] at hc1 ⊢
  have HR := Lib.hid hrow
  clear hrow hPl hN
  go_enter Try.func23, Try.ntmps23
  go_wp2_with fail
  refine (inew_any _ _ W).mono ?_
  rintro e w1 ⟨rfl, rfl⟩
  have hI0 := Lib.hid (show iSortIn lt W G caps l (.int .i64 0) (W.alloc (.cells #[.func (.func G) #[] caps, .slice none 0 0, .int .u64 0] 59)) from ⟨0, .slice none 0 0, rfl, by omega, inew_at G caps W (Nat.le_refl _), (Below.refl _ _).alloc (Nat.le_refl _) _⟩)
  go_wp2_with fail
  go_loopw [17] (fun i wr => iSortIn lt W G caps l i wr) (fun i _ => N - (intOf i).toNat)
  case atStart => exact hI0.out
  case round =>
    obtain ⟨k, s, rfl, hk, hat, hb⟩ := hrel
    rw [← HN.out] at hk
    by_cases hkN : k < N
    · have hkl : k < l.length := by rw [← HN.out]; exact hkN
      obtain ⟨gb, cap', hv, _, hgl, _, _, hcell, _⟩ := (Row.later HR.out (hb.mono (Nat.le_refl _))).form (by omega)
      simp only [Value.slice.injEq] at hv
      obtain ⟨rfl, _, rfl⟩ := hv
      obtain ⟨x, hx⟩ : ∃ x, x = l.getD k default := ⟨_, rfl⟩
      have k0 := (hcell k (by omega)).trans (iS_get hkl)
      rw [← hx] at k0
      obtain ⟨w2, hw2⟩ : ∃ w2, w2 = wr := ⟨_, rfl⟩
      have hb2 : Below wr.heap.size wr w2 := by rw [hw2]; exact Below.refl _ _
      have hat2 := HeapAt.later hat hb2
      have hbt := hb.trans (hb2.mono hb.size)
      have hxl : x ∈ l := by rw [hx, List.getD_eq_getElem?_getD, List.getElem?_eq_getElem hkl]; exact List.getElem_mem hkl
      have hplen : (pushs (lah lt) [] 0 (l.take k)).length = k := by rw [pushs_length, List.length_take]; simp; omega
      have hp := ipush_any O' (pushs (lah lt) [] 0 (l.take k)) s x w2 hbt.size hat2 (O.stays _ _ (hbt.mono hB) hI) (fun y hy => hok _ (List.mem_of_mem_take (pushs_mem _ hy))) (hok x hxl) (by omega) (by omega)
      have HC := Lib.hid hp
      have HQ := Lib.hid (fun W' hp => isort_in (lt := lt) (G := G) (caps := caps) (W' := W') hkl hbt (fun q hq => (hat2.row.lt q hq).1) (by rw [← hx]; exact hp))
      have HW2 := Lib.hid hw2
      clear hp hw2 hx hplen hat hat2 hb hb2 hbt hcell hxl hkl
      go_wp2_with fail
      rw [← HW2.out]
      refine HC.out.mono ?_
      rintro e W' ⟨rfl, hp⟩
      have HX := Lib.hid (HQ.out W' hp)
      clear hp
      go_wp2_with fail
      go_roundw
      case rel => exact HX.out
      case measure => simp [intOf]; omega
    · have hkN' : k = N := by omega
      rw [hkN'] at hat
      have hlt' : l.take N = l := by rw [HN.out, List.take_length]
      rw [hlt'] at hat
      have hplen : (pushs (lah lt) [] 0 l).length = N := by rw [pushs_length, HN.out]; simp
      have hO0 := Lib.hid (show iSortOut lt ok W G caps N (iSorted lt l) (.slice none 0 0) (.int .i64 0) wr from
        ⟨0, pushs (lah lt) [] 0 l, s, rfl, by omega, hplen, by rw [iSorted, HN.out]; rfl, fun y hy => hok _ (pushs_mem _ hy), hat, Row.nil_ _ _ _ _, hb, by intro q hq; simp [Value.ownBlock] at hq⟩)
      clear hat hb hlt' hplen hk
      subst hkN'
      obtain ⟨i0, hi, hz0, hz1, hz2⟩ := info_parts infoIn
      go_wp2_with fail
      obtain ⟨wo, rfl⟩ : ∃ wo : World, wo = wr := ⟨_, rfl⟩
      obtain ⟨P, hP⟩ : ∃ P, P = iSorted lt l := ⟨_, rfl⟩
      rw [← hP] at hO0 HPL ⊢
      have HP := Lib.hid hP
      clear hP
      go_loopw [8, 27] (fun o i wr => iSortOut lt ok W G caps k P o i wr) (fun _ i _ => k - (intOf i).toNat)
      case atStart => exact hO0.out
      case round =>
        obtain ⟨j, M, s, rfl, hj, hM, hpp, hokM, hat, hrow, hb, hap⟩ := hrel
        by_cases hjk : j < k
        · have hjP : j < P.length := by rw [HPL.out]; exact hjk
          obtain ⟨x, hx⟩ : ∃ x, x = P.getD j default := ⟨_, rfl⟩
          have hsn := take_snoc hjP
          have hpp' := hpp
          rw [drop_cons hjP, show k - j = (k - (j + 1)) + 1 from by omega] at hpp'
          rw [← hx] at hsn hpp'
          obtain ⟨hgv, hpn⟩ := pops_step hpp'
          have hp := ipop_yes O' M s _ hb.size hat (O.stays _ _ (hb.mono hB) hI) hokM (by omega) (by omega)
          rw [hgv] at hp
          have HC := Lib.hid hp
          have hrl : (P.take j).length = j := by rw [List.length_take]; omega
          have hrow1 : Row wr W.heap.size 3 1 u8 j (iS (P.take j)) := by have h := hrow; unfold IRow at h; rw [hrl] at h; exact h
          have HRV := Lib.hid (show ∀ V, iPopped lt wr W.heap.size W.heap.size G caps M k s V → Row V W.heap.size 3 1 u8 j (iS (P.take j)) from fun V hp => by
            obtain ⟨s', _, T⟩ := hp
            exact hrow1.same fun q hq => T.block q (hrow1.lt q hq).2 (hap q hq).1 (hap q hq).2)
          have HSZ := Lib.hid (show ∀ V, iPopped lt wr W.heap.size W.heap.size G caps M k s V → W.heap.size ≤ V.heap.size from fun V hp => by
            obtain ⟨s', _, T⟩ := hp
            exact Nat.le_trans hb.size T.size)
          have HQ := Lib.hid (fun (V W' B1 : World) (o' : Value) hp hB1 hrow' hg ho => isort_out (lt := lt) (ok := ok) (G := G) (caps := caps) (V := V) (W' := W') (o' := o') (B1 := B1) hjk HPL.out hM hpn hokM hat hb hrow hap hp hB1 (by rw [hsn, iS_append]; exact hrow') hg ho)
          clear hp hgv hpn hpp hpp' hsn hx hrl hrow hrow1 hat hb hap hM hokM hj
          go_wp2_with fail
          refine HC.out.mono ?_
          rintro e V ⟨rfl, hp⟩
          have hrV := HRV.out V hp
          have hszV := HSZ.out V hp
          have HPP := Lib.hid hp
          clear hp
          obtain ⟨V2, hV2⟩ : ∃ V2, V2 = V := ⟨_, rfl⟩
          have hbV : Below V.heap.size V V2 := by rw [hV2]; exact Below.refl _ _
          have hrV2 := hrV.later hbV
          have HV2 := Lib.hid hV2
          have HBV := Lib.hid hbV
          have hsz2 := hbV.size
          clear hV2 hrV hbV
          have HV2b := Lib.hid (show V = V2 from HV2.out.symm)
          go_wp2_with (at_builtin; refine wpList_append_row _ rfl (.tmp 34) (.tmp 36) 51 rfl W.heap.size 3 i0 (.int .i64 0) 1 8 Try.underlying51 hi hz0 hz1 hz2 rfl (by decide) u8 j (iS (P.take j)) rfl (Row.alloc ?hr _) ⟨V.heap.size, 0, none⟩ 1 1 (iS [x]) rfl rfl ?c1 iS_one ?c3 ?c4 ?c5 ?_)
          case hr => rw [← HV2.out]; exact hrV2
          case c1 => exact cell_one_new _ _ _
          case c3 => unfold maxLen; omega
          case c4 => omega
          case c5 => rw [World.size_alloc]; omega
          intro v3 w3 hrow3 hg3 _ ho3
          have HX := Lib.hid (HQ.out V w3 _ v3 HPP.out ((Below.refl _ _).alloc (Nat.le_refl _) _) hrow3 hg3 (by rw [World.size_alloc]; exact ho3))
          clear hrow3 hg3 ho3 hrV2
          go_wp2_with fail
          go_roundw
          case rel => exact HX.out
          case measure => simp [intOf]; omega
        · have hjk' : j = k := by omega
          subst hjk'
          have HF := Lib.hid (show iSortPost W P (.returned u8) wr from ⟨u8, rfl, by rw [← HPL.out, List.take_length] at hrow; exact hrow, hb⟩)
          clear hrow hb hap hat hpp hokM hM hj
          go_wp2_with fail
          go_ret
          rw [← HP.out]
          exact HF.out


/-! ### at Thing -/
def tSortPost (W : World) (P : List (Int × Int)) (e : Ending) (W' : World) : Prop := ∃ v', e = .returned v' ∧ TRow W' W.heap.size v' P ∧ Below W.heap.size W W'
/-- What the sorting gives. -/
def tSorted (lt : (Int × Int) → (Int × Int) → Bool) (l : List (Int × Int)) : List (Int × Int) := pops (lah lt) l.length (pushs (lah lt) [] 0 l)

def tSortIn (lt : (Int × Int) → (Int × Int) → Bool) (W : World) (G : Nat) (caps : Array Value) (l : List (Int × Int)) (i : Value) (wr : World) : Prop :=
  ∃ (k : Nat) (s : Value), i = .int .i64 k ∧ k ≤ l.length ∧ tAt wr W.heap.size W.heap.size G caps (pushs (lah lt) [] 0 (l.take k)) k s ∧ Below W.heap.size W wr
def tSortOut (lt : (Int × Int) → (Int × Int) → Bool) (ok : (Int × Int) → Prop) (W : World) (G : Nat) (caps : Array Value) (N : Nat) (P : List (Int × Int)) (o i : Value) (wr : World) : Prop :=
  ∃ (k : Nat) (M : List ((Int × Int) × Nat)) (s : Value), i = .int .i64 k ∧ k ≤ N ∧ M.length = N - k ∧ pops (lah lt) (N - k) M = P.drop k ∧ (∀ x ∈ M, ok x.1) ∧ tAt wr W.heap.size W.heap.size G caps M N s ∧ TRow wr W.heap.size o (P.take k) ∧ Below W.heap.size W wr ∧
    ∀ q, o.ownBlock = some q → q ≠ W.heap.size ∧ s.ownBlock ≠ some q

theorem tsort_in {lt : (Int × Int) → (Int × Int) → Bool} {W wr W' : World} {G k : Nat} {caps : Array Value} {l : List (Int × Int)} {s : Value} (hk : k < l.length) (hb : Below W.heap.size W wr) (hs : ∀ q, s.ownBlock = some q → W.heap.size ≤ q)
    (hp : tPushed lt wr W.heap.size W.heap.size G caps (pushs (lah lt) [] 0 (l.take k)) (l.getD k default) k s W') : tSortIn lt W G caps l (.int .i64 ((k : Int) + 1)) W' := by
  obtain ⟨s', hat, T⟩ := hp
  refine ⟨k + 1, s', by go_num, by omega, ?_, hb.trans (T.below hb.size (Nat.le_refl _) hs)⟩
  rw [take_snoc hk, pushs_snoc, Nat.zero_add, show (l.take k).length = k from by rw [List.length_take]; omega]
  exact hat

theorem tsort_out {lt : (Int × Int) → (Int × Int) → Bool} {ok : (Int × Int) → Prop} {W wr V W' : World} {G k N : Nat} {caps : Array Value} {P : List (Int × Int)} {M : List ((Int × Int) × Nat)} {s o o' : Value} (hk : k < N) (hN : P.length = N) (hM : M.length = N - k) (hpp : pops (lah lt) (N - (k + 1)) (popL (lah lt) M) = P.drop (k + 1)) (hok : ∀ x ∈ M, ok x.1)
    (hat0 : tAt wr W.heap.size W.heap.size G caps M N s) (hb : Below W.heap.size W wr) (hrow : TRow wr W.heap.size o (P.take k)) (hap : ∀ q, o.ownBlock = some q → q ≠ W.heap.size ∧ s.ownBlock ≠ some q)
    (hp : tPopped lt wr W.heap.size W.heap.size G caps M N s V) {B1 : World} (hB1 : Below V.heap.size V B1) (hrow' : Row W' W.heap.size 26 2 o' (k + 1) (tS (P.take (k + 1)))) (hg : B1.grownBy W' o.ownBlock) (ho : o'.ownBlock = o.ownBlock ∨ o'.ownBlock = some B1.heap.size) :
    tSortOut lt ok W G caps N P o' (.int .i64 ((k : Int) + 1)) W' := by
  obtain ⟨s', hat, T⟩ := hp
  have hpl := popL_length (lah lt) (L := M) (by omega)
  have hbV : Below W.heap.size W V := hb.trans (T.below hb.size (Nat.le_refl _) fun q hq => ((HeapAt.row hat0).lt q hq).1)
  have hbB := hbV.trans (hB1.mono hbV.size)
  have hapV : ∀ q, o.ownBlock = some q → q ≠ W.heap.size ∧ s'.ownBlock ≠ some q := fun q hq => by
    obtain ⟨h1, h2⟩ := hap q hq
    refine ⟨h1, fun e => ?_⟩
    rcases T.own with e' | ⟨k', e', hk'⟩
    · exact h2 (e' ▸ e)
    · rw [e'] at e; simp only [Option.some.injEq] at e; have := (Row.lt hrow q hq).2; omega
  have hatB := HeapAt.later hat hB1
  have hown : ∀ q, o.ownBlock = some q → q < B1.heap.size := fun q hq => Nat.lt_of_lt_of_le (Row.lt hrow q hq).2 (Nat.le_trans T.size hB1.size)
  refine ⟨k + 1, popL (lah lt) M, s', by go_num, by omega, by omega, hpp, fun x hx => hok x (popL_mem _ (by omega) hx), ?_, ?_, ?_, ?_⟩
  · refine HeapAt.same hatB (hg.block _ hatB.lt fun e => (hapV _ e.symm).1 rfl) fun q hq => hg.block q (hatB.row.lt q hq).2 fun e => (hapV q e.symm).2 hq
  · show Row _ _ _ _ _ _ _
    rw [show (P.take (k + 1)).length = k + 1 from by rw [List.length_take]; omega]
    exact hrow'
  · exact hbB.grown hg hbB.size fun q hq => (Row.lt hrow q hq).1
  · intro q hq
    rcases ho with e | e
    · exact hapV q (e ▸ hq)
    · rw [e] at hq
      simp only [Option.some.injEq] at hq
      subst hq
      exact ⟨by have := hatB.lt; omega, fun e' => by have := (hatB.row.lt _ e').2; omega⟩

set_option maxRecDepth 100000 in
set_option maxHeartbeats 1600000 in
theorem tsort_any {B G b : Nat} {caps : Array Value} {lt : (Int × Int) → (Int × Int) → Bool} {ok : (Int × Int) → Prop} {I : World → Prop} (O : Order Try.prog tV B G caps lt ok I) (l : List (Int × Int)) (v : Value) (W : World) (hB : B ≤ W.heap.size) (hrow : TRow W b v l) (hI : I W) (hok : ∀ x ∈ l, ok x) (hl : l.length < 100000) :
    Calls Try.prog 18 #[v, .func (.func G) #[] caps] W (tSortPost W (tSorted lt l)) := by
  obtain ⟨av, cap, rfl, hc1, hc2⟩ := hrow.shape
  have O' : Order Try.prog tV W.heap.size G caps lt ok I := ⟨O.enter, fun V V' hb => O.stays V V' (hb.mono hB), fun x y V hx hy hI hV => O.calls x y V hx hy hI (Nat.le_trans hB hV)⟩
  obtain ⟨N, hN⟩ : ∃ N, N = l.length := ⟨_, rfl⟩
  have hPl : (tSorted lt l).length = N := by rw [tSorted, pops_length, hN]
  have HPL := Lib.hid hPl
  have HN := Lib.hid hN
  have hNs : N < 100000 := by omega
  rw [← hN] at hc1 ⊢
  have HR := Lib.hid hrow
  clear hrow hPl hN
  go_enter Try.func18, Try.ntmps18
  go_wp2_with fail
  refine (tnew_any _ _ W).mono ?_
  rintro e w1 ⟨rfl, rfl⟩
  have hI0 := Lib.hid (show tSortIn lt W G caps l (.int .i64 0) (W.alloc (.cells #[.func (.func G) #[] caps, .slice none 0 0, .int .u64 0] 62)) from ⟨0, .slice none 0 0, rfl, by omega, tnew_at G caps W (Nat.le_refl _), (Below.refl _ _).alloc (Nat.le_refl _) _⟩)
  go_wp2_with fail
  go_loopw [17] (fun i wr => tSortIn lt W G caps l i wr) (fun i _ => N - (intOf i).toNat)
  case atStart => exact hI0.out
  case round =>
    obtain ⟨k, s, rfl, hk, hat, hb⟩ := hrel
    rw [← HN.out] at hk
    by_cases hkN : k < N
    · have hkl : k < l.length := by rw [← HN.out]; exact hkN
      obtain ⟨gb, cap', hv, _, hgl, _, _, hcell, _⟩ := (Row.later HR.out (hb.mono (Nat.le_refl _))).form (by omega)
      simp only [Value.slice.injEq] at hv
      obtain ⟨rfl, _, rfl⟩ := hv
      obtain ⟨x, hx⟩ : ∃ x, x = l.getD k default := ⟨_, rfl⟩
      have k0 := (hcell _ (by omega)).trans (tS_get hkl).1
      have k1 := (hcell _ (by omega)).trans (tS_get hkl).2
      rw [← hx] at k0
      rw [← hx] at k1
      obtain ⟨w2, hw2⟩ : ∃ w2, w2 = wr.alloc (.cells #[.int .i64 x.1, .int .i64 x.2] 26) := ⟨_, rfl⟩
      have hb2 : Below wr.heap.size wr w2 := by rw [hw2]; exact (Below.refl _ _).alloc (Nat.le_refl _) _
      have hat2 := HeapAt.later hat hb2
      have hbt := hb.trans (hb2.mono hb.size)
      have hxl : x ∈ l := by rw [hx, List.getD_eq_getElem?_getD, List.getElem?_eq_getElem hkl]; exact List.getElem_mem hkl
      have hplen : (pushs (lah lt) [] 0 (l.take k)).length = k := by rw [pushs_length, List.length_take]; simp; omega
      have hp := tpush_any O' (pushs (lah lt) [] 0 (l.take k)) s x w2 hbt.size hat2 (O.stays _ _ (hbt.mono hB) hI) (fun y hy => hok _ (List.mem_of_mem_take (pushs_mem _ hy))) (hok x hxl) (by omega) (by omega)
      have HC := Lib.hid hp
      have HQ := Lib.hid (fun W' hp => tsort_in (lt := lt) (G := G) (caps := caps) (W' := W') hkl hbt (fun q hq => (hat2.row.lt q hq).1) (by rw [← hx]; exact hp))
      have HW2 := Lib.hid hw2
      clear hp hw2 hx hplen hat hat2 hb hb2 hbt hcell hxl hkl
      go_wp2_with fail
      rw [← HW2.out]
      refine HC.out.mono ?_
      rintro e W' ⟨rfl, hp⟩
      have HX := Lib.hid (HQ.out W' hp)
      clear hp
      go_wp2_with fail
      go_roundw
      case rel => exact HX.out
      case measure => simp [intOf]; omega
    · have hkN' : k = N := by omega
      rw [hkN'] at hat
      have hlt' : l.take N = l := by rw [HN.out, List.take_length]
      rw [hlt'] at hat
      have hplen : (pushs (lah lt) [] 0 l).length = N := by rw [pushs_length, HN.out]; simp
      have hO0 := Lib.hid (show tSortOut lt ok W G caps N (tSorted lt l) (.slice none 0 0) (.int .i64 0) wr from
        ⟨0, pushs (lah lt) [] 0 l, s, rfl, by omega, hplen, by rw [tSorted, HN.out]; rfl, fun y hy => hok _ (pushs_mem _ hy), hat, Row.nil_ _ _ _ _, hb, by intro q hq; simp [Value.ownBlock] at hq⟩)
      clear hat hb hlt' hplen hk
      subst hkN'
      obtain ⟨i0, hi, hz0, hz1, hz2⟩ := info_parts infoTh
      go_wp2_with fail
      obtain ⟨wo, rfl⟩ : ∃ wo : World, wo = wr := ⟨_, rfl⟩
      obtain ⟨P, hP⟩ : ∃ P, P = tSorted lt l := ⟨_, rfl⟩
      rw [← hP] at hO0 HPL ⊢
      have HP := Lib.hid hP
      clear hP
      go_loopw [8, 27] (fun o i wr => tSortOut lt ok W G caps k P o i wr) (fun _ i _ => k - (intOf i).toNat)
      case atStart => exact hO0.out
      case round =>
        obtain ⟨j, M, s, rfl, hj, hM, hpp, hokM, hat, hrow, hb, hap⟩ := hrel
        by_cases hjk : j < k
        · have hjP : j < P.length := by rw [HPL.out]; exact hjk
          obtain ⟨x, hx⟩ : ∃ x, x = P.getD j default := ⟨_, rfl⟩
          have hsn := take_snoc hjP
          have hpp' := hpp
          rw [drop_cons hjP, show k - j = (k - (j + 1)) + 1 from by omega] at hpp'
          rw [← hx] at hsn hpp'
          obtain ⟨hgv, hpn⟩ := pops_step hpp'
          have hp := tpop_yes O' M s _ hb.size hat (O.stays _ _ (hb.mono hB) hI) hokM (by omega) (by omega)
          rw [hgv] at hp
          have HC := Lib.hid hp
          have hrl : (P.take j).length = j := by rw [List.length_take]; omega
          have hrow1 : Row wr W.heap.size 26 2 u8 j (tS (P.take j)) := by have h := hrow; unfold TRow at h; rw [hrl] at h; exact h
          have HRV := Lib.hid (show ∀ V, tPopped lt wr W.heap.size W.heap.size G caps M k s V → Row V W.heap.size 26 2 u8 j (tS (P.take j)) from fun V hp => by
            obtain ⟨s', _, T⟩ := hp
            exact hrow1.same fun q hq => T.block q (hrow1.lt q hq).2 (hap q hq).1 (hap q hq).2)
          have HSZ := Lib.hid (show ∀ V, tPopped lt wr W.heap.size W.heap.size G caps M k s V → W.heap.size ≤ V.heap.size from fun V hp => by
            obtain ⟨s', _, T⟩ := hp
            exact Nat.le_trans hb.size T.size)
          have HQ := Lib.hid (fun (V W' B1 : World) (o' : Value) hp hB1 hrow' hg ho => tsort_out (lt := lt) (ok := ok) (G := G) (caps := caps) (V := V) (W' := W') (o' := o') (B1 := B1) hjk HPL.out hM hpn hokM hat hb hrow hap hp hB1 (by rw [hsn, tS_append]; exact hrow') hg ho)
          clear hp hgv hpn hpp hpp' hsn hx hrl hrow hrow1 hat hb hap hM hokM hj
          go_wp2_with fail
          refine HC.out.mono ?_
          rintro e V ⟨rfl, hp⟩
          have hrV := HRV.out V hp
          have hszV := HSZ.out V hp
          have HPP := Lib.hid hp
          clear hp
          obtain ⟨V2, hV2⟩ : ∃ V2, V2 = V.alloc (.cells #[.int .i64 x.1, .int .i64 x.2] 26) := ⟨_, rfl⟩
          have hbV : Below V.heap.size V V2 := by rw [hV2]; exact (Below.refl _ _).alloc (Nat.le_refl _) _
          have hrV2 := hrV.later hbV
          have HV2 := Lib.hid hV2
          have HBV := Lib.hid hbV
          have hsz2 := hbV.size
          clear hV2 hrV hbV
          go_wp2_with (at_builtin; refine wpList_append_row _ rfl (.tmp 34) (.tmp 36) 28 rfl W.heap.size 26 i0 (.agg #[.int .i64 0, .int .i64 0]) 2 16 Try.underlying28 hi hz0 hz1 hz2 rfl (by decide) u8 j (tS (P.take j)) rfl (Row.alloc ?hr _) ⟨V.heap.size + 1, 0, none⟩ 1 1 (tS [x]) rfl rfl ?c1 tS_one ?c3 ?c4 ?c5 ?_)
          case hr => rw [← HV2.out]; exact hrV2
          case c1 => have h := cell_two_new (V.alloc (.cells #[.int .i64 x.1, .int .i64 x.2] 26)) (.int .i64 x.1) (.int .i64 x.2) 26; rw [World.size_alloc] at h; exact h
          case c3 => unfold maxLen; omega
          case c4 => omega
          case c5 => rw [World.size_alloc, World.size_alloc]; omega
          intro v3 w3 hrow3 hg3 _ ho3
          have HX := Lib.hid (HQ.out V w3 _ v3 HPP.out (((Below.refl _ _).alloc (Nat.le_refl _) _).alloc (by rw [World.size_alloc]; omega) _) hrow3 hg3 (by rw [World.size_alloc, World.size_alloc]; exact ho3))
          clear hrow3 hg3 ho3 hrV2
          go_wp2_with fail
          go_roundw
          case rel => exact HX.out
          case measure => simp [intOf]; omega
        · have hjk' : j = k := by omega
          subst hjk'
          have HF := Lib.hid (show tSortPost W P (.returned u8) wr from ⟨u8, rfl, by rw [← HPL.out, List.take_length] at hrow; exact hrow, hb⟩)
          clear hrow hb hap hat hpp hokM hM hj
          go_wp2_with fail
          go_ret
          rw [← HP.out]
          exact HF.out

end Go.Proofs.Ytbigglcolfbglaa
