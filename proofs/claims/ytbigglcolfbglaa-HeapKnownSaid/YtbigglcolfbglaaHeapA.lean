/- What a heap's order is to be; the contract of a heap's ahead: over whatever order, by its contract. -/
import Derived.Test.YtbigglcolfbglaaRows
import Derived.Test.YtbigglcolfbglaaHeapP
import Derived.Test.YtbigglcolfbglaaBase
import Derived.Test.YtbigglcolfbglaaRegion2
import Derived.Laws.EntriesVeiled
set_option linter.unusedSimpArgs false
set_option linter.unusedVariables false
namespace Go.Proofs.Ytbigglcolfbglaa
open Go.RowKit

/-- By any order; of those that are as good the earlier one. -/
def lah {β : Type} (lt : β → β → Bool) (a b : β × Nat) : Bool := lt a.1 b.1 || (!lt b.1 a.1 && decide (a.2 < b.2))
theorem lah_yes {β : Type} {lt : β → β → Bool} {a b : β × Nat} (h : lt a.1 b.1 = true) : lah lt a b = true := by simp [lah, h]
theorem lah_no {β : Type} {lt : β → β → Bool} {a b : β × Nat} (h : lt a.1 b.1 = false) (h' : lt b.1 a.1 = true) : lah lt a b = false := by simp [lah, h, h']
theorem lah_when {β : Type} {lt : β → β → Bool} {a b : β × Nat} (h : lt a.1 b.1 = false) (h' : lt b.1 a.1 = false) : lah lt a b = decide (a.2 < b.2) := by simp [lah, h, h']

/-- Two boxes on top of a world, and whatever came behind. -/
def Boxed (W : World) (A B : Array Value) (T : TypeId) (V : World) : Prop := Below (W.heap.size + 2) ((W.alloc (.cells A T)).alloc (.cells B T)) V
theorem Boxed.one {W V : World} {A B : Array Value} {T : TypeId} (h : Boxed W A B T V) (j : Nat) : V.cell? ⟨W.heap.size, j, none⟩ = A[j]? := by
  have h1 := Below.block h W.heap.size (by omega)
  rw [heap_alloc2_old] at h1
  exact cell_of_row V _ j A T (0, 0) h1
theorem Boxed.two {W V : World} {A B : Array Value} {T : TypeId} (h : Boxed W A B T V) (j : Nat) : V.cell? ⟨W.heap.size + 1, j, none⟩ = B[j]? := by
  have h1 := Below.block h (W.heap.size + 1) (by omega)
  rw [heap_alloc2_new] at h1
  exact cell_of_row V _ j B T (0, 0) h1
theorem Boxed.below {W V : World} {A B : Array Value} {T : TypeId} (h : Boxed W A B T V) : Below W.heap.size W V :=
  (((Below.refl _ _).alloc (Nat.le_refl _) _).alloc (by rw [World.size_alloc]; omega) _).trans (Below.mono h (by omega))
theorem Boxed.size {W V : World} {A B : Array Value} {T : TypeId} (h : Boxed W A B T V) : W.heap.size + 2 ≤ V.heap.size := by
  have := Below.size h
  simp only [World.size_alloc] at this
  omega
theorem Boxed.go {W V V' : World} {A B : Array Value} {T : TypeId} (h : Boxed W A B T V) (h' : Below V.heap.size V V') : Boxed W A B T V' := Below.trans h (h'.mono h.size)
theorem Boxed.start (W : World) (A B : Array Value) (T : TypeId) : Boxed W A B T ((W.alloc (.cells A T)).alloc (.cells B T)).drew := (Below.refl _ _).drew
theorem Boxed.drew {W V : World} {A B : Array Value} {T : TypeId} (h : Boxed W A B T V) : Boxed W A B T V.drew := Below.drew h
attribute [irreducible] Boxed

/-- An order: a function value that answers lt, whatever world comes behind those of which I holds; what it makes is new. -/
structure Order (P : Program) {β : Type} (enc : β → Value) (B : Nat) (G : Nat) (caps : Array Value) (lt : β → β → Bool) (ok : β → Prop) (I : World → Prop) : Prop where
  enter : ∀ (args : Array Value) (w : World), (callFunc G args).run P w = .ok (.enter G args) w
  stays : ∀ V V' : World, Below B V V' → I V → I V'
  calls : ∀ (x y : β) (V : World), ok x → ok y → I V → B ≤ V.heap.size → Calls P G (#[enc x, enc y] ++ caps) V fun e V' => e = .returned (.bool (lt x y)) ∧ Below V.heap.size V V'

/-! ### at int -/
def iV (x : Int) : Value := Value.int .i64 x
def iCells (x : Int × Nat) : List Value := [.int .i64 x.1, .int .u64 x.2]

set_option maxHeartbeats 800000 in
theorem iahead_any {B G h : Nat} {caps : Array Value} {lt : Int → Int → Bool} {ok : Int → Prop} {I : World → Prop} (O : Order Try.prog iV B G caps lt ok I) (a b : Int) (m n : Nat) (W : World) (hh : W.cell? ⟨h, 0, none⟩ = some (.func (.func G) #[] caps)) (hB : B ≤ W.heap.size) (hI : I W) (oka : ok a) (okb : ok b) :
    Calls Try.prog 31 #[.pointer (some ⟨h, 0, none⟩), .agg #[.int .i64 a, .int .u64 m], .agg #[.int .i64 b, .int .u64 n]] W fun e W' => e = .returned (.bool (lah lt (a, m) (b, n))) ∧ Below W.heap.size W W' := by
  have hlt := block_lt_of_cell hh
  have HH := Lib.hid hh
  have HL := Lib.hid O.calls
  have HS := Lib.hid O.stays
  have hen := O.enter
  have HI := Lib.hid hI
  clear hh hI
  obtain ⟨A, hA⟩ : ∃ A : Array Value, A = #[.int .i64 a, .int .u64 m] := ⟨_, rfl⟩
  obtain ⟨C, hC⟩ : ∃ C : Array Value, C = #[.int .i64 b, .int .u64 n] := ⟨_, rfl⟩
  have hst := Boxed.start W A C 68
  have facts : ∀ V, Boxed W A C 68 V → V.cell? ⟨h, 0, none⟩ = some (.func (.func G) #[] caps) ∧ V.cell? ⟨W.heap.size, 0, none⟩ = some (.int .i64 a) ∧ V.cell? ⟨W.heap.size + 1, 0, none⟩ = some (.int .i64 b) ∧
      V.cell? ⟨W.heap.size, 1, none⟩ = some (.int .u64 m) ∧ V.cell? ⟨W.heap.size + 1, 1, none⟩ = some (.int .u64 n) := fun V hV =>
    ⟨(hV.below.cell (p := ⟨h, 0, none⟩) hlt).trans HH.out, by rw [hV.one, hA]; rfl, by rw [hV.two, hC]; rfl, by rw [hV.one, hA]; rfl, by rw [hV.two, hC]; rfl⟩
  have FF := Lib.hid facts
  have call : ∀ (x y : Int) (V : World), ok x → ok y → Boxed W A C 68 V → Calls Try.prog G (#[iV x, iV y] ++ caps) V fun e V' => e = .returned (.bool (lt x y)) ∧ Below V.heap.size V V' := fun x y V hx hy hV =>
    HL.out x y V hx hy (HS.out _ _ (hV.below.mono hB) HI.out) (by have := hV.size; omega)
  have CC := Lib.hid call
  have S1 := Lib.hid hst
  have HA := Lib.hid hA
  have HC := Lib.hid hC
  clear facts call hst hA hC O
  go_enter Try.func31, Try.ntmps31
  go_wp2_with fail
  rw [← HA.out, ← HC.out]
  refine wp_region_ord [(0, true), (1, true), (2, true), (3, true), (4, true), (5, true), (6, true), (7, true), (8, false), (9, true)] (Boxed W A C 68) (by kernel_rfl) (by kernel_rfl) (by decide) (by kernel_rfl) (fun d _ _ _ _ h => by cases d <;> exact h) S1.out ?_
  iterate 8 (apply wpOrd_look rfl (by kernel_rfl); (intro V hV; obtain ⟨c0, c1, c2, c3, c4⟩ := FF.out V hV; go_simp; rfl); (try simp only [Act.put, List.setIfInBounds_toArray, List.set_cons_succ, List.set_cons_zero]))
  apply wpOrd_do rfl (by kernel_rfl)
  intro K hK
  go_simp
  refine (CC.out a b _ oka okb S1.out).mono ?_
  rintro e V1 ⟨rfl, hb1⟩
  have S2 := Lib.hid (S1.out.go hb1)
  refine hK _ _ S2.out ?_
  clear hK K hb1
  apply wpOrd_look rfl (by kernel_rfl)
  · intro V _; go_simp; rfl
  refine wpOrd_nil ?_
  cases hq : lt a b with
  | true =>
    have HQ := Lib.hid hq
    clear hq
    go_wp2_with fail
    go_ret
    exact ⟨congrArg (fun b => Ending.returned (.bool b)) (lah_yes HQ.out).symm, S2.out.below⟩
  | false =>
    have HQ := Lib.hid hq
    clear hq
    go_wp2_with fail
    refine wp_region_ord [(0, true), (1, true), (2, true), (3, true), (4, true), (5, true), (6, true), (7, true), (8, false), (9, true)] (Boxed W A C 68) (by kernel_rfl) (by kernel_rfl) (by decide) (by kernel_rfl) (fun d _ _ _ _ h => by cases d <;> exact h) S2.out.drew ?_
    iterate 8 (apply wpOrd_look rfl (by kernel_rfl); (intro V hV; obtain ⟨c0, c1, c2, c3, c4⟩ := FF.out V hV; go_simp; rfl); (try simp only [Act.put, List.setIfInBounds_toArray, List.set_cons_succ, List.set_cons_zero]))
    apply wpOrd_do rfl (by kernel_rfl)
    intro K hK
    go_simp
    refine (CC.out b a _ okb oka S2.out.drew).mono ?_
    rintro e V2 ⟨rfl, hb2⟩
    have S3 := Lib.hid (S2.out.drew.go hb2)
    refine hK _ _ S3.out ?_
    clear hK K hb2
    apply wpOrd_look rfl (by kernel_rfl)
    · intro V _; go_simp; rfl
    refine wpOrd_nil ?_
    obtain ⟨c0, c1, c2, c3, c4⟩ := FF.out V2 S3.out
    cases hr : lt b a with
    | true =>
      have HR := Lib.hid hr
      clear hr
      go_wp2_with fail
      go_ret
      exact ⟨congrArg (fun b => Ending.returned (.bool b)) (lah_no HQ.out HR.out).symm, S3.out.below⟩
    | false =>
      have HR := Lib.hid hr
      clear hr
      go_wp2_with fail
      go_ret
      exact ⟨congrArg (fun b => Ending.returned (.bool b)) (lah_when (lt := lt) (a := (a, m)) (b := (b, n)) HQ.out HR.out).symm, S3.out.below⟩


/-! ### at Thing -/
def tV (x : Int × Int) : Value := Value.agg #[.int .i64 x.1, .int .i64 x.2]
def tCells (x : (Int × Int) × Nat) : List Value := [.int .i64 x.1.1, .int .i64 x.1.2, .int .u64 x.2]

set_option maxHeartbeats 800000 in
theorem tahead_any {B G h : Nat} {caps : Array Value} {lt : Int × Int → Int × Int → Bool} {ok : Int × Int → Prop} {I : World → Prop} (O : Order Try.prog tV B G caps lt ok I) (a b : Int × Int) (m n : Nat) (W : World) (hh : W.cell? ⟨h, 0, none⟩ = some (.func (.func G) #[] caps)) (hB : B ≤ W.heap.size) (hI : I W) (oka : ok a) (okb : ok b) :
    Calls Try.prog 29 #[.pointer (some ⟨h, 0, none⟩), .agg #[.int .i64 a.1, .int .i64 a.2, .int .u64 m], .agg #[.int .i64 b.1, .int .i64 b.2, .int .u64 n]] W fun e W' => e = .returned (.bool (lah lt (a, m) (b, n))) ∧ Below W.heap.size W W' := by
  have hlt := block_lt_of_cell hh
  have HH := Lib.hid hh
  have HL := Lib.hid O.calls
  have HS := Lib.hid O.stays
  have hen := O.enter
  have HI := Lib.hid hI
  clear hh hI
  obtain ⟨A, hA⟩ : ∃ A : Array Value, A = #[.int .i64 a.1, .int .i64 a.2, .int .u64 m] := ⟨_, rfl⟩
  obtain ⟨C, hC⟩ : ∃ C : Array Value, C = #[.int .i64 b.1, .int .i64 b.2, .int .u64 n] := ⟨_, rfl⟩
  have hst := Boxed.start W A C 64
  have facts : ∀ V, Boxed W A C 64 V → V.cell? ⟨h, 0, none⟩ = some (.func (.func G) #[] caps) ∧ V.cell? ⟨W.heap.size, 0, none⟩ = some (.int .i64 a.1) ∧ V.cell? ⟨W.heap.size, 1, none⟩ = some (.int .i64 a.2) ∧ V.cell? ⟨W.heap.size + 1, 0, none⟩ = some (.int .i64 b.1) ∧ V.cell? ⟨W.heap.size + 1, 1, none⟩ = some (.int .i64 b.2) ∧
      V.cell? ⟨W.heap.size, 2, none⟩ = some (.int .u64 m) ∧ V.cell? ⟨W.heap.size + 1, 2, none⟩ = some (.int .u64 n) := fun V hV =>
    ⟨(hV.below.cell (p := ⟨h, 0, none⟩) hlt).trans HH.out, by rw [hV.one, hA]; rfl, by rw [hV.one, hA]; rfl, by rw [hV.two, hC]; rfl, by rw [hV.two, hC]; rfl, by rw [hV.one, hA]; rfl, by rw [hV.two, hC]; rfl⟩
  have FF := Lib.hid facts
  have call : ∀ (x y : Int × Int) (V : World), ok x → ok y → Boxed W A C 64 V → Calls Try.prog G (#[tV x, tV y] ++ caps) V fun e V' => e = .returned (.bool (lt x y)) ∧ Below V.heap.size V V' := fun x y V hx hy hV =>
    HL.out x y V hx hy (HS.out _ _ (hV.below.mono hB) HI.out) (by have := hV.size; omega)
  have CC := Lib.hid call
  have S1 := Lib.hid hst
  have HA := Lib.hid hA
  have HC := Lib.hid hC
  clear facts call hst hA hC O
  go_enter Try.func29, Try.ntmps29
  go_wp2_with fail
  rw [← HA.out, ← HC.out]
  refine wp_region_ord [(0, true), (1, true), (2, true), (3, true), (4, true), (5, true), (6, true), (7, true), (8, false), (9, true)] (Boxed W A C 64) (by kernel_rfl) (by kernel_rfl) (by decide) (by kernel_rfl) (fun d _ _ _ _ h => by cases d <;> exact h) S1.out ?_
  iterate 8 (apply wpOrd_look rfl (by kernel_rfl); (intro V hV; obtain ⟨c0, c1, c2, c3, c4, c5, c6⟩ := FF.out V hV; go_simp; rfl); (try simp only [Act.put, List.setIfInBounds_toArray, List.set_cons_succ, List.set_cons_zero]))
  apply wpOrd_do rfl (by kernel_rfl)
  intro K hK
  go_simp
  refine (CC.out a b _ oka okb S1.out).mono ?_
  rintro e V1 ⟨rfl, hb1⟩
  have S2 := Lib.hid (S1.out.go hb1)
  refine hK _ _ S2.out ?_
  clear hK K hb1
  apply wpOrd_look rfl (by kernel_rfl)
  · intro V _; go_simp; rfl
  refine wpOrd_nil ?_
  cases hq : lt a b with
  | true =>
    have HQ := Lib.hid hq
    clear hq
    go_wp2_with fail
    go_ret
    exact ⟨congrArg (fun b => Ending.returned (.bool b)) (lah_yes HQ.out).symm, S2.out.below⟩
  | false =>
    have HQ := Lib.hid hq
    clear hq
    go_wp2_with fail
    refine wp_region_ord [(0, true), (1, true), (2, true), (3, true), (4, true), (5, true), (6, true), (7, true), (8, false), (9, true)] (Boxed W A C 64) (by kernel_rfl) (by kernel_rfl) (by decide) (by kernel_rfl) (fun d _ _ _ _ h => by cases d <;> exact h) S2.out.drew ?_
    iterate 8 (apply wpOrd_look rfl (by kernel_rfl); (intro V hV; obtain ⟨c0, c1, c2, c3, c4, c5, c6⟩ := FF.out V hV; go_simp; rfl); (try simp only [Act.put, List.setIfInBounds_toArray, List.set_cons_succ, List.set_cons_zero]))
    apply wpOrd_do rfl (by kernel_rfl)
    intro K hK
    go_simp
    refine (CC.out b a _ okb oka S2.out.drew).mono ?_
    rintro e V2 ⟨rfl, hb2⟩
    have S3 := Lib.hid (S2.out.drew.go hb2)
    refine hK _ _ S3.out ?_
    clear hK K hb2
    apply wpOrd_look rfl (by kernel_rfl)
    · intro V _; go_simp; rfl
    refine wpOrd_nil ?_
    obtain ⟨c0, c1, c2, c3, c4, c5, c6⟩ := FF.out V2 S3.out
    cases hr : lt b a with
    | true =>
      have HR := Lib.hid hr
      clear hr
      go_wp2_with fail
      go_ret
      exact ⟨congrArg (fun b => Ending.returned (.bool b)) (lah_no HQ.out HR.out).symm, S3.out.below⟩
    | false =>
      have HR := Lib.hid hr
      clear hr
      go_wp2_with fail
      go_ret
      exact ⟨congrArg (fun b => Ending.returned (.bool b)) (lah_when (lt := lt) (a := (a, m)) (b := (b, n)) HQ.out HR.out).symm, S3.out.below⟩

end Go.Proofs.Ytbigglcolfbglaa
