/- A heap in memory; contracts of New, none, Len, Peek. -/
import Derived.Test.YtbigglcolfbglaaHeapA
set_option linter.unusedSimpArgs false
set_option linter.unusedVariables false
namespace Go.Proofs.Ytbigglcolfbglaa
open Go.RowKit

/-- A heap at block h: its order f, its things' cells cs (m things of sz cells), the next age n; the things lie behind sv. -/
structure HeapAt (W : World) (B h : Nat) (HT IT : TypeId) (sz : Nat) (f : Value) (cs : List Value) (m n : Nat) (sv : Value) : Prop where
  blk : W.heap[h]? = some (.cells #[f, sv, .int .u64 n] HT (0, 0))
  low : B ≤ h
  row : Row W B IT sz sv m cs
  ne : sv.ownBlock ≠ some h

/-- What a heap's call touches: its own block, that of its things, and what is new. -/
structure Touch (W W' : World) (h : Nat) (sv sv' : Value) : Prop where
  os : W'.os = W.os
  tape : W'.tape = W.tape
  output : W'.output = W.output
  size : W.heap.size ≤ W'.heap.size
  block : ∀ k, k < W.heap.size → k ≠ h → sv.ownBlock ≠ some k → W'.heap[k]? = W.heap[k]?
  own : sv'.ownBlock = sv.ownBlock ∨ ∃ k, sv'.ownBlock = some k ∧ W.heap.size ≤ k

theorem Touch.refl (W : World) (h : Nat) (sv : Value) : Touch W W h sv sv := ⟨rfl, rfl, rfl, Nat.le_refl _, fun _ _ _ _ => rfl, .inl rfl⟩
theorem Touch.of_below {W W' : World} (h : Nat) (sv : Value) (hb : Below W.heap.size W W') : Touch W W' h sv sv := ⟨hb.os, hb.tape, hb.output, hb.size, fun k hk _ _ => hb.block k hk, .inl rfl⟩
theorem Touch.trans {W V X : World} {h : Nat} {s t u : Value} (a : Touch W V h s t) (b : Touch V X h t u) : Touch W X h s u where
  os := b.os.trans a.os
  tape := b.tape.trans a.tape
  output := b.output.trans a.output
  size := Nat.le_trans a.size b.size
  block k hk hh hs := by
    refine (b.block k (Nat.lt_of_lt_of_le hk a.size) hh ?_).trans (a.block k hk hh hs)
    intro he
    rcases a.own with e | ⟨k', e, hk'⟩
    · exact hs (e ▸ he)
    · rw [e] at he; simp only [Option.some.injEq] at he; omega
  own := by
    rcases b.own with e | ⟨k, e, hk⟩
    · rcases a.own with e' | ⟨k, e', hk⟩
      · exact .inl (e.trans e')
      · exact .inr ⟨k, e.trans e', hk⟩
    · exact .inr ⟨k, e, Nat.le_trans a.size hk⟩
theorem Touch.below {W W' : World} {h B : Nat} {s t : Value} (a : Touch W W' h s t) (hB : B ≤ W.heap.size) (hh : B ≤ h) (hs : ∀ k, s.ownBlock = some k → B ≤ k) : Below B W W' :=
  ⟨a.os, a.tape, a.output, a.size, fun k hk => a.block k (Nat.lt_of_lt_of_le hk hB) (by omega) fun e => by have := hs k e; omega⟩
theorem Touch.drew {W W' : World} {h : Nat} {s t : Value} (a : Touch W W' h s t) : Touch W W'.drew h s t := ⟨a.os, a.tape, a.output, a.size, a.block, a.own⟩

section
variable {W W' : World} {B h : Nat} {HT IT : TypeId} {sz : Nat} {f : Value} {cs : List Value} {m n : Nat} {sv : Value}
theorem HeapAt.cell (H : HeapAt W B h HT IT sz f cs m n sv) (j : Nat) : W.cell? ⟨h, j, none⟩ = (#[f, sv, .int .u64 n] : Array Value)[j]? := cell_of_row W h j _ HT (0, 0) H.blk
theorem HeapAt.frozen (H : HeapAt W B h HT IT sz f cs m n sv) (j : Nat) : W.frozen? ⟨h, j, none⟩ = false := frozen_of_row W h j _ HT H.blk
theorem HeapAt.lt (H : HeapAt W B h HT IT sz f cs m n sv) : h < W.heap.size := (Array.getElem?_eq_some_iff.1 H.blk).1
theorem HeapAt.same (H : HeapAt W B h HT IT sz f cs m n sv) (hh : W'.heap[h]? = W.heap[h]?) (hs : ∀ k, sv.ownBlock = some k → W'.heap[k]? = W.heap[k]?) : HeapAt W' B h HT IT sz f cs m n sv :=
  ⟨hh.trans H.blk, H.low, H.row.same hs, H.ne⟩
theorem HeapAt.later (H : HeapAt W B h HT IT sz f cs m n sv) (hb : Below W.heap.size W W') : HeapAt W' B h HT IT sz f cs m n sv :=
  H.same (hb.block h H.lt) fun k hk => hb.block k (H.row.lt k hk).2
theorem HeapAt.drew (H : HeapAt W B h HT IT sz f cs m n sv) : HeapAt W.drew B h HT IT sz f cs m n sv := H.same rfl fun _ _ => rfl
/-- Another call's work elsewhere. -/
theorem HeapAt.apart {h' : Nat} {s t : Value} (H : HeapAt W B h HT IT sz f cs m n sv) (a : Touch W W' h' s t) (h1 : h ≠ h') (h2 : s.ownBlock ≠ some h) (h3 : sv.ownBlock ≠ some h') (h4 : ∀ k, sv.ownBlock = some k → s.ownBlock ≠ some k) :
    HeapAt W' B h HT IT sz f cs m n sv :=
  H.same (a.block h H.lt h1 h2) fun k hk => a.block k (H.row.lt k hk).2 (fun e => h3 (e ▸ hk)) (h4 k hk)
end

/-! ### at int -/
/-- The things' cells. -/
def iCs (L : List ((Int) × Nat)) : List Value := L.flatMap iCells
theorem iCs_length (L : List ((Int) × Nat)) : (iCs L).length = L.length * 2 := by
  induction L with
  | nil => rfl
  | cons x r ih => simp only [iCs, List.flatMap_cons, List.length_append, List.length_cons] at ih ⊢; rw [ih]; simp [iCells]; omega
theorem iCs_snoc (L : List ((Int) × Nat)) (x : (Int) × Nat) : iCs (L ++ [x]) = iCs L ++ iCells x := by simp [iCs]
theorem iCs_take (L : List ((Int) × Nat)) : ∀ k, (iCs L).take (k * 2) = iCs (L.take k) := by
  induction L with
  | nil => intro k; simp [iCs]
  | cons x r ih =>
    intro k
    cases k with
    | zero => simp [iCs]
    | succ k =>
      have := ih k
      simp only [iCs, List.flatMap_cons, List.take_succ_cons, iCells, Nat.add_mul, List.cons_append, List.nil_append] at this ⊢
      simp [this]
theorem iCs_set (x : Int × Nat) : ∀ (L : List (Int × Nat)) (i : Nat), iCs (L.set i x) = ((iCs L).set (i * 2) (.int .i64 x.1)).set (i * 2 + 1) (.int .u64 x.2)
  | [], i => by simp [iCs]
  | y :: r, 0 => by simp [iCs, iCells]
  | y :: r, i + 1 => by
    have := iCs_set x r i
    simp only [iCs, List.set_cons_succ, List.flatMap_cons, iCells, Nat.add_mul, List.cons_append, List.nil_append] at this ⊢
    rw [this]
theorem iCs_get {L : List (Int × Nat)} {i : Nat} (h : i < L.length) : (iCs L)[i * 2]? = some (.int .i64 (g L i).1) ∧ (iCs L)[i * 2 + 1]? = some (.int .u64 (g L i).2) := by
  induction L generalizing i with
  | nil => simp at h
  | cons y r ih =>
    cases i with
    | zero => simp [iCs, iCells, g]
    | succ i =>
      have := ih (i := i) (by simpa using h)
      simp only [iCs, List.flatMap_cons, iCells, List.cons_append, List.nil_append, g, List.getD_cons_succ, Nat.add_mul] at this ⊢
      exact this

/-- A heap of such things. -/
def iAt (W : World) (B h G : Nat) (caps : Array Value) (L : List ((Int) × Nat)) (n : Nat) (sv : Value) : Prop := HeapAt W B h 59 68 2 (.func (.func G) #[] caps) (iCs L) L.length n sv

theorem ieql_nil (G : Nat) (caps : Array Value) (w : World) : (binOp .eql 48 (.func (.func G) #[] caps) .nilFunc).run Try.prog w = .ok (.bool false) w := by kernel_rfl
theorem ieql_nil2 (w : World) : (binOp .eql 48 .nilFunc .nilFunc).run Try.prog w = .ok (.bool true) w := by kernel_rfl
theorem inone_any (h G : Nat) (caps : Array Value) (W : World) (hh : W.cell? ⟨h, 0, none⟩ = some (.func (.func G) #[] caps)) :
    Calls Try.prog 30 #[.pointer (some ⟨h, 0, none⟩)] W fun e W' => e = .returned (.bool false) ∧ W = W' := by
  have hq := ieql_nil G caps
  go_enter Try.func30, Try.ntmps30
  go_wp2_with fail
  go_ret
  exact ⟨rfl, rfl⟩
theorem inone_nil (W : World) :
    Calls Try.prog 30 #[.pointer none] W fun e W' => e = .returned (.bool true) ∧ W = W' := by
  go_enter Try.func30, Try.ntmps30
  go_wp2_with fail
  go_ret
  exact ⟨rfl, rfl⟩
theorem inone_empty (h : Nat) (W : World) (hh : W.cell? ⟨h, 0, none⟩ = some .nilFunc) :
    Calls Try.prog 30 #[.pointer (some ⟨h, 0, none⟩)] W fun e W' => e = .returned (.bool true) ∧ W = W' := by
  have hq := ieql_nil2
  go_enter Try.func30, Try.ntmps30
  go_wp2_with fail
  go_ret
  exact ⟨rfl, rfl⟩

theorem inew_any (G : Nat) (caps : Array Value) (W : World) :
    Calls Try.prog 21 #[.func (.func G) #[] caps] W fun e W' => e = .returned (.pointer (some ⟨W.heap.size, 0, none⟩)) ∧ W.alloc (.cells #[.func (.func G) #[] caps, .slice none 0 0, .int .u64 0] 59) = W' := by
  have hq := ieql_nil G caps
  go_enter Try.func21, Try.ntmps21
  go_wp2_with fail
  go_ret
  exact ⟨rfl, rfl⟩
theorem inew_at (G : Nat) (caps : Array Value) (W : World) {B : Nat} (hB : B ≤ W.heap.size) :
    iAt (W.alloc (.cells #[.func (.func G) #[] caps, .slice none 0 0, .int .u64 0] 59)) B W.heap.size G caps [] 0 (.slice none 0 0) :=
  ⟨heap_alloc_new _ _, hB, Row.nil_ _ _ _ _, by simp [Value.ownBlock]⟩

theorem ilen_any {B h G : Nat} {caps : Array Value} {L : List ((Int) × Nat)} {n : Nat} {sv : Value} (W : World) (H : iAt W B h G caps L n sv) :
    Calls Try.prog 24 #[.pointer (some ⟨h, 0, none⟩)] W fun e W' => e = .returned (.int .i64 L.length) ∧ W = W' := by
  obtain ⟨a, cap, rfl, hc1, hc2⟩ := H.row.shape
  have c0 : W.cell? ⟨h, 0, none⟩ = some (.func (.func G) #[] caps) := H.cell 0
  have c1 : W.cell? ⟨h, 1, none⟩ = some (.slice a L.length cap) := H.cell 1
  clear H
  go_enter Try.func24, Try.ntmps24
  go_wp2_with fail
  refine (inone_any h G caps W c0).mono ?_
  rintro e w' ⟨rfl, rfl⟩
  go_wp2_with fail
  go_ret
  exact ⟨rfl, rfl⟩
theorem ilen_nil (W : World) :
    Calls Try.prog 24 #[.pointer none] W fun e W' => e = .returned (.int .i64 0) ∧ W = W' := by
  go_enter Try.func24, Try.ntmps24
  go_wp2_with fail
  refine (inone_nil W).mono ?_
  rintro e w' ⟨rfl, rfl⟩
  go_wp2_with fail
  go_ret
  exact ⟨rfl, rfl⟩
theorem ilen_empty (h : Nat) (W : World) (hh : W.cell? ⟨h, 0, none⟩ = some .nilFunc) :
    Calls Try.prog 24 #[.pointer (some ⟨h, 0, none⟩)] W fun e W' => e = .returned (.int .i64 0) ∧ W = W' := by
  go_enter Try.func24, Try.ntmps24
  go_wp2_with fail
  refine (inone_empty h W hh).mono ?_
  rintro e w' ⟨rfl, rfl⟩
  go_wp2_with fail
  go_ret
  exact ⟨rfl, rfl⟩


/-! ### at Thing -/
/-- The things' cells. -/
def tCs (L : List ((Int × Int) × Nat)) : List Value := L.flatMap tCells
theorem tCs_length (L : List ((Int × Int) × Nat)) : (tCs L).length = L.length * 3 := by
  induction L with
  | nil => rfl
  | cons x r ih => simp only [tCs, List.flatMap_cons, List.length_append, List.length_cons] at ih ⊢; rw [ih]; simp [tCells]; omega
theorem tCs_snoc (L : List ((Int × Int) × Nat)) (x : (Int × Int) × Nat) : tCs (L ++ [x]) = tCs L ++ tCells x := by simp [tCs]
theorem tCs_take (L : List ((Int × Int) × Nat)) : ∀ k, (tCs L).take (k * 3) = tCs (L.take k) := by
  induction L with
  | nil => intro k; simp [tCs]
  | cons x r ih =>
    intro k
    cases k with
    | zero => simp [tCs]
    | succ k =>
      have := ih k
      simp only [tCs, List.flatMap_cons, List.take_succ_cons, tCells, Nat.add_mul, List.cons_append, List.nil_append] at this ⊢
      simp [this]
theorem tCs_set (x : (Int × Int) × Nat) : ∀ (L : List ((Int × Int) × Nat)) (i : Nat), tCs (L.set i x) = (((tCs L).set (i * 3) (.int .i64 x.1.1)).set (i * 3 + 1) (.int .i64 x.1.2)).set (i * 3 + 2) (.int .u64 x.2)
  | [], i => by simp [tCs]
  | y :: r, 0 => by simp [tCs, tCells]
  | y :: r, i + 1 => by
    have := tCs_set x r i
    simp only [tCs, List.set_cons_succ, List.flatMap_cons, tCells, Nat.add_mul, List.cons_append, List.nil_append] at this ⊢
    rw [this]
theorem tCs_get {L : List ((Int × Int) × Nat)} {i : Nat} (h : i < L.length) : (tCs L)[i * 3]? = some (.int .i64 (g L i).1.1) ∧ (tCs L)[i * 3 + 1]? = some (.int .i64 (g L i).1.2) ∧ (tCs L)[i * 3 + 2]? = some (.int .u64 (g L i).2) := by
  induction L generalizing i with
  | nil => simp at h
  | cons y r ih =>
    cases i with
    | zero => simp [tCs, tCells, g]
    | succ i =>
      have := ih (i := i) (by simpa using h)
      simp only [tCs, List.flatMap_cons, tCells, List.cons_append, List.nil_append, g, List.getD_cons_succ, Nat.add_mul] at this ⊢
      exact this

/-- A heap of such things. -/
def tAt (W : World) (B h G : Nat) (caps : Array Value) (L : List ((Int × Int) × Nat)) (n : Nat) (sv : Value) : Prop := HeapAt W B h 62 64 3 (.func (.func G) #[] caps) (tCs L) L.length n sv

theorem teql_nil (G : Nat) (caps : Array Value) (w : World) : (binOp .eql 27 (.func (.func G) #[] caps) .nilFunc).run Try.prog w = .ok (.bool false) w := by kernel_rfl
theorem teql_nil2 (w : World) : (binOp .eql 27 .nilFunc .nilFunc).run Try.prog w = .ok (.bool true) w := by kernel_rfl
theorem tnone_any (h G : Nat) (caps : Array Value) (W : World) (hh : W.cell? ⟨h, 0, none⟩ = some (.func (.func G) #[] caps)) :
    Calls Try.prog 28 #[.pointer (some ⟨h, 0, none⟩)] W fun e W' => e = .returned (.bool false) ∧ W = W' := by
  have hq := teql_nil G caps
  go_enter Try.func28, Try.ntmps28
  go_wp2_with fail
  go_ret
  exact ⟨rfl, rfl⟩
theorem tnone_nil (W : World) :
    Calls Try.prog 28 #[.pointer none] W fun e W' => e = .returned (.bool true) ∧ W = W' := by
  go_enter Try.func28, Try.ntmps28
  go_wp2_with fail
  go_ret
  exact ⟨rfl, rfl⟩
theorem tnone_empty (h : Nat) (W : World) (hh : W.cell? ⟨h, 0, none⟩ = some .nilFunc) :
    Calls Try.prog 28 #[.pointer (some ⟨h, 0, none⟩)] W fun e W' => e = .returned (.bool true) ∧ W = W' := by
  have hq := teql_nil2
  go_enter Try.func28, Try.ntmps28
  go_wp2_with fail
  go_ret
  exact ⟨rfl, rfl⟩

theorem tnew_any (G : Nat) (caps : Array Value) (W : World) :
    Calls Try.prog 8 #[.func (.func G) #[] caps] W fun e W' => e = .returned (.pointer (some ⟨W.heap.size, 0, none⟩)) ∧ W.alloc (.cells #[.func (.func G) #[] caps, .slice none 0 0, .int .u64 0] 62) = W' := by
  have hq := teql_nil G caps
  go_enter Try.func8, Try.ntmps8
  go_wp2_with fail
  go_ret
  exact ⟨rfl, rfl⟩
theorem tnew_at (G : Nat) (caps : Array Value) (W : World) {B : Nat} (hB : B ≤ W.heap.size) :
    tAt (W.alloc (.cells #[.func (.func G) #[] caps, .slice none 0 0, .int .u64 0] 62)) B W.heap.size G caps [] 0 (.slice none 0 0) :=
  ⟨heap_alloc_new _ _, hB, Row.nil_ _ _ _ _, by simp [Value.ownBlock]⟩

theorem tlen_any {B h G : Nat} {caps : Array Value} {L : List ((Int × Int) × Nat)} {n : Nat} {sv : Value} (W : World) (H : tAt W B h G caps L n sv) :
    Calls Try.prog 15 #[.pointer (some ⟨h, 0, none⟩)] W fun e W' => e = .returned (.int .i64 L.length) ∧ W = W' := by
  obtain ⟨a, cap, rfl, hc1, hc2⟩ := H.row.shape
  have c0 : W.cell? ⟨h, 0, none⟩ = some (.func (.func G) #[] caps) := H.cell 0
  have c1 : W.cell? ⟨h, 1, none⟩ = some (.slice a L.length cap) := H.cell 1
  clear H
  go_enter Try.func15, Try.ntmps15
  go_wp2_with fail
  refine (tnone_any h G caps W c0).mono ?_
  rintro e w' ⟨rfl, rfl⟩
  go_wp2_with fail
  go_ret
  exact ⟨rfl, rfl⟩
theorem tlen_nil (W : World) :
    Calls Try.prog 15 #[.pointer none] W fun e W' => e = .returned (.int .i64 0) ∧ W = W' := by
  go_enter Try.func15, Try.ntmps15
  go_wp2_with fail
  refine (tnone_nil W).mono ?_
  rintro e w' ⟨rfl, rfl⟩
  go_wp2_with fail
  go_ret
  exact ⟨rfl, rfl⟩
theorem tlen_empty (h : Nat) (W : World) (hh : W.cell? ⟨h, 0, none⟩ = some .nilFunc) :
    Calls Try.prog 15 #[.pointer (some ⟨h, 0, none⟩)] W fun e W' => e = .returned (.int .i64 0) ∧ W = W' := by
  go_enter Try.func15, Try.ntmps15
  go_wp2_with fail
  refine (tnone_empty h W hh).mono ?_
  rintro e w' ⟨rfl, rfl⟩
  go_wp2_with fail
  go_ret
  exact ⟨rfl, rfl⟩

end Go.Proofs.Ytbigglcolfbglaa
