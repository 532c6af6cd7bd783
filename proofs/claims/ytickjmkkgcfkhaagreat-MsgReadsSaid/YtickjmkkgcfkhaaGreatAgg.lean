/- Words for structs that lie in slices or variables: whole loads, what came in as rows. No program is in sight. -/
import Derived.Test.YtickjmkkgcfkhaaGreatLeaves
import Derived.Deep.MidRow
import Derived.Laws.Rows
set_option linter.unusedSimpArgs false
set_option linter.unusedVariables false
set_option maxRecDepth 100000
namespace Go.Proofs.YtickjmkkgcfkhaaGreat
open Go.RowKit Go.Deep

/-- The rows of cells of a slice of structs, each of sz cells. -/
def StructsAt (W : World) (a0 : Option Addr) (sz : Nat) (rows : List (List Value)) : Prop :=
  ∀ (i j : Nat) (row : List Value) (c : Value), rows[i]? = some row → row[j]? = some c → ∃ ad, a0 = some ad ∧ W.cell? (ad.add (i * sz + j)) = some c
theorem StructsAt.row {W : World} {a0 : Option Addr} {sz : Nat} {rows : List (List Value)} (h : StructsAt W a0 sz rows) {i : Nat} {row : List Value} (hr : rows[i]? = some row) (hne : 0 < row.length) :
    ∃ ad, a0 = some ad ∧ ∀ V : World, Below W.heap.size W V → ∀ j c, row[j]? = some c → V.cell? ((ad.add (i * sz)).add j) = some c := by
  obtain ⟨ad, h1, h2⟩ := h i 0 row row[0] hr (List.getElem?_eq_getElem hne)
  refine ⟨ad, h1, fun V hV j c hc => ?_⟩
  obtain ⟨ad', h1', h3⟩ := h i j row c hr hc
  rw [h1] at h1'
  simp only [Option.some.injEq] at h1'
  subst h1'
  rw [add_add]
  exact (hV.cell (block_lt_of_cell h3)).trans h3

section
variable {P : Program} {w : World}
theorem run_loadVar_cs (ty : TypeId) (ad : Addr) (cs : List Value) (d : TypeDesc) (hc : ∀ j v, cs[j]? = some v → w.cell? (ad.add j) = some v)
    (hu : P.underlying ty = some d) (hd : d.isRow = true) (hi : (P.info? ty).map (·.size) = some cs.length) : (loadVar ty ad).run P w = .ok (.agg cs.toArray) w := by
  have hl : (loadCells ad cs.length).run P w = .ok cs.toArray w := run_loadCells_list (P := P) w ad cs hc
  cases hq : P.info? ty with
  | none => simp [hq] at hi
  | some i =>
    have hs : i.size = cs.length := by simpa [hq] using hi
    have hagg : (isAgg ty).run P w = .ok true w := by
      unfold isAgg
      rw [Sem.run_bind, run_underlying hu w]
      cases d <;> simp_all
    simp [loadVar, Sem.run_bind, hagg, sizeOf, typeInfo, hq, hs, hl]
theorem run_load_cs (o : Oper) (a : Act) (ty : TypeId) (x : Operand) (ho : o.op = .load ty x) (ad : Addr) (hx : a.eval x = .pointer (some ad)) (cs : List Value) (d : TypeDesc) (hc : ∀ j v, cs[j]? = some v → w.cell? (ad.add j) = some v)
    (hu : P.underlying ty = some d) (hd : d.isRow = true) (hi : (P.info? ty).map (·.size) = some cs.length) : (execOp a.eval o).run P w = .ok (.value (.agg cs.toArray)) w := by
  unfold execOp
  simp only [ho, hx, Instr.loadAt, Instr.sureAddr, Sem.run_bind, Sem.run_pure, Result.andThen_ok, run_loadVar_cs ty ad cs d hc hu hd hi]
theorem wpList_load_cs {ops : Array Oper} {rest : List Oper} {o : Oper} {a : Act} {Q : Exit → Act → World → Prop} (hgd : o.guard = none) (ty : TypeId) (x : Operand) (ho : o.op = .load ty x)
    (ad : Addr) (hx : a.eval x = .pointer (some ad)) (cs : List Value) (d : TypeDesc) (hc : ∀ j v, cs[j]? = some v → w.cell? (ad.add j) = some v)
    (hu : P.underlying ty = some d) (hd : d.isRow = true) (hi : (P.info? ty).map (·.size) = some cs.length)
    (h : wpList P ops Q rest (a.put o.dst (.agg cs.toArray)) w) : wpList P ops Q (o :: rest) a w :=
  wpList_plain hgd fun _ hK => by
    have hr := run_load_cs (P := P) (w := w) o a ty x ho ad hx cs d hc hu hd hi
    unfold Oper.wp
    rw [hr]
    exact hK _ _ h
end
section
variable {P : Program} {w : World}
/-- 'a[i]' of an array of structs, by value. -/
theorem run_index_row (t e : TypeId) (n sz : Nat) (cs row : Array Value) (k : IntKind) (i : Nat) (de : TypeDesc) (hu : P.underlying t = some (.array n e)) (hi : i < n) (hue : P.underlying e = some de) (hd : de.isRow = true)
    (hsz : (P.info? e).map (·.size) = some sz) (hrow : cs.extract (i * sz) (i * sz + sz) = row) : (Instr.index t (.agg cs) (.int k i)).run P w = .ok (.agg row) w := by
  cases hq : P.info? e with
  | none => simp [hq] at hsz
  | some j =>
    have hs : j.size = sz := by simpa [hq] using hsz
    have hagg : (isAgg e).run P w = .ok true w := by
      unfold isAgg
      rw [Sem.run_bind, run_underlying hue w]
      cases de <;> simp_all
    have h0 : 0 ≤ (i : Int) ∧ (i : Int) < (n : Int) := by omega
    simp [Instr.index, asIntOf, run_underlying hu, part, sizeOf, typeInfo, hq, hs, hagg, hi, hrow, Sem.run_bind]
end
/-- A block's cells, as a load asks for them. -/
theorem block_cells {w : World} {g : Nat} {cs : Array Value} {t : TypeId} {fr : Nat × Nat} (hg : w.heap[g]? = some (.cells cs t fr)) : ∀ j v, cs.toList[j]? = some v → w.cell? ((⟨g, 0, none⟩ : Addr).add j) = some v := by
  intro j v hv
  have hadd : (⟨g, 0, none⟩ : Addr).add j = ⟨g, j, none⟩ := by unfold Addr.add; split <;> simp_all
  rw [hadd, cell_of_row w g j cs t fr hg]
  simpa using hv

end Go.Proofs.YtickjmkkgcfkhaaGreat
