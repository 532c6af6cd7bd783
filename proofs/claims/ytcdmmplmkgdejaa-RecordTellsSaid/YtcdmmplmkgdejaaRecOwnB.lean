/- own_none: a record in memory of its own, with room behind that is marked. -/
import Derived.Test.YtcdmmplmkgdejaaRecOwn
set_option linter.unusedSimpArgs false
set_option linter.unusedVariables false
namespace Go.Proofs.Ytcdmmplmkgdejaa
open Go.RowKit Go.ChangeShapes Go.WideShapes

set_option maxRecDepth 100000 in
set_option maxHeartbeats 1600000 in
theorem own_none (r : Rc) (W : World) (h0 : r.adjs = []) :
    Calls Try.prog 15 #[r.ag none 0] W (OwnPost W r) := by
  obtain ⟨W1, hW1⟩ : ∃ W1, W1 = (W.alloc (.cells (r.cs none 0) 25)).alloc (.cells #[.int .i64 0, .int .u32 0, .int .u32 0, .int .i64 0, .bool false, .slice none 0 0] 25) := ⟨_, rfl⟩
  have hb1 : Below W.heap.size W W1 := by rw [hW1]; exact ((Below.refl _ _).alloc (Nat.le_refl _) _).alloc (by rw [World.size_alloc]; omega) _
  have hsz : W1.heap.size = W.heap.size + 1 + 1 := by rw [hW1, World.size_alloc, World.size_alloc]
  have hbx : BoxR W.heap.size r none 0 W1 := by rw [hW1]; exact heap_alloc2_old _ _ _
  have hbz : BoxR (W.heap.size + 1) Rc.zero none 0 W1 := by rw [hW1]; exact heap_alloc2_new _ _ _
  have HB1 := Lib.hid hb1
  have HSZ := Lib.hid hsz
  have HBX := Lib.hid hbx
  have HBZ := Lib.hid hbz
  obtain ⟨i0, hi, hz0, hz1, hz2⟩ := info_parts infoA
  have hln : r.adjs.length = 0 := by rw [h0]; rfl
  have HLEN := Lib.hid (adjV_len r.adjs)
  obtain ⟨x0, x1, x2, x3, x4, x5⟩ := hbx.cells
  rw [hW1] at x0 x1 x2 x3 x4 x5
  have HW1 := Lib.hid hW1
  have HNEW := Lib.hid (show ∀ j x, [Value.int .i64 0, Value.int .i64 77][j]? = some x → (W1.alloc (.cells #[.int .i64 0, .int .i64 77] 31)).cell? ((⟨W.heap.size + 1 + 1, 0, none⟩ : Addr).add j) = some x by rw [← hsz]; exact cell_two_new2 W1 _ _ _)
  have HLN := Lib.hid hln
  clear hW1 hb1 hsz hbx hbz
  go_enter Try.func15, Try.ntmps15
  unfold Rc.ag Rc.cs at *
  go_wp2_with (at_builtin; refine wpList_append_row _ rfl (.tmp 11) (.tmp 13) 23 rfl (W.heap.size + 2) 31 i0 (.agg #[.int .i64 0, .int .i64 0]) 2 16 Try.underlying23 hi hz0 hz1 hz2 rfl (by decide) (.slice none 0 0) 0 [] rfl (Row.nil_ _ _ _ _) ⟨W.heap.size + 1 + 1, 0, none⟩ 1 1 [.int .i64 0, .int .i64 77] rfl rfl ?c1 ?c2 ?c3 ?c4 ?c5 ?_)
  case c1 => have h := HNEW.out; rw [HW1.out, HLN.out] at h; exact h
  case c2 => intro u hu; simp only [List.mem_cons, List.not_mem_nil, or_false] at hu; rcases hu with rfl | rfl <;> rfl
  case c3 => unfold maxLen; omega
  case c4 => omega
  case c5 => simp only [World.size_alloc]; omega
  intro v2 w2 hrow2 hg2 _ _
  clear x0 x1 x2 x3 x4 x5
  have hsz1 := HSZ.out
  have hg2' : (W1.alloc (.cells #[.int .i64 0, .int .i64 77] 31)).grownBy w2 none := by rw [HW1.out, HLN.out]; exact hg2
  have hal : ∀ k, k < W1.heap.size → w2.heap[k]? = W1.heap[k]? := fun k hk => (hg2'.block k (by rw [World.size_alloc]; omega) (fun e => by simp at e)).trans (((Below.refl W1.heap.size W1).alloc (Nat.le_refl _) _).block k hk)
  have hbx2 : BoxR W.heap.size r none 0 w2 := (hal _ (by omega)).trans HBX.out
  have hbz2 : BoxR (W.heap.size + 1) Rc.zero none 0 w2 := (hal _ (by omega)).trans HBZ.out
  obtain ⟨g, c, rfl, g1, g2, g3, g4, gc, gf⟩ := Row.form hrow2 (by omega)
  obtain ⟨x0, x1, x2, x3, x4, x5⟩ := hbx2.cells
  obtain ⟨z0, z1, z2, z3, z4, z5⟩ := hbz2.cells
  have f5 : w2.frozen? ⟨W.heap.size, 5, none⟩ = false := frozen_of_row _ _ _ _ _ hbx2
  have k0 : w2.frozen? ⟨W.heap.size + 1, 0, none⟩ = false := frozen_of_row _ _ _ _ _ hbz2
  have k1 : w2.frozen? ⟨W.heap.size + 1, 1, none⟩ = false := frozen_of_row _ _ _ _ _ hbz2
  have k2 : w2.frozen? ⟨W.heap.size + 1, 2, none⟩ = false := frozen_of_row _ _ _ _ _ hbz2
  have k3 : w2.frozen? ⟨W.heap.size + 1, 3, none⟩ = false := frozen_of_row _ _ _ _ _ hbz2
  have k4 : w2.frozen? ⟨W.heap.size + 1, 4, none⟩ = false := frozen_of_row _ _ _ _ _ hbz2
  have k5 : w2.frozen? ⟨W.heap.size + 1, 5, none⟩ = false := frozen_of_row _ _ _ _ _ hbz2
  have hnc : (0 : Int) ≤ (c : Int) := by omega
  have HR2 := Lib.hid hrow2
  have HG2 := Lib.hid hg2
  have HG2' := Lib.hid hg2'
  clear hrow2 hg2 hal hg2'
  go_wp2_with fail
  obtain ⟨Z, hZ⟩ : ∃ Z, Z = (((((((w2.setCell ⟨W.heap.size, 5, none⟩ (.slice (some ⟨g, 0, none⟩) 0 c)).setCell ⟨W.heap.size + 1, 0, none⟩ (.int .i64 r.org)).setCell ⟨W.heap.size + 1, 1, none⟩ (.int .u32 r.ep)).setCell ⟨W.heap.size + 1, 2, none⟩ (.int .u32 r.sq)).setCell ⟨W.heap.size + 1, 3, none⟩ (.int .i64 r.clm)).setCell ⟨W.heap.size + 1, 4, none⟩ (.bool r.ing)).setCell ⟨W.heap.size + 1, 5, none⟩ (.slice (some ⟨g, 0, none⟩) 0 c)) := ⟨_, rfl⟩
  have hcg : ∀ j, Z.cell? ⟨g, j, none⟩ = w2.cell? ⟨g, j, none⟩ := fun j => by
    rw [hZ]
    refine World.cell?_of_block ?_
    repeat (first | rw [heap_setCell_other _ _ _ _ (by simp only; omega)])
  have hg2 := HG2'.out
  have hbZ : Below W.heap.size W Z := by
    rw [hZ]
    repeat (with_reducible refine Below.setCell ?_ (by simp only; omega) _)
    exact (HB1.out.alloc HB1.out.size _).grown hg2 (HB1.out.alloc HB1.out.size _).size (fun k hk => by simp at hk)
  have hln := HLN.out
  refine bodyPost_ret (v := .agg #[.int .i64 r.org, .int .u32 r.ep, .int .u32 r.sq, .int .i64 r.clm, .bool r.ing, .slice (some ⟨g, 0, none⟩) 0 c]) ?_ rfl ⟨g, c, by rw [hln], ?_, by omega, g4, ?_, ?_, ?_⟩
  · simp only [results, Try.results15]
    go_simp
  · intro i hi; omega
  · rw [← hZ, hln, hcg, gc _ (by omega)]; rfl
  · rw [← hZ, hln, hcg, gc _ (by omega)]; rfl
  · rw [← hZ]; exact hbZ

end Go.Proofs.Ytcdmmplmkgdejaa
