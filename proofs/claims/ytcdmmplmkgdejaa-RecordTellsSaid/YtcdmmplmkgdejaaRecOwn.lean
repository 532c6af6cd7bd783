/- The law package's 'own': a record in memory of its own, with room behind that is marked. -/
import Derived.Test.YtcdmmplmkgdejaaRecOpen
set_option linter.unusedSimpArgs false
set_option linter.unusedVariables false
namespace Go.Proofs.Ytcdmmplmkgdejaa
open Go.RowKit Go.ChangeShapes Go.WideShapes

theorem adjV_app (l m : List (Int × Int)) : adjV (l ++ m) = adjV l ++ adjV m := by simp [adjV]
theorem adjV_one (l : List (Int × Int)) : ∀ u ∈ adjV l, u.oneCell' = true := by
  intro u hu
  simp only [adjV, List.mem_flatMap, List.mem_cons, List.not_mem_nil, or_false] at hu
  obtain ⟨a, _, rfl | rfl⟩ := hu <;> rfl
theorem AdjsIn.news {W : World} {ad : Addr} {l : List (Int × Int)} (h : AdjsIn W (some ad) l) : ∀ j u, (adjV l)[j]? = some u → W.cell? (ad.add j) = some u := by
  intro j u hu
  have hj : j < (adjV l).length := (List.getElem?_eq_some_iff.1 hu).1
  rw [adjV_len] at hj
  obtain ⟨h1, h2⟩ := adjV_get l (j / 2) (by omega)
  obtain ⟨ad', e, c0, c1⟩ := h (j / 2) (by omega)
  simp only [Option.some.injEq] at e
  subst e
  rcases Nat.mod_two_eq_zero_or_one j with hm | hm
  · have hj2 : j / 2 * 2 = j := by omega
    rw [hj2] at h1 c0
    rw [hu] at h1
    rw [c0, h1]
  · have hj2 : j / 2 * 2 + 1 = j := by omega
    rw [hj2] at h2
    rw [hu] at h2
    have ha : ad.add j = ⟨(ad.add (j / 2 * 2)).block, (ad.add (j / 2 * 2)).off + 1, none⟩ := by
      rw [← hj2, show (j / 2 * 2 + 1) / 2 * 2 = j / 2 * 2 by omega]; exact add_field ad (j / 2 * 2) 1 (by omega)
    rw [ha, c1, h2]

/-- What 'own' answers. -/
def OwnPost (W : World) (r : Rc) (e : Ending) (V : World) : Prop := ∃ g c, e = .returned (.agg #[.int .i64 r.org, .int .u32 r.ep, .int .u32 r.sq, .int .i64 r.clm, .bool r.ing, .slice (some ⟨g, 0, none⟩) r.adjs.length c]) ∧ AdjsIn V (some ⟨g, 0, none⟩) r.adjs ∧
  r.adjs.length + 1 ≤ c ∧ c ≤ maxLen ∧ V.cell? ⟨g, r.adjs.length * 2, none⟩ = some (.int .i64 0) ∧ V.cell? ⟨g, r.adjs.length * 2 + 1, none⟩ = some (.int .i64 77) ∧ Below W.heap.size W V

set_option maxRecDepth 100000 in
set_option maxHeartbeats 1600000 in
theorem own_some (r : Rc) (ad : Addr) (sc : Nat) (W : World) (hA : AdjsIn W (some ad) r.adjs) (hl : (r.adjs.length + 1) * 16 ≤ 140737488355328) :
    Calls Try.prog 15 #[r.ag (some ad) sc] W (OwnPost W r) := by
  obtain ⟨W1, hW1⟩ : ∃ W1, W1 = (W.alloc (.cells (r.cs (some ad) sc) 25)).alloc (.cells #[.int .i64 0, .int .u32 0, .int .u32 0, .int .i64 0, .bool false, .slice none 0 0] 25) := ⟨_, rfl⟩
  have hb1 : Below W.heap.size W W1 := by rw [hW1]; exact ((Below.refl _ _).alloc (Nat.le_refl _) _).alloc (by rw [World.size_alloc]; omega) _
  have hsz : W1.heap.size = W.heap.size + 1 + 1 := by rw [hW1, World.size_alloc, World.size_alloc]
  have hbx : BoxR W.heap.size r (some ad) sc W1 := by rw [hW1]; exact heap_alloc2_old _ _ _
  have hbz : BoxR (W.heap.size + 1) Rc.zero none 0 W1 := by rw [hW1]; exact heap_alloc2_new _ _ _
  have HNW := Lib.hid (hA.later hb1).news
  have HB1 := Lib.hid hb1
  have HSZ := Lib.hid hsz
  have HBX := Lib.hid hbx
  have HBZ := Lib.hid hbz
  obtain ⟨i0, hi, hz0, hz1, hz2⟩ := info_parts infoA
  have HLEN := Lib.hid (adjV_len r.adjs)
  obtain ⟨x0, x1, x2, x3, x4, x5⟩ := hbx.cells
  rw [hW1] at x0 x1 x2 x3 x4 x5
  have HW1 := Lib.hid hW1
  have HL := Lib.hid hl
  clear hW1 hb1 hsz hbx hbz hA hl
  go_enter Try.func15, Try.ntmps15
  unfold Rc.ag Rc.cs at *
  go_wp2_with (at_builtin; refine wpList_append_row _ rfl (.tmp 8) (.tmp 10) 23 rfl (W.heap.size + 2) 31 i0 (.agg #[.int .i64 0, .int .i64 0]) 2 16 Try.underlying23 hi hz0 hz1 hz2 rfl (by decide) (.slice none 0 0) 0 [] rfl (Row.nil_ _ _ _ _) ad r.adjs.length sc (adjV r.adjs) rfl HLEN.out ?h1 (adjV_one _) ?h3 ?h4 ?h5 ?_)
  case h1 => first | exact HNW.out | (rw [← HW1.out]; exact HNW.out)
  case h3 => have := HL.out; unfold maxLen; omega
  case h4 => have := HL.out; omega
  case h5 => first | (rw [← HW1.out, HSZ.out]; omega) | (simp [World.size_alloc]; done)
  intro v1 w1 hrow1 hg1 _ _
  rw [← HW1.out] at hg1
  have hbx1 : BoxR W.heap.size r (some ad) sc w1 := (hg1.block _ (Array.getElem?_eq_some_iff.1 HBX.out).1 (fun e => by simp [Value.ownBlock] at e)).trans HBX.out
  have hbz1 : BoxR (W.heap.size + 1) Rc.zero none 0 w1 := (hg1.block _ (Array.getElem?_eq_some_iff.1 HBZ.out).1 (fun e => by simp [Value.ownBlock] at e)).trans HBZ.out
  have hb1 : Below W.heap.size W w1 := HB1.out.grown hg1 HB1.out.size (by intro q hq; simp [Value.ownBlock] at hq)
  have hs1 : W.heap.size + 2 ≤ w1.heap.size := by have := HSZ.out; have := hg1.size; omega
  have HBX1 := Lib.hid hbx1
  have HBZ1 := Lib.hid hbz1
  have HBW1 := Lib.hid hb1
  have HS1 := Lib.hid hs1
  have HR1 := Lib.hid hrow1
  have HNEW := Lib.hid (cell_two_new2 w1 (.int .i64 0) (.int .i64 77) 31)
  clear hrow1 hg1 hbx1 hbz1 hb1 hs1 x0 x1 x2 x3 x4 x5
  go_wp2_with (at_builtin; refine wpList_append_row _ rfl (.tmp 11) (.tmp 13) 23 rfl (W.heap.size + 2) 31 i0 (.agg #[.int .i64 0, .int .i64 0]) 2 16 Try.underlying23 hi hz0 hz1 hz2 rfl (by decide) v1 r.adjs.length (adjV r.adjs) rfl (Row.alloc HR1.out _) ⟨w1.heap.size, 0, none⟩ 1 1 [.int .i64 0, .int .i64 77] rfl rfl ?c1 ?c2 ?c3 ?c4 ?c5 ?_)
  case c1 => exact HNEW.out
  case c2 => intro u hu; simp only [List.mem_cons, List.not_mem_nil, or_false] at hu; rcases hu with rfl | rfl <;> rfl
  case c3 => have := HL.out; unfold maxLen; omega
  case c4 => have := HL.out; omega
  case c5 => rw [World.size_alloc]; have := HS1.out; omega
  intro v2 w2 hrow2 hg2 _ _
  have hown : ∀ j, v1.ownBlock = some j → W.heap.size + 2 ≤ j := fun j hj => (Row.lt HR1.out j hj).1
  have hal : ∀ k, k < w1.heap.size → k < W.heap.size + 2 → w2.heap[k]? = w1.heap[k]? := fun k hk hk2 => (hg2.block k (by rw [World.size_alloc]; omega) (fun e => by have := hown k e.symm; omega)).trans (((Below.refl w1.heap.size w1).alloc (Nat.le_refl _) _).block k hk)
  have hlt := HS1.out
  have hbx2 : BoxR W.heap.size r (some ad) sc w2 := (hal _ (by omega) (by omega)).trans HBX1.out
  have hbz2 : BoxR (W.heap.size + 1) Rc.zero none 0 w2 := (hal _ (by omega) (by omega)).trans HBZ1.out
  obtain ⟨g, c, rfl, g1, g2, g3, g4, gc, gf⟩ := Row.form hrow2 (by omega)
  obtain ⟨x0, x1, x2, x3, x4, x5⟩ := hbx2.cells
  obtain ⟨z0, z1, z2, z3, z4, z5⟩ := hbz2.cells
  have f5 : w2.frozen? ⟨W.heap.size, 5, none⟩ = false := frozen_of_row _ _ _ _ _ hbx2
  have k0 : w2.frozen? ⟨W.heap.size + 1, 0, none⟩ = false := frozen_of_row _ _ _ _ _ hbz2
  have k1 : w2.frozen? ⟨W.heap.size + 1, 1, none⟩ = false := frozen_of_row _ _ _ _ _ hbz2
  have k2 : w2.frozen? ⟨W.heap.size + 1, 2, none⟩ = false := frozen_of_row _ _ _ _ _ hbz2
  have k3 : w2.frozen? ⟨W.heap.size + 1, 3, none⟩ = false := frozen_of_row _ _ _ _ _ hbz2
  have k4 : w2.frozen? ⟨W.heap.size + 1, 4, none⟩ = false := frozen_of_row _ _ _ _ _ hbz2
  have k5 : w2.frozen? ⟨W.heap.size + 1, 5, none⟩ = false := frozen_of_row _ _ _ _ _ hbz2
  have hnc : (r.adjs.length : Int) ≤ (c : Int) := by omega
  have HR2 := Lib.hid hrow2
  have HG2 := Lib.hid hg2
  have HO := Lib.hid hown
  clear hrow2 hg2 hown hal
  go_wp2_with fail
  obtain ⟨Z, hZ⟩ : ∃ Z, Z = (((((((w2.setCell ⟨W.heap.size, 5, none⟩ (.slice (some ⟨g, 0, none⟩) r.adjs.length c)).setCell ⟨W.heap.size + 1, 0, none⟩ (.int .i64 r.org)).setCell ⟨W.heap.size + 1, 1, none⟩ (.int .u32 r.ep)).setCell ⟨W.heap.size + 1, 2, none⟩ (.int .u32 r.sq)).setCell ⟨W.heap.size + 1, 3, none⟩ (.int .i64 r.clm)).setCell ⟨W.heap.size + 1, 4, none⟩ (.bool r.ing)).setCell ⟨W.heap.size + 1, 5, none⟩ (.slice (some ⟨g, 0, none⟩) r.adjs.length c)) := ⟨_, rfl⟩
  have hcg : ∀ j, Z.cell? ⟨g, j, none⟩ = w2.cell? ⟨g, j, none⟩ := fun j => by
    rw [hZ]
    refine World.cell?_of_block ?_
    repeat (first | rw [heap_setCell_other _ _ _ _ (by simp only; omega)])
  have hg2 := HG2.out
  have hbZ : Below W.heap.size W Z := by
    rw [hZ]
    repeat (with_reducible refine Below.setCell ?_ (by simp only; omega) _)
    exact (HBW1.out.alloc HBW1.out.size _).grown hg2 (HBW1.out.alloc HBW1.out.size _).size (fun k hk => by have := HO.out k hk; omega)
  have hlen := HLEN.out
  refine bodyPost_ret (v := .agg #[.int .i64 r.org, .int .u32 r.ep, .int .u32 r.sq, .int .i64 r.clm, .bool r.ing, .slice (some ⟨g, 0, none⟩) r.adjs.length c]) ?_ rfl ⟨g, c, rfl, ?_, g3, g4, ?_, ?_, ?_⟩
  · simp only [results, Try.results15]
    go_simp
  · rw [← hZ]
    intro i hi
    obtain ⟨h1, h2⟩ := adjV_get r.adjs i hi
    refine ⟨_, rfl, ?_, ?_⟩
    · rw [Addr.add_mid, Nat.zero_add, hcg, gc _ (by omega), List.getElem?_append_left (by omega)]; exact h1
    · rw [Addr.add_mid, Nat.zero_add]
      show Z.cell? ⟨g, i * 2 + 1, none⟩ = _
      rw [hcg, gc _ (by omega), List.getElem?_append_left (by omega)]; exact h2
  · rw [← hZ, hcg, gc _ (by omega), List.getElem?_append_right (by omega), hlen, Nat.sub_self]; rfl
  · rw [← hZ, hcg, gc _ (by omega), List.getElem?_append_right (by omega), hlen, Nat.add_sub_cancel_left]; rfl
  · rw [← hZ]; exact hbZ

end Go.Proofs.Ytcdmmplmkgdejaa
