/- Contract of the laws' works: the chapter's example. -/
import Derived.Test.YtbcgfojdlehnpaaHdL
set_option linter.unusedSimpArgs false
set_option linter.unusedVariables false
namespace Go.Proofs.Ytbcgfojdlehnpaa
open Go.RowKit Go.ChangeShapes Go.WideShapes

theorem ex_chk : exH.chk = true := by decide +kernel
theorem ex_ok : exH.ok := ⟨⟨by decide, by decide⟩, ⟨by decide, by decide⟩, by decide, ⟨by decide, by decide⟩, ⟨by decide, by decide⟩, ⟨by decide, by decide⟩, by decide, ⟨by decide, by decide, by decide, by decide⟩⟩
theorem ex_body : exH.body = [16, 2, 1, 2, 3, 4, 15, 7, 3, 0, 0, 0, 9, 129] := by decide +kernel
theorem ex_size : exH.enc.size = 16 := by
  rw [Hd.enc, sealB_size, bs_size, ex_body]; rfl
theorem ex_front : exH.enc.extract 0 14 = ⟨#[16, 2, 1, 2, 3, 4, 15, 7, 3, 0, 0, 0, 9, 129]⟩ := by
  apply bytes_same
  rw [data_front, Hd.enc, sealB_list, bs_toList, ex_body]
  rfl
theorem ex_enc (W : World) : Calls Try.prog 13 #[.agg #[.int .i64 8, .int .i64 2, .int .u32 16909060, .int .i64 15, .int .i64 7, .int .i64 3, .int .u32 9, .int .u64 129, .int .u64 0, .int .u64 0, .int .u64 0]] W fun e W' => e = .returned (.tuple #[.string exH.enc, .int .i64 0]) ∧ Below W.heap.size W W' := hencode_yes exH W ex_ok ex_chk
theorem ex_dec (W : World) : Calls Try.prog 9 #[.string exH.enc] W fun e W' => e = .returned (.tuple #[.agg #[.int .i64 8, .int .i64 2, .int .u32 16909060, .int .i64 15, .int .i64 7, .int .i64 3, .int .u32 9, .int .u64 129, .int .u64 0, .int .u64 0, .int .u64 0], .int .i64 0]) ∧ Below W.heap.size W W' := by
  have h := hdecode_any exH.enc W (by rw [ex_size]; decide)
  rw [(decH_enc ex_ok ex_chk).1, (decH_enc ex_ok ex_chk).2] at h
  exact h
theorem ex_eq (w : World) : (Op.equalIn 10000 27 (.agg #[.int .i64 8, .int .i64 2, .int .u32 16909060, .int .i64 15, .int .i64 7, .int .i64 3, .int .u32 9, .int .u64 129, .int .u64 0, .int .u64 0, .int .u64 0]) (.agg #[.int .i64 8, .int .i64 2, .int .u32 16909060, .int .i64 15, .int .i64 7, .int .i64 3, .int .u32 9, .int .u64 129, .int .u64 0, .int .u64 0, .int .u64 0])).run Try.prog w = .ok true w := by
  have h := eq_hd exH exH ex_ok ex_ok w
  rw [decide_eq_true rfl] at h
  exact h
structure WhS (W : World) (p : Nat) (V : World) : Prop where
  h : BoxV p 8 2 16909060 15 7 3 9 129 0 0 0 V
  bel : Below W.heap.size W V
theorem WhS.later {W V X : World} {p : Nat} (h : WhS W p V) (hb : Below V.heap.size V X) : WhS W p X := ⟨h.h.later hb, h.bel.trans (hb.mono h.bel.size)⟩
set_option maxRecDepth 100000 in
set_option maxHeartbeats 6400000 in
theorem works_any (W : World) : Calls Try.prog 11 #[] W fun e W' => e = .returned (.bool true) ∧ Below W.heap.size W W' := by
  have HE := Lib.hid ex_enc
  have HD := Lib.hid ex_dec
  have HX := Lib.hid example_any
  have HS := Lib.hid ex_size
  have HF := Lib.hid ex_front
  have HQ := Lib.hid ex_eq
  obtain ⟨E, hE⟩ : ∃ E, E = exH.enc := ⟨_, rfl⟩
  rw [← hE] at HE HD HS HF
  clear hE
  go_enter Try.func11, Try.ntmps11
  go_wp2_with fail
  refine (HX.out _).mono ?_
  rintro e V1 ⟨rfl, hb1⟩
  have HB1 := Lib.hid hb1
  clear hb1
  go_wp2_with fail
  refine (HE.out _).mono ?_
  rintro e V2 ⟨rfl, hb⟩
  have HB2 := Lib.hid (HB1.out.trans (hb.mono HB1.out.size))
  clear hb
  go_wp2_with fail
  refine (HD.out _).mono ?_
  rintro e V3 ⟨rfl, hb⟩
  have HB3 := Lib.hid (HB2.out.trans (hb.mono HB2.out.size))
  obtain ⟨X3, hX3⟩ : ∃ X, X = V3.alloc (.cells #[.int .i64 8, .int .i64 2, .int .u32 16909060, .int .i64 15, .int .i64 7, .int .i64 3, .int .u32 9, .int .u64 129, .int .u64 0, .int .u64 0, .int .u64 0] 27) := ⟨_, rfl⟩
  obtain ⟨p, hp⟩ : ∃ p, p = V3.heap.size := ⟨_, rfl⟩
  have hbX : Below V3.heap.size V3 X3 := by rw [hX3]; exact (Below.refl _ _).alloc (Nat.le_refl _) _
  obtain ⟨U, hU⟩ : ∃ U, U = X3.drew := ⟨_, rfl⟩
  have HSS := Lib.hid (show WhS W p U by
    rw [hU]
    have h1 : WhS W p X3 := ⟨by rw [hX3, hp]; exact heap_alloc_new _ _, HB3.out.trans (hbX.mono HB3.out.size)⟩
    exact h1.later ⟨rfl, rfl, rfl, Nat.le_refl _, fun _ _ => rfl⟩)
  have HX3 := Lib.hid hX3
  have HP := Lib.hid hp
  have HU := Lib.hid hU
  clear hb hX3 hp hbX hU
  go_wp2_with fail
  rw [← HX3.out, ← HP.out]
  have hsz := HS.out
  have hsi : (14 : Int) ≤ (E.size : Int) := by omega
  have hsn : 14 ≤ E.size := by omega
  have hfr := HF.out
  have heq := HQ.out
  refine wp_region_ord [(0, true), (1, true), (2, true), (3, true), (4, true), (5, true), (6, true), (7, true), (8, true), (9, true), (10, true), (11, true), (12, true), (13, true), (14, true), (15, true), (16, true), (17, true), (18, false), (19, true), (20, true), (21, true)] (WhS W p) (by kernel_rfl) (by kernel_rfl) (by decide) (by kernel_rfl) (fun d _ _ _ _ h => by cases d <;> exact h) (by rw [← HU.out]; exact HSS.out) ?_
  rw [← HU.out]
  iterate 18 ((apply wpOrd_take rfl rfl (by kernel_rfl); (intro V hV; obtain ⟨y0, y1, y2, y3, y4, y5, y6, y7, y8, y9, y10⟩ := hV.h.cells; go_simp; rfl)); (try simp only [List.setIfInBounds_toArray, List.set_cons_succ, List.set_cons_zero]))
  apply wpOrd_do rfl (by kernel_rfl)
  intro K hK
  go_simp
  refine (HX.out _).mono ?_
  rintro e1 X5 ⟨rfl, hb1⟩
  have HS6 := Lib.hid (HSS.out.later hb1)
  refine hK _ _ HS6.out ?_
  clear hK K hb1
  iterate 3 ((apply wpOrd_take rfl rfl (by kernel_rfl); (intro V hV; go_simp; rfl)); (try simp only [List.setIfInBounds_toArray, List.set_cons_succ, List.set_cons_zero]))
  refine wpOrd_nil ?_
  go_wp2_with fail
  go_returns
  exact ⟨rfl, HS6.out.bel⟩

end Go.Proofs.Ytbcgfojdlehnpaa
