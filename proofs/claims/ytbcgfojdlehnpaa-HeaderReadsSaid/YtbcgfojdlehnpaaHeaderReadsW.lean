/- The walk of the law HeaderReads. -/
import Derived.Test.YtbcgfojdlehnpaaHdRL
import Derived.Test.YtbcgfojdlehnpaaHdW
set_option linter.unusedSimpArgs false
set_option linter.unusedVariables false
namespace Go.Proofs.Ytbcgfojdlehnpaa
open Go.RowKit Go.ChangeShapes Go.WideShapes

theorem decH_ok (s : ByteArray) : (decH s).ok := by
  by_cases h : decHE s = 0
  · exact (encH_decH h).2.2.1
  · rw [decH, if_neg]
    · exact hdz_ok
    · rintro ⟨a, b, c⟩
      exact h (by rw [decHE, if_pos a, if_pos b, if_pos c])
structure RsS (W : World) (p : Nat) (h : Hd) (V : World) : Prop where
  h : BoxV p h.wid h.set h.ent h.hops h.src h.grp h.id h.bits.a h.bits.b h.bits.c h.bits.d V
  bel : Below W.heap.size W V
theorem RsS.later {W V X : World} {p : Nat} {h : Hd} (x : RsS W p h V) (hb : Below V.heap.size V X) : RsS W p h X := ⟨x.h.later hb, x.bel.trans (hb.mono x.bel.size)⟩
set_option maxRecDepth 100000 in
set_option maxHeartbeats 6400000 in
theorem headerReads_walk (s : ByteArray) (W : World) (hs : s.size ≤ 140737488351232) :
    Calls Try.prog 3 #[.string s] W fun e W' => e = .returned (.bool true) ∧ Below W.heap.size W W' := by
  obtain ⟨X, hX⟩ : ∃ X, X = decH s := ⟨_, rfl⟩
  obtain ⟨xe, hxe⟩ : ∃ xe, xe = decHE s := ⟨_, rfl⟩
  have hXo : X.ok := hX ▸ decH_ok s
  have HD1 := Lib.hid (show ∀ V, Calls Try.prog 9 #[.string s] V fun e V' => e = .returned (.tuple #[.agg #[.int .i64 X.wid, .int .i64 X.set, .int .u32 X.ent, .int .i64 X.hops, .int .i64 X.src, .int .i64 X.grp, .int .u32 X.id, .int .u64 X.bits.a, .int .u64 X.bits.b, .int .u64 X.bits.c, .int .u64 X.bits.d], .int .i64 xe]) ∧ Below V.heap.size V V' from fun V => by
    have h1 := hdecode_any s V (by omega)
    rw [← hX, ← hxe] at h1
    exact h1)
  have HD2 := Lib.hid (show ∀ V, Calls Try.prog 10 #[.string s] V fun e V' => e = .returned (.tuple #[.agg #[.int .i64 X.wid, .int .i64 X.set, .int .u32 X.ent, .int .i64 X.hops, .int .i64 X.src, .int .i64 X.grp, .int .u32 X.id, .int .u64 X.bits.a, .int .u64 X.bits.b, .int .u64 X.bits.c, .int .u64 X.bits.d], .int .i64 xe]) ∧ Below V.heap.size V V' from fun V => by
    have h1 := rhdecode_any s V (by omega)
    rw [← hX, ← hxe] at h1
    exact h1)
  have HEX := Lib.hid (fun V => show (Op.equalIn 10000 27 (.agg #[.int .i64 X.wid, .int .i64 X.set, .int .u32 X.ent, .int .i64 X.hops, .int .i64 X.src, .int .i64 X.grp, .int .u32 X.id, .int .u64 X.bits.a, .int .u64 X.bits.b, .int .u64 X.bits.c, .int .u64 X.bits.d]) (.agg #[.int .i64 X.wid, .int .i64 X.set, .int .u32 X.ent, .int .i64 X.hops, .int .i64 X.src, .int .i64 X.grp, .int .u32 X.id, .int .u64 X.bits.a, .int .u64 X.bits.b, .int .u64 X.bits.c, .int .u64 X.bits.d])).run Try.prog V = .ok true V from by
    have h1 := eq_hd X X hXo hXo V
    rw [decide_eq_true rfl] at h1
    exact h1)
  clear hX hxe hXo hs
  go_enter Try.func3, Try.ntmps3
  go_wp2_with fail
  refine (HD1.out _).mono ?_
  rintro e X1 ⟨rfl, hb⟩
  obtain ⟨p, hp⟩ : ∃ p, p = X1.heap.size := ⟨_, rfl⟩
  obtain ⟨V1, hV1⟩ : ∃ V, V = X1.alloc (.cells #[.int .i64 X.wid, .int .i64 X.set, .int .u32 X.ent, .int .i64 X.hops, .int .i64 X.src, .int .i64 X.grp, .int .u32 X.id, .int .u64 X.bits.a, .int .u64 X.bits.b, .int .u64 X.bits.c, .int .u64 X.bits.d] 27) := ⟨_, rfl⟩
  have hbV : Below X1.heap.size X1 V1 := by rw [hV1]; exact (Below.refl _ _).alloc (Nat.le_refl _) _
  have HS1 := Lib.hid (show RsS W p X V1 from ⟨by rw [hV1, hp]; exact heap_alloc_new _ _, hb.trans (hbV.mono hb.size)⟩)
  have HV1 := Lib.hid hV1
  have HP := Lib.hid hp
  clear hb hbV hV1 hp
  go_wp2_with fail
  rw [← HV1.out, ← HP.out]
  refine (HD2.out _).mono ?_
  rintro e X2 ⟨rfl, hb⟩
  have HS2 := Lib.hid (HS1.out.later hb)
  clear hb
  obtain ⟨q, hq⟩ : ∃ p, p = X2.heap.size := ⟨_, rfl⟩
  obtain ⟨V2, hV2⟩ : ∃ V, V = X2.alloc (.cells #[.int .i64 X.wid, .int .i64 X.set, .int .u32 X.ent, .int .i64 X.hops, .int .i64 X.src, .int .i64 X.grp, .int .u32 X.id, .int .u64 X.bits.a, .int .u64 X.bits.b, .int .u64 X.bits.c, .int .u64 X.bits.d] 27) := ⟨_, rfl⟩
  have hbV : Below X2.heap.size X2 V2 := by rw [hV2]; exact (Below.refl _ _).alloc (Nat.le_refl _) _
  have HS3 := Lib.hid (HS2.out.later hbV)
  have hbq : BoxV q X.wid X.set X.ent X.hops X.src X.grp X.id X.bits.a X.bits.b X.bits.c X.bits.d V2 := by rw [hV2, hq]; exact heap_alloc_new _ _
  obtain ⟨y0, y1, y2, y3, y4, y5, y6, y7, y8, y9, y10⟩ := HS3.out.h.cells
  obtain ⟨z0, z1, z2, z3, z4, z5, z6, z7, z8, z9, z10⟩ := hbq.cells
  rw [hV2] at y0 y1 y2 y3 y4 y5 y6 y7 y8 y9 y10 z0 z1 z2 z3 z4 z5 z6 z7 z8 z9 z10
  rw [hq] at z0 z1 z2 z3 z4 z5 z6 z7 z8 z9 z10
  have HV2 := Lib.hid hV2
  have heq := HEX.out
  clear hbV hV2 hbq hq
  go_wp2_with fail
  rw [← HV2.out]
  clear y0 y1 y2 y3 y4 y5 y6 y7 y8 y9 y10 z0 z1 z2 z3 z4 z5 z6 z7 z8 z9 z10 heq
  refine (works_any _).mono ?_
  rintro e1 X9 ⟨rfl, hb1⟩
  have HS9 := Lib.hid (HS3.out.later hb1)
  clear hb1
  go_wp2_with fail
  go_returns
  exact ⟨rfl, HS9.out.bel⟩

end Go.Proofs.Ytbcgfojdlehnpaa
