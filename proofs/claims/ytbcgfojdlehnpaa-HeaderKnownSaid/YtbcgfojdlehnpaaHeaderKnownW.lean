/- The walk of the law HeaderKnown. -/
import Derived.Test.YtbcgfojdlehnpaaHeaderBackW
set_option linter.unusedSimpArgs false
set_option linter.unusedVariables false
namespace Go.Proofs.Ytbcgfojdlehnpaa
open Go.RowKit Go.ChangeShapes Go.WideShapes

def badsH : List Hd := [⟨24, 2, 16909060, 15, 7, 3, 9, ⟨129, 0, 0, 0⟩⟩, ⟨8, 128, 16909060, 15, 7, 3, 9, ⟨129, 0, 0, 0⟩⟩, ⟨8, 2, 16909060, 16, 7, 3, 9, ⟨129, 0, 0, 0⟩⟩, ⟨8, 2, 16909060, 15, 0, 3, 9, ⟨129, 0, 0, 0⟩⟩, ⟨8, 2, 16909060, 15, 7, 8, 9, ⟨129, 0, 0, 0⟩⟩, ⟨8, 2, 16909060, 15, 7, 3, 9, ⟨256, 0, 0, 0⟩⟩]
def badsC : Array Value := #[.int .i64 24, .int .i64 2, .int .u32 16909060, .int .i64 15, .int .i64 7, .int .i64 3, .int .u32 9, .int .u64 129, .int .u64 0, .int .u64 0, .int .u64 0, .int .i64 8, .int .i64 128, .int .u32 16909060, .int .i64 15, .int .i64 7, .int .i64 3, .int .u32 9, .int .u64 129, .int .u64 0, .int .u64 0, .int .u64 0, .int .i64 8, .int .i64 2, .int .u32 16909060, .int .i64 16, .int .i64 7, .int .i64 3, .int .u32 9, .int .u64 129, .int .u64 0, .int .u64 0, .int .u64 0, .int .i64 8, .int .i64 2, .int .u32 16909060, .int .i64 15, .int .i64 0, .int .i64 3, .int .u32 9, .int .u64 129, .int .u64 0, .int .u64 0, .int .u64 0, .int .i64 8, .int .i64 2, .int .u32 16909060, .int .i64 15, .int .i64 7, .int .i64 8, .int .u32 9, .int .u64 129, .int .u64 0, .int .u64 0, .int .u64 0, .int .i64 8, .int .i64 2, .int .u32 16909060, .int .i64 15, .int .i64 7, .int .i64 3, .int .u32 9, .int .u64 256, .int .u64 0, .int .u64 0, .int .u64 0]
theorem bads_ok : ∀ k, k < 6 → (badsH.getD k default).ok ∧ (badsH.getD k default).chk = false := by
  intro k hk
  obtain rfl | rfl | rfl | rfl | rfl | rfl : k = 0 ∨ k = 1 ∨ k = 2 ∨ k = 3 ∨ k = 4 ∨ k = 5 := by omega
  all_goals exact ⟨⟨⟨by decide, by decide⟩, ⟨by decide, by decide⟩, by decide, ⟨by decide, by decide⟩, ⟨by decide, by decide⟩, ⟨by decide, by decide⟩, by decide, ⟨by decide, by decide, by decide, by decide⟩⟩, by decide +kernel⟩
theorem bads_get : ∀ k, k < 6 → badsC[k * 11]? = some (.int .i64 (badsH.getD k default).wid) ∧ badsC[k * 11 + 1]? = some (.int .i64 (badsH.getD k default).set) ∧ badsC[k * 11 + 2]? = some (.int .u32 (badsH.getD k default).ent) ∧ badsC[k * 11 + 3]? = some (.int .i64 (badsH.getD k default).hops) ∧ badsC[k * 11 + 4]? = some (.int .i64 (badsH.getD k default).src) ∧ badsC[k * 11 + 5]? = some (.int .i64 (badsH.getD k default).grp) ∧ badsC[k * 11 + 6]? = some (.int .u32 (badsH.getD k default).id) ∧ badsC[k * 11 + 7]? = some (.int .u64 (badsH.getD k default).bits.a) ∧ badsC[k * 11 + 8]? = some (.int .u64 (badsH.getD k default).bits.b) ∧ badsC[k * 11 + 9]? = some (.int .u64 (badsH.getD k default).bits.c) ∧ badsC[k * 11 + 10]? = some (.int .u64 (badsH.getD k default).bits.d) := by
  intro k hk
  obtain rfl | rfl | rfl | rfl | rfl | rfl : k = 0 ∨ k = 1 ∨ k = 2 ∨ k = 3 ∨ k = 4 ∨ k = 5 := by omega
  all_goals exact ⟨rfl, rfl, rfl, rfl, rfl, rfl, rfl, rfl, rfl, rfl, rfl⟩
theorem kn_enc : exH.enc = ⟨#[16, 2, 1, 2, 3, 4, 15, 7, 3, 0, 0, 0, 9, 129, 94, 234]⟩ := by
  have h : exH.enc.data.toList = [16, 2, 1, 2, 3, 4, 15, 7, 3, 0, 0, 0, 9, 129, 94, 234] := by decide +kernel
  exact bytes_same h
theorem kn_turned : decHE ⟨#[16, 2, 1, 2, 3, 4, 15, 7, 3, 0, 0, 0, 9, 128, 94, 234]⟩ = 5 := by decide +kernel
theorem kn_none : decHE ⟨#[]⟩ = 4 := by decide +kernel
theorem kn_one : decHE ⟨#[22]⟩ = 4 := by decide +kernel
theorem kn_long : withE exH ⟨256, 0, 0, 0⟩ = 3 := by decide +kernel
/-- What is there while the six are tried. -/
structure KnS (W : World) (p gs : Nat) (V : World) : Prop where
  h : BoxV p 8 2 16909060 15 7 3 9 129 0 0 0 V
  s : V.heap[gs]? = some (.cells badsC 27 (0, 0))
  bel : Below W.heap.size W V
theorem KnS.later {W V X : World} {p gs : Nat} (h : KnS W p gs V) (hb : Below V.heap.size V X) : KnS W p gs X := ⟨h.h.later hb, (hb.block _ (Array.getElem?_eq_some_iff.1 h.s).1).trans h.s, h.bel.trans (hb.mono h.bel.size)⟩
theorem kn_row {E : ByteArray} (hE : E = ⟨#[16, 2, 1, 2, 3, 4, 15, 7, 3, 0, 0, 0, 9, 129, 94, 234]⟩) {B : Nat} {w1 : World} {v : Value} (hrow : Row w1 B 5 1 v E.size (E.data.toList.map byteV)) :
    ∃ gb cap, v = .slice (some ⟨gb, 0, none⟩) 16 cap ∧ w1.cell? ⟨gb, 13, none⟩ = some (.int .u8 129) ∧ w1.frozen? ⟨gb, 13, none⟩ = false ∧ (convert 40 9 (.slice (some ⟨gb, 0, none⟩) 16 cap)).run Try.prog (w1.setCell ⟨gb, 13, none⟩ (.int .u8 128)) = .ok (.string (bs [16, 2, 1, 2, 3, 4, 15, 7, 3, 0, 0, 0, 9, 128, 94, 234])) (w1.setCell ⟨gb, 13, none⟩ (.int .u8 128)) ∧ B ≤ gb := by
  subst hE
  obtain ⟨gb, cap, rfl, hge, hglt, hcap1, hcap2, hcells, hfrz⟩ := Row.form (n := 16) hrow (by decide)
  refine ⟨gb, cap, rfl, (hcells 13 (by decide)).trans rfl, hfrz 13 (by decide), ?_, hge⟩
  exact run_string_row (P := Try.prog) 40 9 Try.underlying40 Try.underlying5 Try.underlying9 (Row.stored (n := 16) hrow 13 (.int .u8 128)).1
def KnRel (W : World) (p gs : Nat) (i : Value) (wr : World) : Prop := ∃ k : Nat, i = .int .i64 k ∧ k ≤ 6 ∧ KnS W p gs wr

set_option maxRecDepth 100000 in
set_option maxHeartbeats 12800000 in
theorem headerKnown_walk (W : World) : Calls Try.prog 7 #[] W fun e W' => e = .returned (.bool true) ∧ Below W.heap.size W W' := by
  have HX := Lib.hid example_any
  have HEN := Lib.hid (show GC 13 #[.agg #[.int .i64 8, .int .i64 2, .int .u32 16909060, .int .i64 15, .int .i64 7, .int .i64 3, .int .u32 9, .int .u64 129, .int .u64 0, .int .u64 0, .int .u64 0]] (.tuple #[.string ⟨#[16, 2, 1, 2, 3, 4, 15, 7, 3, 0, 0, 0, 9, 129, 94, 234]⟩, .int .i64 0]) from fun V => by
    have h := ex_enc V
    rw [kn_enc] at h
    exact h)
  have HS8 := Lib.hid (show ∀ V, Calls Try.prog 14 #[.int .i64 8] V fun e V' => e = .returned (.tuple #[.int .i64 16, .int .i64 0]) ∧ V = V' from fun V => size_any 8 V ⟨by decide, by decide⟩)
  have HS256 := Lib.hid (show ∀ V, Calls Try.prog 14 #[.int .i64 256] V fun e V' => e = .returned (.tuple #[.int .i64 47, .int .i64 0]) ∧ V = V' from fun V => size_any 256 V ⟨by decide, by decide⟩)
  have HS24 := Lib.hid (show ∀ V, Calls Try.prog 14 #[.int .i64 24] V fun e V' => e = .returned (.tuple #[.int .i64 0, .int .i64 2]) ∧ V = V' from fun V => size_any 24 V ⟨by decide, by decide⟩)
  have HW1 := Lib.hid (show ∀ V, Calls Try.prog 17 #[.int .i64 128] V fun e V' => e = .returned (.bool true) ∧ V = V' from fun V => wide_any 128 V ⟨by decide, by decide⟩)
  have HW2 := Lib.hid (show ∀ V, Calls Try.prog 17 #[.int .i64 0] V fun e V' => e = .returned (.bool false) ∧ V = V' from fun V => wide_any 0 V ⟨by decide, by decide⟩)
  have HW3 := Lib.hid (show ∀ V, Calls Try.prog 17 #[.int .i64 512] V fun e V' => e = .returned (.bool false) ∧ V = V' from fun V => wide_any 512 V ⟨by decide, by decide⟩)
  have HW4 := Lib.hid (show ∀ V, Calls Try.prog 17 #[.int .i64 (-8)] V fun e V' => e = .returned (.bool false) ∧ V = V' from fun V => wide_any (-8) V ⟨by decide, by decide⟩)
  have HD1 := Lib.hid (show ∃ v, GC 9 #[.string (bs [16, 2, 1, 2, 3, 4, 15, 7, 3, 0, 0, 0, 9, 128, 94, 234])] (.tuple #[v, .int .i64 5]) from ⟨_, fun V => by
    have h := hdecode_any (bs [16, 2, 1, 2, 3, 4, 15, 7, 3, 0, 0, 0, 9, 128, 94, 234]) V (by rw [bs_size]; decide)
    rw [show decHE (bs [16, 2, 1, 2, 3, 4, 15, 7, 3, 0, 0, 0, 9, 128, 94, 234]) = 5 from kn_turned] at h
    exact h⟩)
  have HD2 := Lib.hid (show ∃ v, GC 9 #[.string ⟨#[]⟩] (.tuple #[v, .int .i64 4]) from ⟨_, fun V => by
    have h := hdecode_any ⟨#[]⟩ V (by decide)
    rw [kn_none] at h
    exact h⟩)
  have HD3 := Lib.hid (show ∃ v, GC 9 #[.string ⟨#[22]⟩] (.tuple #[v, .int .i64 4]) from ⟨_, fun V => by
    have h := hdecode_any ⟨#[22]⟩ V (by decide)
    rw [kn_one] at h
    exact h⟩)
  have HWL := Lib.hid (show ∃ v, GC 23 #[.agg #[.int .i64 8, .int .i64 2, .int .u32 16909060, .int .i64 15, .int .i64 7, .int .i64 3, .int .u32 9, .int .u64 129, .int .u64 0, .int .u64 0, .int .u64 0], .agg #[.int .u64 256, .int .u64 0, .int .u64 0, .int .u64 0]] (.tuple #[v, .int .i64 3]) from ⟨_, fun V => by
    have h := with_any exH ⟨256, 0, 0, 0⟩ V ex_ok ⟨by decide, by decide, by decide, by decide⟩
    rw [kn_long] at h
    exact h⟩)
  have HBAD := Lib.hid (fun k hk => bads_get k hk)
  have HBE := Lib.hid (fun (k : Nat) (hk : k < 6) => show GC 13 #[.agg #[.int .i64 (badsH.getD k default).wid, .int .i64 (badsH.getD k default).set, .int .u32 (badsH.getD k default).ent, .int .i64 (badsH.getD k default).hops, .int .i64 (badsH.getD k default).src, .int .i64 (badsH.getD k default).grp, .int .u32 (badsH.getD k default).id, .int .u64 (badsH.getD k default).bits.a, .int .u64 (badsH.getD k default).bits.b, .int .u64 (badsH.getD k default).bits.c, .int .u64 (badsH.getD k default).bits.d]] (.tuple #[.string (bs []), .int .i64 2]) from fun V => hencode_no _ V (bads_ok k hk).1 (bads_ok k hk).2)
  have HBH := Lib.hid (fun (k : Nat) (hk : k < 6) => show GC 21 #[.agg #[.int .i64 (badsH.getD k default).wid, .int .i64 (badsH.getD k default).set, .int .u32 (badsH.getD k default).ent, .int .i64 (badsH.getD k default).hops, .int .i64 (badsH.getD k default).src, .int .i64 (badsH.getD k default).grp, .int .u32 (badsH.getD k default).id, .int .u64 (badsH.getD k default).bits.a, .int .u64 (badsH.getD k default).bits.b, .int .u64 (badsH.getD k default).bits.c, .int .u64 (badsH.getD k default).bits.d]] (.tuple #[.agg #[.int .i64 0, .int .i64 0, .int .u32 0, .int .i64 0, .int .i64 0, .int .i64 0, .int .u32 0, .int .u64 0, .int .u64 0, .int .u64 0, .int .u64 0], .int .i64 2]) from fun V => by
    have h := hop_any (badsH.getD k default) V (bads_ok k hk).1
    rw [hopV, hopE, if_neg (fun q => by rw [(bads_ok k hk).2] at q; exact absurd q.1 (by decide)), if_neg (fun q => by rw [(bads_ok k hk).2] at q; exact absurd q (by decide))] at h
    exact h)
  have HBW := Lib.hid (fun (k : Nat) (hk : k < 6) => show GC 23 #[.agg #[.int .i64 (badsH.getD k default).wid, .int .i64 (badsH.getD k default).set, .int .u32 (badsH.getD k default).ent, .int .i64 (badsH.getD k default).hops, .int .i64 (badsH.getD k default).src, .int .i64 (badsH.getD k default).grp, .int .u32 (badsH.getD k default).id, .int .u64 (badsH.getD k default).bits.a, .int .u64 (badsH.getD k default).bits.b, .int .u64 (badsH.getD k default).bits.c, .int .u64 (badsH.getD k default).bits.d], .agg #[.int .u64 0, .int .u64 0, .int .u64 0, .int .u64 0]] (.tuple #[.agg #[.int .i64 0, .int .i64 0, .int .u32 0, .int .i64 0, .int .i64 0, .int .i64 0, .int .u32 0, .int .u64 0, .int .u64 0, .int .u64 0, .int .u64 0], .int .i64 2]) from fun V => by
    have h := with_any (badsH.getD k default) Bt.zero V (bads_ok k hk).1 zero_ok
    rw [withV, withE, if_neg (fun q => by rw [(bads_ok k hk).2] at q; exact absurd q.1 (by decide)), if_neg (fun q => by rw [(bads_ok k hk).2] at q; exact absurd q (by decide))] at h
    exact h)
  have HBC := Lib.hid (fun (k : Nat) (hk : k < 6) => show GC 15 #[.agg #[.int .i64 (badsH.getD k default).wid, .int .i64 (badsH.getD k default).set, .int .u32 (badsH.getD k default).ent, .int .i64 (badsH.getD k default).hops, .int .i64 (badsH.getD k default).src, .int .i64 (badsH.getD k default).grp, .int .u32 (badsH.getD k default).id, .int .u64 (badsH.getD k default).bits.a, .int .u64 (badsH.getD k default).bits.b, .int .u64 (badsH.getD k default).bits.c, .int .u64 (badsH.getD k default).bits.d]] (.int .i64 2) from fun V => by
    have h := hcheck_any (badsH.getD k default) V (bads_ok k hk).1
    rw [Hd.err, if_neg (fun q => by rw [(bads_ok k hk).2] at q; exact absurd q (by decide))] at h
    exact h)
  obtain ⟨E, hE⟩ : ∃ E : ByteArray, E = ⟨#[16, 2, 1, 2, 3, 4, 15, 7, 3, 0, 0, 0, 9, 129, 94, 234]⟩ := ⟨_, rfl⟩
  rw [← hE] at HEN
  have HMX := Lib.hid (show E.size ≤ maxLen by rw [hE]; decide)
  have HEE := Lib.hid hE
  clear hE
  go_enter Try.func7, Try.ntmps7
  go_wp2_with fail
  refine (HX.out _).mono ?_
  rintro e V1 ⟨rfl, hb⟩
  obtain ⟨p, hp⟩ : ∃ p, p = V1.heap.size := ⟨_, rfl⟩
  obtain ⟨V2, hV2⟩ : ∃ V, V = V1.alloc (.cells #[.int .i64 8, .int .i64 2, .int .u32 16909060, .int .i64 15, .int .i64 7, .int .i64 3, .int .u32 9, .int .u64 129, .int .u64 0, .int .u64 0, .int .u64 0] 27) := ⟨_, rfl⟩
  have hbV : Below V1.heap.size V1 V2 := by rw [hV2]; exact (Below.refl _ _).alloc (Nat.le_refl _) _
  have HSS := Lib.hid (show WhS W p V2 from ⟨by rw [hV2, hp]; exact heap_alloc_new _ _, hb.trans (hbV.mono hb.size)⟩)
  have HV2 := Lib.hid hV2
  have HP := Lib.hid hp
  clear hb hbV hV2 hp
  go_wp2_with fail
  rw [← HV2.out, ← HP.out]
  refine (HEN.out _).mono ?_
  rintro e V3 ⟨rfl, hb⟩
  have HS3 := Lib.hid (HSS.out.later hb)
  clear hb
  go_wp2_with fail
  refine (HS8.out _).mono ?_
  rintro e V ⟨rfl, rfl⟩
  go_wp2_with fail
  refine (HS256.out _).mono ?_
  rintro e V ⟨rfl, rfl⟩
  go_wp2_with fail
  refine (HS24.out _).mono ?_
  rintro e V ⟨rfl, rfl⟩
  go_wp2_with fail
  refine (HW1.out _).mono ?_
  rintro e V ⟨rfl, rfl⟩
  go_wp2_with fail
  refine (HW2.out _).mono ?_
  rintro e V ⟨rfl, rfl⟩
  go_wp2_with fail
  refine (HW3.out _).mono ?_
  rintro e V ⟨rfl, rfl⟩
  go_wp2_with fail
  refine (HW4.out _).mono ?_
  rintro e V ⟨rfl, rfl⟩
  go_wp2_with (with_reducible show wpList _ _ _ (⟨some 69, _, _, _, _, _⟩ :: _) _ _; refine wpList_bytes_row rfl (.tmp 68) 9 40 5 rfl Try.underlying9 Try.underlying40 Try.underlying5 E rfl V3.heap.size (Nat.le_refl _) HMX.out ?_; intro v1 w1 hrow1 hb1; obtain ⟨gb, cap, rfl, hci, hfi, hcv, hge⟩ := kn_row HEE.out hrow1)
  obtain ⟨U, hU⟩ : ∃ U, U = w1.setCell ⟨gb, 13, none⟩ (.int .u8 128) := ⟨_, rfl⟩
  have hpl : p < V3.heap.size := by
    have h1 := HS3.out.h
    exact (Array.getElem?_eq_some_iff.1 h1).1
  have HS4 := Lib.hid (show WhS W p U by
    have h1 := HS3.out.later hb1
    have hw := HS3.out.bel.size
    rw [hU]
    exact ⟨h1.h.other _ _ _ (by omega), h1.bel.setCell (by simp only; omega) _⟩)
  rw [← hU]
  clear hcv hci hfi hb1 hrow1 hU hpl hge
  obtain ⟨v1, hv1⟩ := HD1.out
  refine (hv1 _).mono ?_
  rintro e V5 ⟨rfl, hb⟩
  have HS5 := Lib.hid (HS4.out.later hb)
  clear hb hv1
  go_wp2_with fail
  obtain ⟨v2, hv2⟩ := HD2.out
  refine (hv2 _).mono ?_
  rintro e V6 ⟨rfl, hb⟩
  have HS6 := Lib.hid (HS5.out.later hb)
  clear hb hv2
  go_wp2_with fail
  obtain ⟨v3, hv3⟩ := HD3.out
  refine (hv3 _).mono ?_
  rintro e V7 ⟨rfl, hb⟩
  have HS7 := Lib.hid (HS6.out.later hb)
  clear hb hv3
  obtain ⟨y0, y1, y2, y3, y4, y5, y6, y7, y8, y9, y10⟩ := HS7.out.h.cells
  obtain ⟨gs, hgs⟩ : ∃ g, g = V7.heap.size := ⟨_, rfl⟩
  obtain ⟨VL, hVL⟩ : ∃ V, V = V7.alloc (.cells #[.int .i64 24, .int .i64 2, .int .u32 16909060, .int .i64 15, .int .i64 7, .int .i64 3, .int .u32 9, .int .u64 129, .int .u64 0, .int .u64 0, .int .u64 0, .int .i64 8, .int .i64 128, .int .u32 16909060, .int .i64 15, .int .i64 7, .int .i64 3, .int .u32 9, .int .u64 129, .int .u64 0, .int .u64 0, .int .u64 0, .int .i64 8, .int .i64 2, .int .u32 16909060, .int .i64 16, .int .i64 7, .int .i64 3, .int .u32 9, .int .u64 129, .int .u64 0, .int .u64 0, .int .u64 0, .int .i64 8, .int .i64 2, .int .u32 16909060, .int .i64 15, .int .i64 0, .int .i64 3, .int .u32 9, .int .u64 129, .int .u64 0, .int .u64 0, .int .u64 0, .int .i64 8, .int .i64 2, .int .u32 16909060, .int .i64 15, .int .i64 7, .int .i64 8, .int .u32 9, .int .u64 129, .int .u64 0, .int .u64 0, .int .u64 0, .int .i64 8, .int .i64 2, .int .u32 16909060, .int .i64 15, .int .i64 7, .int .i64 3, .int .u32 9, .int .u64 256, .int .u64 0, .int .u64 0, .int .u64 0] 27) := ⟨_, rfl⟩
  have hbV : Below V7.heap.size V7 VL := by rw [hVL]; exact (Below.refl _ _).alloc (Nat.le_refl _) _
  have HL0 := Lib.hid (show KnRel W p gs (.int .i64 0) VL from ⟨0, rfl, by omega, HS7.out.h.later hbV, by rw [hVL, hgs]; exact heap_alloc_new _ _, HS7.out.bel.trans (hbV.mono HS7.out.bel.size)⟩)
  have HVL := Lib.hid hVL
  have HGS := Lib.hid hgs
  clear hbV hVL hgs
  go_wp2_with fail
  rw [← HVL.out, ← HGS.out]
  clear y0 y1 y2 y3 y4 y5 y6 y7 y8 y9 y10 HVL
  go_loopw [12] (fun i wr => KnRel W p gs i wr) (fun i _ => 20 - (intOf i).toNat)
  case atStart => exact HL0.out
  case round =>
    obtain ⟨k, rfl, hk6, hs⟩ := hrel
    by_cases hlt : k < 6
    · have HT0 := Lib.hid hs
      have hg := HBAD.out k hlt
      have HCE := Lib.hid (show ∀ V, KnS W p gs V → V.cell? ⟨gs, k * 11, none⟩ = some (.int .i64 (badsH.getD k default).wid) ∧ V.cell? ⟨gs, k * 11 + 1, none⟩ = some (.int .i64 (badsH.getD k default).set) ∧ V.cell? ⟨gs, k * 11 + 2, none⟩ = some (.int .u32 (badsH.getD k default).ent) ∧ V.cell? ⟨gs, k * 11 + 3, none⟩ = some (.int .i64 (badsH.getD k default).hops) ∧ V.cell? ⟨gs, k * 11 + 4, none⟩ = some (.int .i64 (badsH.getD k default).src) ∧ V.cell? ⟨gs, k * 11 + 5, none⟩ = some (.int .i64 (badsH.getD k default).grp) ∧ V.cell? ⟨gs, k * 11 + 6, none⟩ = some (.int .u32 (badsH.getD k default).id) ∧ V.cell? ⟨gs, k * 11 + 7, none⟩ = some (.int .u64 (badsH.getD k default).bits.a) ∧ V.cell? ⟨gs, k * 11 + 8, none⟩ = some (.int .u64 (badsH.getD k default).bits.b) ∧ V.cell? ⟨gs, k * 11 + 9, none⟩ = some (.int .u64 (badsH.getD k default).bits.c) ∧ V.cell? ⟨gs, k * 11 + 10, none⟩ = some (.int .u64 (badsH.getD k default).bits.d) from fun V hV => by
        obtain ⟨g0, g1, g2, g3, g4, g5, g6, g7, g8, g9, g10⟩ := hg
        exact ⟨(cell_of_row _ _ _ _ _ _ hV.s).trans g0, (cell_of_row _ _ _ _ _ _ hV.s).trans g1, (cell_of_row _ _ _ _ _ _ hV.s).trans g2, (cell_of_row _ _ _ _ _ _ hV.s).trans g3, (cell_of_row _ _ _ _ _ _ hV.s).trans g4, (cell_of_row _ _ _ _ _ _ hV.s).trans g5, (cell_of_row _ _ _ _ _ _ hV.s).trans g6, (cell_of_row _ _ _ _ _ _ hV.s).trans g7, (cell_of_row _ _ _ _ _ _ hV.s).trans g8, (cell_of_row _ _ _ _ _ _ hV.s).trans g9, (cell_of_row _ _ _ _ _ _ hV.s).trans g10⟩)
      clear hs hg
      have hle : k < 6 := hlt
      obtain ⟨x0, x1, x2, x3, x4, x5, x6, x7, x8, x9, x10⟩ := HCE.out _ HT0.out
      go_wp2_with fail
      refine ((HBE.out k hlt) _).mono ?_
      rintro e X0 ⟨rfl, hb⟩
      clear x0 x1 x2 x3 x4 x5 x6 x7 x8 x9 x10
      have HT1 := Lib.hid (HT0.out.later hb)
      clear hb
      obtain ⟨x0, x1, x2, x3, x4, x5, x6, x7, x8, x9, x10⟩ := HCE.out _ HT1.out
      go_wp2_with fail
      refine ((HBH.out k hlt) _).mono ?_
      rintro e X1 ⟨rfl, hb⟩
      clear x0 x1 x2 x3 x4 x5 x6 x7 x8 x9 x10
      obtain ⟨Z1, hZ1⟩ : ∃ Z, Z = X1.alloc (.cells #[.int .i64 0, .int .i64 0, .int .u32 0, .int .i64 0, .int .i64 0, .int .i64 0, .int .u32 0, .int .u64 0, .int .u64 0, .int .u64 0, .int .u64 0] 27) := ⟨_, rfl⟩
      have hbZ : Below X1.heap.size X1 Z1 := by rw [hZ1]; exact (Below.refl _ _).alloc (Nat.le_refl _) _
      have HT2 := Lib.hid ((HT1.out.later hb).later hbZ)
      obtain ⟨x0, x1, x2, x3, x4, x5, x6, x7, x8, x9, x10⟩ := HCE.out _ HT2.out
      rw [hZ1] at x0 x1 x2 x3 x4 x5 x6 x7 x8 x9 x10
      have HZ1 := Lib.hid hZ1
      clear hb hbZ hZ1
      go_wp2_with fail
      rw [← HZ1.out]
      refine ((HBW.out k hlt) _).mono ?_
      rintro e X2 ⟨rfl, hb⟩
      clear x0 x1 x2 x3 x4 x5 x6 x7 x8 x9 x10
      obtain ⟨Z2, hZ2⟩ : ∃ Z, Z = X2.alloc (.cells #[.int .i64 0, .int .i64 0, .int .u32 0, .int .i64 0, .int .i64 0, .int .i64 0, .int .u32 0, .int .u64 0, .int .u64 0, .int .u64 0, .int .u64 0] 27) := ⟨_, rfl⟩
      have hbZ : Below X2.heap.size X2 Z2 := by rw [hZ2]; exact (Below.refl _ _).alloc (Nat.le_refl _) _
      have HT3 := Lib.hid ((HT2.out.later hb).later hbZ)
      obtain ⟨x0, x1, x2, x3, x4, x5, x6, x7, x8, x9, x10⟩ := HCE.out _ HT3.out
      rw [hZ2] at x0 x1 x2 x3 x4 x5 x6 x7 x8 x9 x10
      have HZ2 := Lib.hid hZ2
      clear hb hbZ hZ2
      go_wp2_with fail
      rw [← HZ2.out]
      refine ((HBC.out k hlt) _).mono ?_
      rintro e X3 ⟨rfl, hb⟩
      clear x0 x1 x2 x3 x4 x5 x6 x7 x8 x9 x10
      have HT4 := Lib.hid (HT3.out.later hb)
      clear hb
      go_wp2_with fail
      case roundEnd =>
        refine ⟨⟨k + 1, by simp, by omega, HT4.out⟩, ?_⟩
        simp only [intOf]
        omega
    · obtain rfl : k = 6 := by omega
      obtain ⟨y0, y1, y2, y3, y4, y5, y6, y7, y8, y9, y10⟩ := hs.h.cells
      have HT := Lib.hid hs
      clear hs
      go_wp2_with fail
      obtain ⟨v9, hv9⟩ := HWL.out
      refine (hv9 _).mono ?_
      rintro e V9 ⟨rfl, hb⟩
      have HT9 := Lib.hid (HT.out.later hb)
      clear hb hv9 y0 y1 y2 y3 y4 y5 y6 y7 y8 y9 y10
      go_wp2_with fail
      refine (works_any _).mono ?_
      rintro e VA ⟨rfl, hb⟩
      have HTA := Lib.hid (HT9.out.later hb)
      clear hb
      go_wp2_with fail
      go_returns
      exact ⟨rfl, HTA.out.bel⟩

end Go.Proofs.Ytbcgfojdlehnpaa
