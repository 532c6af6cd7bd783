/- Contracts of the record: stamps' bytes. -/
import Derived.Test.YtcdmmplmkgdejaaRecG
set_option linter.unusedSimpArgs false
set_option linter.unusedVariables false
namespace Go.Proofs.Ytcdmmplmkgdejaa
open Go.RowKit Go.ChangeShapes Go.WideShapes

def St.enc (s : St) : List UInt8 := nb s.org.toNat 1 ++ nb s.ep 4 ++ nb s.sq 4
theorem St.enc_len (s : St) : s.enc.length = 9 := by simp [St.enc, nb_len]
structure EsS (W : World) (s : St) (b : Nat) (l : List UInt8) (V : World) : Prop where
  box : BoxS W.heap.size s V
  str : BoxT b l V
  bel : Below W.heap.size W V
  hi : W.heap.size < b
theorem EsS.put {W V X : World} {s : St} {b : Nat} {l l' : List UInt8} (h : EsS W s b l V) (hs : BoxT b l' X) (hg : V.grownBy X (some b)) : EsS W s b l' X :=
  ⟨(hg.block _ (Array.getElem?_eq_some_iff.1 h.box).1 (by have := h.hi; simp; omega)).trans h.box, hs, h.bel.grown hg h.bel.size (fun k hk => by cases hk; exact Nat.le_of_lt h.hi), h.hi⟩
theorem encst_no (s : St) (W : World) (hc : s.may = false) :
    Calls Try.prog 24 #[s.ag] W fun e W' => e = .returned (.tuple #[.string (bs []), .int .i64 2]) ∧ Below W.heap.size W W' := by
  obtain ⟨W1, hW1⟩ : ∃ W1, W1 = W.alloc (.cells s.cs 39) := ⟨_, rfl⟩
  have HB1 := Lib.hid (show Below W.heap.size W W1 by rw [hW1]; exact (Below.refl _ _).alloc (Nat.le_refl _) _)
  have HM := Lib.hid (may_any s W1)
  have HC := Lib.hid hc
  have HW1 := Lib.hid hW1
  clear hW1 hc
  go_enter Try.func24, Try.ntmps24
  unfold St.ag St.cs at *
  go_wp2_with fail
  rw [← HW1.out]
  refine HM.out.mono ?_
  rintro e V ⟨rfl, hb⟩
  rw [HC.out]
  have HB := Lib.hid (HB1.out.trans (hb.mono HB1.out.size))
  clear hb
  go_wp2_with fail
  go_ret2
  exact ⟨rfl, HB.out⟩
set_option maxHeartbeats 1600000 in
theorem encst_yes (s : St) (W : World) (hok : s.ok) (hc : s.may = true) :
    Calls Try.prog 24 #[s.ag] W fun e W' => e = .returned (.tuple #[.string (bs s.enc), .int .i64 0]) ∧ Below W.heap.size W W' := by
  obtain ⟨W1, hW1⟩ : ∃ W1, W1 = W.alloc (.cells s.cs 39) := ⟨_, rfl⟩
  have HB1 := Lib.hid (show Below W.heap.size W W1 by rw [hW1]; exact (Below.refl _ _).alloc (Nat.le_refl _) _)
  have HBX := Lib.hid (show BoxS W.heap.size s W1 by rw [hW1]; exact heap_alloc_new _ _)
  have HM := Lib.hid (may_any s W1)
  have HC := Lib.hid hc
  have hcc := hc
  simp only [St.may, rtr, Bool.and_eq_true, decide_eq_true_eq] at hcc
  obtain ⟨⟨⟨c1, c2⟩, c3⟩, c4⟩ := hcc
  obtain ⟨_, o1, o2⟩ := hok
  obtain ⟨o, ho⟩ : ∃ o : Nat, s.org = (o : Int) := ⟨s.org.toNat, by omega⟩
  have ho1 : o < 256 := by omega
  have hw0 : IntKind.u64.wrap (o : Int) = (o : Int) := IntWalk.u64_in _ (by omega)
  have hw1 : IntKind.u64.wrap (s.ep : Int) = (s.ep : Int) := IntWalk.u64_in _ (by omega)
  have hw2 : IntKind.u64.wrap (s.sq : Int) = (s.sq : Int) := IntWalk.u64_in _ (by omega)
  have HEN := Lib.hid (show s.enc = nb o 1 ++ nb s.ep 4 ++ nb s.sq 4 by unfold St.enc; rw [ho]; rfl)
  have hag : s.ag = .agg #[.int .i64 o, .int .u32 s.ep, .int .u32 s.sq] := by unfold St.ag St.cs; rw [ho]
  have hcs : s.cs = #[.int .i64 o, .int .u32 s.ep, .int .u32 s.sq] := by unfold St.cs; rw [ho]
  have HCE := Lib.hid (show ∀ V, BoxS W.heap.size s V → V.cell? ⟨W.heap.size, 0, none⟩ = some (.int .i64 o) ∧ V.cell? ⟨W.heap.size, 1, none⟩ = some (.int .u32 s.ep) ∧ V.cell? ⟨W.heap.size, 2, none⟩ = some (.int .u32 s.sq) from fun V h => by
    have := h.cells
    rw [ho] at this
    exact this)
  rw [hcs] at hW1
  rw [hag] at HM ⊢
  have HW1 := Lib.hid hW1
  obtain ⟨x0, x1, x2⟩ := HCE.out _ HBX.out
  clear hW1 hc c1 c2 c3 c4 ho hag hcs
  have henp : ∀ args w, (callFunc 44 args).run Try.prog w = .ok (.enter 44 args) w := fun _ _ => by kernel_rfl
  have henb : ∀ args w, (callFunc 46 args).run Try.prog w = .ok (.enter 46 args) w := fun _ _ => by kernel_rfl
  go_enter Try.func24, Try.ntmps24
  go_wp2_with fail
  rw [← HW1.out]
  refine HM.out.mono ?_
  rintro e V ⟨rfl, hb⟩
  rw [HC.out]
  have HB := Lib.hid (HB1.out.trans (hb.mono HB1.out.size))
  have HBX2 := Lib.hid (HBX.out.later hb)
  clear hb x0 x1 x2
  go_wp2_with fail
  refine (laid_any V).mono ?_
  rintro e V1 ⟨rfl, ht, hb⟩
  have HS1 := Lib.hid (show EsS W s V.heap.size [] V1 from ⟨HBX2.out.later hb, ht, HB.out.trans (hb.mono HB.out.size), (Array.getElem?_eq_some_iff.1 HBX2.out).1⟩)
  obtain ⟨b, hbb⟩ : ∃ b, b = V.heap.size := ⟨_, rfl⟩
  rw [← hbb] at HS1 ⊢
  clear hbb ht hb
  obtain ⟨x0, x1, x2⟩ := HCE.out _ HS1.out.box
  go_wp2_with fail
  refine (putc_any b _ o 1 V1 HS1.out.str (by omega) (by omega) (by simp [nb_len])).mono ?_
  rintro e V2 ⟨rfl, ht, hg⟩
  have HS2 := Lib.hid (HS1.out.put ht hg)
  clear ht hg x0 x1 x2
  obtain ⟨x0, x1, x2⟩ := HCE.out _ HS2.out.box
  go_wp2_with fail
  refine (putc_any b _ s.ep 4 V2 HS2.out.str (by omega) (by omega) (by simp [nb_len])).mono ?_
  rintro e V3 ⟨rfl, ht, hg⟩
  have HS3 := Lib.hid (HS2.out.put ht hg)
  clear ht hg x0 x1 x2
  obtain ⟨x0, x1, x2⟩ := HCE.out _ HS3.out.box
  go_wp2_with fail
  refine (putc_any b _ s.sq 4 V3 HS3.out.str (by omega) (by omega) (by simp [nb_len])).mono ?_
  rintro e V4 ⟨rfl, ht, hg⟩
  have HS4 := Lib.hid (HS3.out.put ht hg)
  clear ht hg x0 x1 x2
  obtain ⟨x0, x1, x2⟩ := HCE.out _ HS4.out.box
  go_wp2_with fail
  refine (bytes_any b _ V4 HS4.out.str).mono ?_
  rintro e w ⟨rfl, rfl⟩
  go_wp2_with fail
  go_ret2
  exact ⟨by rw [HEN.out]; rfl, HS4.out.bel⟩
theorem rencst_no (s : St) (W : World) (hc : s.may = false) :
    Calls Try.prog 26 #[s.ag] W fun e W' => e = .returned (.tuple #[.string (bs []), .int .i64 2]) ∧ Below W.heap.size W W' := by
  obtain ⟨W1, hW1⟩ : ∃ W1, W1 = W.alloc (.cells s.cs 39) := ⟨_, rfl⟩
  have HB1 := Lib.hid (show Below W.heap.size W W1 by rw [hW1]; exact (Below.refl _ _).alloc (Nat.le_refl _) _)
  have HM := Lib.hid (rmay_any s W1)
  have HC := Lib.hid hc
  have HW1 := Lib.hid hW1
  clear hW1 hc
  go_enter Try.func26, Try.ntmps26
  unfold St.ag St.cs at *
  go_wp2_with fail
  rw [← HW1.out]
  refine HM.out.mono ?_
  rintro e V ⟨rfl, hb⟩
  rw [HC.out]
  have HB := Lib.hid (HB1.out.trans (hb.mono HB1.out.size))
  clear hb
  go_wp2_with fail
  go_ret2
  exact ⟨rfl, HB.out⟩
set_option maxHeartbeats 1600000 in
theorem rencst_yes (s : St) (W : World) (hok : s.ok) (hc : s.may = true) :
    Calls Try.prog 26 #[s.ag] W fun e W' => e = .returned (.tuple #[.string (bs s.enc), .int .i64 0]) ∧ Below W.heap.size W W' := by
  obtain ⟨W1, hW1⟩ : ∃ W1, W1 = W.alloc (.cells s.cs 39) := ⟨_, rfl⟩
  have HB1 := Lib.hid (show Below W.heap.size W W1 by rw [hW1]; exact (Below.refl _ _).alloc (Nat.le_refl _) _)
  have HBX := Lib.hid (show BoxS W.heap.size s W1 by rw [hW1]; exact heap_alloc_new _ _)
  have HM := Lib.hid (rmay_any s W1)
  have HC := Lib.hid hc
  have hcc := hc
  simp only [St.may, rtr, Bool.and_eq_true, decide_eq_true_eq] at hcc
  obtain ⟨⟨⟨c1, c2⟩, c3⟩, c4⟩ := hcc
  obtain ⟨_, o1, o2⟩ := hok
  obtain ⟨o, ho⟩ : ∃ o : Nat, s.org = (o : Int) := ⟨s.org.toNat, by omega⟩
  have ho1 : o < 256 := by omega
  have hw0 : IntKind.u64.wrap (o : Int) = (o : Int) := IntWalk.u64_in _ (by omega)
  have hw1 : IntKind.u64.wrap (s.ep : Int) = (s.ep : Int) := IntWalk.u64_in _ (by omega)
  have hw2 : IntKind.u64.wrap (s.sq : Int) = (s.sq : Int) := IntWalk.u64_in _ (by omega)
  have HEN := Lib.hid (show s.enc = nb o 1 ++ nb s.ep 4 ++ nb s.sq 4 by unfold St.enc; rw [ho]; rfl)
  have hag : s.ag = .agg #[.int .i64 o, .int .u32 s.ep, .int .u32 s.sq] := by unfold St.ag St.cs; rw [ho]
  have hcs : s.cs = #[.int .i64 o, .int .u32 s.ep, .int .u32 s.sq] := by unfold St.cs; rw [ho]
  have HCE := Lib.hid (show ∀ V, BoxS W.heap.size s V → V.cell? ⟨W.heap.size, 0, none⟩ = some (.int .i64 o) ∧ V.cell? ⟨W.heap.size, 1, none⟩ = some (.int .u32 s.ep) ∧ V.cell? ⟨W.heap.size, 2, none⟩ = some (.int .u32 s.sq) from fun V h => by
    have := h.cells
    rw [ho] at this
    exact this)
  rw [hcs] at hW1
  rw [hag] at HM ⊢
  have HW1 := Lib.hid hW1
  obtain ⟨x0, x1, x2⟩ := HCE.out _ HBX.out
  clear hW1 hc c1 c2 c3 c4 ho hag hcs
  have hvok : pairOk [(o, 1), (s.ep, 4), (s.sq, 4)] := by
    intro x hx
    simp only [List.mem_cons, List.not_mem_nil, or_false] at hx
    rcases hx with rfl | rfl | rfl <;> refine ⟨by simp, ?_⟩ <;> simp only [Nat.reduceMul, Nat.reducePow] <;> omega
  have HPB := Lib.hid (show pairB [(o, 1), (s.ep, 4), (s.sq, 4)] = s.enc by rw [HEN.out]; simp [pairB, List.append_assoc])
  have HPUT := Lib.hid (show ∀ (g : Nat) (Z : World), Z.heap[g]? = some (.cells #[.int .u64 o, .int .u64 1, .int .u64 s.ep, .int .u64 4, .int .u64 s.sq, .int .u64 4] 53 (0, 0)) → _ from fun g Z h => puts_any g 6 [(o, 1), (s.ep, 4), (s.sq, 4)] Z rfl h hvok (by simp))
  clear hvok
  go_enter Try.func26, Try.ntmps26
  go_wp2_with fail
  rw [← HW1.out]
  refine HM.out.mono ?_
  rintro e V ⟨rfl, hb⟩
  rw [HC.out]
  have HB := Lib.hid (HB1.out.trans (hb.mono HB1.out.size))
  have HBX2 := Lib.hid (HBX.out.later hb)
  clear hb x0 x1 x2
  obtain ⟨x0, x1, x2⟩ := HCE.out _ HBX2.out
  go_wp2_with fail
  refine (HPUT.out _ _ (heap_alloc_new V _)).mono ?_
  rintro e V1 ⟨rfl, hb⟩
  rw [HPB.out]
  have HBE := Lib.hid (HB.out.trans ((((Below.refl V.heap.size V).alloc (Nat.le_refl _) _).trans (hb.mono (by rw [World.size_alloc]; omega))).mono HB.out.size))
  clear hb
  go_wp2_with fail
  go_ret2
  exact ⟨rfl, HBE.out⟩

/-- What 'EncodeStamp' answers. -/
def St.encS (s : St) : ByteArray := if s.may then bs s.enc else bs []
def St.encE (s : St) : Int := if s.may then 0 else 2
theorem encst_any (s : St) (W : World) (hok : s.ok) : Calls Try.prog 24 #[s.ag] W fun e W' => e = .returned (.tuple #[.string s.encS, .int .i64 s.encE]) ∧ Below W.heap.size W W' := by
  unfold St.encS St.encE
  by_cases h : s.may = true
  · rw [if_pos h, if_pos h]; exact encst_yes s W hok h
  · rw [if_neg h, if_neg h]; exact encst_no s W (by simpa using h)
theorem rencst_any (s : St) (W : World) (hok : s.ok) : Calls Try.prog 26 #[s.ag] W fun e W' => e = .returned (.tuple #[.string s.encS, .int .i64 s.encE]) ∧ Below W.heap.size W W' := by
  unfold St.encS St.encE
  by_cases h : s.may = true
  · rw [if_pos h, if_pos h]; exact rencst_yes s W hok h
  · rw [if_neg h, if_neg h]; exact rencst_no s W (by simpa using h)
/-- What 'Encode' answers. -/
def Rc.encS (r : Rc) : ByteArray := if r.chk then bs r.enc else bs []
theorem encode_any (r : Rc) (sa : Option Addr) (sc : Nat) (W : World) (hA : AdjsIn W sa r.adjs) (hl : r.adjs.length ≤ maxLen) (hok : r.ok) :
    Calls Try.prog 16 #[r.ag sa sc] W fun e W' => e = .returned (.tuple #[.string r.encS, .int .i64 r.err]) ∧ Below W.heap.size W W' := by
  unfold Rc.encS Rc.err
  by_cases h : r.chk = true
  · rw [if_pos h, if_pos h]; exact encode_yes r sa sc W hA hl hok h
  · rw [if_neg h, if_neg h]; exact encode_no r sa sc W hA hl (by simpa using h)
theorem rencode_any (r : Rc) (sa : Option Addr) (sc : Nat) (W : World) (hA : AdjsIn W sa r.adjs) (hl : r.adjs.length ≤ maxLen) (hok : r.ok) :
    Calls Try.prog 17 #[r.ag sa sc] W fun e W' => e = .returned (.tuple #[.string r.encS, .int .i64 r.err]) ∧ Below W.heap.size W W' := by
  unfold Rc.encS Rc.err
  by_cases h : r.chk = true
  · rw [if_pos h, if_pos h]; exact rencode_yes r sa sc W hA hl hok h
  · rw [if_neg h, if_neg h]; exact rencode_no r sa sc W hA hl (by simpa using h)

end Go.Proofs.Ytcdmmplmkgdejaa
