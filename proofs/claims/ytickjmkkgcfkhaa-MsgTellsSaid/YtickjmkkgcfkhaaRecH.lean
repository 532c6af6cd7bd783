import Derived.Test.YtickjmkkgcfkhaaRecE
import Derived.Test.YtickjmkkgcfkhaaWireG1
/- Contracts of the reference's record: numbers laid; stamps' bytes. -/
set_option linter.unusedSimpArgs false
set_option linter.unusedVariables false
set_option maxRecDepth 100000
namespace Go.Proofs.Ytickjmkkgcfkhaa
open Go.RowKit Go.ChangeShapes Go.WideShapes

def pairV (vs : List (Nat × Nat)) : List Value := vs.flatMap fun x => [Value.int .u64 (x.1 : Int), Value.int .u64 (x.2 : Int)]
def pairB (vs : List (Nat × Nat)) : List UInt8 := vs.flatMap fun x => nb x.1 x.2
def pairOk (vs : List (Nat × Nat)) : Prop := ∀ x ∈ vs, (x.2 = 1 ∨ x.2 = 2 ∨ x.2 = 4 ∨ x.2 = 8) ∧ x.1 < 2 ^ (8 * x.2)
theorem pairV_get : ∀ (vs : List (Nat × Nat)) (k : Nat), k < vs.length → (pairV vs)[2 * k]? = some (.int .u64 ((vs.getD k default).1 : Nat)) ∧ (pairV vs)[2 * k + 1]? = some (.int .u64 ((vs.getD k default).2 : Nat))
  | [], _, h => by simp at h
  | x :: l, 0, _ => ⟨rfl, rfl⟩
  | x :: l, k + 1, h => by
    have ih := pairV_get l k (by simpa using h)
    have e : pairV (x :: l) = [Value.int .u64 (x.1 : Int), Value.int .u64 (x.2 : Int)] ++ pairV l := rfl
    rw [e, show 2 * (k + 1) = 2 * k + 2 from by omega, show 2 * k + 2 + 1 = (2 * k + 1) + 2 from by omega]
    exact ⟨ih.1, ih.2⟩
theorem pairB_len : ∀ vs : List (Nat × Nat), pairOk vs → (pairB vs).length ≤ 8 * vs.length
  | [], _ => Nat.le_refl _
  | x :: l, h => by
    have ih := pairB_len l fun y hy => h y (by simp [hy])
    have hx := (h x (by simp)).1
    show (nb x.1 x.2 ++ pairB l).length ≤ _
    rw [List.length_append, nb_len, List.length_cons]; omega
def PutsRel (W : World) (g : Nat) (vs : List (Nat × Nat)) (s i : Value) (wr : World) : Prop :=
  ∃ k : Nat, i = .int .i64 (2 * (k : Int)) ∧ s = .string (bs (pairB (vs.take k))) ∧ k ≤ vs.length ∧ wr.heap[g]? = some (.cells (pairV vs).toArray 28 (0, 0)) ∧ Below W.heap.size W wr
end Go.Proofs.Ytickjmkkgcfkhaa

/- Contracts of the record: the reference's bytes of a record; stamps' bytes. -/
set_option linter.unusedSimpArgs false
set_option linter.unusedVariables false
set_option maxRecDepth 100000
namespace Go.Proofs.Ytickjmkkgcfkhaa
open Go.RowKit Go.ChangeShapes Go.WideShapes

def REncRel (W : World) (r : Rc) (sa : Option Addr) (sc : Nat) (s i : Value) (wr : World) : Prop :=
  ∃ k : Nat, i = .int .i64 k ∧ s = .string (bs (r.head ++ encA (r.adjs.take k))) ∧ k ≤ r.adjs.length ∧ BoxR W.heap.size r sa sc wr ∧ Below W.heap.size W wr
end Go.Proofs.Ytickjmkkgcfkhaa

/- Contracts of the record: stamps' bytes. -/
set_option linter.unusedSimpArgs false
set_option linter.unusedVariables false
set_option maxRecDepth 100000
namespace Go.Proofs.Ytickjmkkgcfkhaa
open Go.RowKit Go.ChangeShapes Go.WideShapes

def St.enc (s : St) : List UInt8 := nb s.org.toNat 1 ++ nb s.ep 4 ++ nb s.sq 4
theorem St.enc_len (s : St) : s.enc.length = 9 := by simp [St.enc, nb_len]
structure EsS (W : World) (s : St) (b : Nat) (l : List UInt8) (V : World) : Prop where
  box : BoxS W.heap.size s V
  str : BoxT b l V
  bel : Below W.heap.size W V
  hi : W.heap.size < b
theorem EsS.put {W V X : World} {s : St} {b : Nat} {l l' : List UInt8} (h : EsS W s b l V) (hs : BoxT b l' X) (hg : V.grownBy X (some b)) : EsS W s b l' X :=
  ⟨(hg.block _ (Array.getElem?_eq_some_iff.1 h.box).1 (by have := h.hi; simp; omega)).trans h.box, hs, h.bel.grown hg h.bel.size (fun k hk => by cases hk; exact Nat.le_of_lt h.hi), h.hi⟩
theorem encst_no (s : St) (W : World) (hc : s.may = false) :
    Calls Try.prog 60 #[s.ag] W fun e W' => e = .returned (.tuple #[.string (bs []), .int .i64 2]) ∧ Below W.heap.size W W' := by
  obtain ⟨W1, hW1⟩ : ∃ W1, W1 = W.alloc (.cells s.cs 27) := ⟨_, rfl⟩
  have HB1 := Lib.hid (show Below W.heap.size W W1 by rw [hW1]; exact (Below.refl _ _).alloc (Nat.le_refl _) _)
  have HM := Lib.hid (may_any s W1)
  have HC := Lib.hid hc
  have HW1 := Lib.hid hW1
  clear hW1 hc
  go_enter Try.func60, Try.ntmps60
  unfold St.ag St.cs at *
  go_wp2_with fail
  rw [← HW1.out]
  refine HM.out.mono ?_
  rintro e V ⟨rfl, hb⟩
  rw [HC.out]
  have HB := Lib.hid (HB1.out.trans (hb.mono HB1.out.size))
  clear hb
  go_wp2_with fail
  go_ret2
  exact ⟨rfl, HB.out⟩
set_option maxHeartbeats 1600000 in
theorem encst_yes (s : St) (W : World) (hok : s.ok) (hc : s.may = true) :
    Calls Try.prog 60 #[s.ag] W fun e W' => e = .returned (.tuple #[.string (bs s.enc), .int .i64 0]) ∧ Below W.heap.size W W' := by
  obtain ⟨W1, hW1⟩ : ∃ W1, W1 = W.alloc (.cells s.cs 27) := ⟨_, rfl⟩
  have HB1 := Lib.hid (show Below W.heap.size W W1 by rw [hW1]; exact (Below.refl _ _).alloc (Nat.le_refl _) _)
  have HBX := Lib.hid (show BoxS W.heap.size s W1 by rw [hW1]; exact heap_alloc_new _ _)
  have HM := Lib.hid (may_any s W1)
  have HC := Lib.hid hc
  have hcc := hc
  simp only [St.may, rtr, Bool.and_eq_true, decide_eq_true_eq] at hcc
  obtain ⟨⟨⟨c1, c2⟩, c3⟩, c4⟩ := hcc
  obtain ⟨_, o1, o2⟩ := hok
  obtain ⟨o, ho⟩ : ∃ o : Nat, s.org = (o : Int) := ⟨s.org.toNat, by omega⟩
  have ho1 : o < 256 := by omega
  have hw0 : IntKind.u64.wrap (o : Int) = (o : Int) := IntWalk.u64_in _ (by omega)
  have hw1 : IntKind.u64.wrap (s.ep : Int) = (s.ep : Int) := IntWalk.u64_in _ (by omega)
  have hw2 : IntKind.u64.wrap (s.sq : Int) = (s.sq : Int) := IntWalk.u64_in _ (by omega)
  have HEN := Lib.hid (show s.enc = nb o 1 ++ nb s.ep 4 ++ nb s.sq 4 by unfold St.enc; rw [ho]; rfl)
  have hag : s.ag = .agg #[.int .i64 o, .int .u32 s.ep, .int .u32 s.sq] := by unfold St.ag St.cs; rw [ho]
  have hcs : s.cs = #[.int .i64 o, .int .u32 s.ep, .int .u32 s.sq] := by unfold St.cs; rw [ho]
  have HCE := Lib.hid (show ∀ V, BoxS W.heap.size s V → V.cell? ⟨W.heap.size, 0, none⟩ = some (.int .i64 o) ∧ V.cell? ⟨W.heap.size, 1, none⟩ = some (.int .u32 s.ep) ∧ V.cell? ⟨W.heap.size, 2, none⟩ = some (.int .u32 s.sq) from fun V h => by
    have := h.cells
    rw [ho] at this
    exact this)
  rw [hcs] at hW1
  rw [hag] at HM ⊢
  have HW1 := Lib.hid hW1
  obtain ⟨x0, x1, x2⟩ := HCE.out _ HBX.out
  clear hW1 hc c1 c2 c3 c4 ho hag hcs
  have henp : ∀ args w, (callFunc 98 args).run Try.prog w = .ok (.enter 98 args) w := fun _ _ => by kernel_rfl
  have henb : ∀ args w, (callFunc 99 args).run Try.prog w = .ok (.enter 99 args) w := fun _ _ => by kernel_rfl
  go_enter Try.func60, Try.ntmps60
  go_wp2_with fail
  rw [← HW1.out]
  refine HM.out.mono ?_
  rintro e V ⟨rfl, hb⟩
  rw [HC.out]
  have HB := Lib.hid (HB1.out.trans (hb.mono HB1.out.size))
  have HBX2 := Lib.hid (HBX.out.later hb)
  clear hb x0 x1 x2
  go_wp2_with fail
  refine (laid_any V).mono ?_
  rintro e V1 ⟨rfl, ht, hb⟩
  have HS1 := Lib.hid (show EsS W s V.heap.size [] V1 from ⟨HBX2.out.later hb, ht, HB.out.trans (hb.mono HB.out.size), (Array.getElem?_eq_some_iff.1 HBX2.out).1⟩)
  obtain ⟨b, hbb⟩ : ∃ b, b = V.heap.size := ⟨_, rfl⟩
  rw [← hbb] at HS1 ⊢
  clear hbb ht hb
  obtain ⟨x0, x1, x2⟩ := HCE.out _ HS1.out.box
  go_wp2_with fail
  refine (putc_any b _ o 1 V1 HS1.out.str (by omega) (by omega) (by simp [nb_len])).mono ?_
  rintro e V2 ⟨rfl, ht, hg⟩
  have HS2 := Lib.hid (HS1.out.put ht hg)
  clear ht hg x0 x1 x2
  obtain ⟨x0, x1, x2⟩ := HCE.out _ HS2.out.box
  go_wp2_with fail
  refine (putc_any b _ s.ep 4 V2 HS2.out.str (by omega) (by omega) (by simp [nb_len])).mono ?_
  rintro e V3 ⟨rfl, ht, hg⟩
  have HS3 := Lib.hid (HS2.out.put ht hg)
  clear ht hg x0 x1 x2
  obtain ⟨x0, x1, x2⟩ := HCE.out _ HS3.out.box
  go_wp2_with fail
  refine (putc_any b _ s.sq 4 V3 HS3.out.str (by omega) (by omega) (by simp [nb_len])).mono ?_
  rintro e V4 ⟨rfl, ht, hg⟩
  have HS4 := Lib.hid (HS3.out.put ht hg)
  clear ht hg x0 x1 x2
  obtain ⟨x0, x1, x2⟩ := HCE.out _ HS4.out.box
  go_wp2_with fail
  refine (bytes_any b _ V4 HS4.out.str).mono ?_
  rintro e w ⟨rfl, rfl⟩
  go_wp2_with fail
  go_ret2
  exact ⟨by rw [HEN.out]; rfl, HS4.out.bel⟩
/-- What 'EncodeStamp' answers. -/
def St.encS (s : St) : ByteArray := if s.may then bs s.enc else bs []
def St.encE (s : St) : Int := if s.may then 0 else 2
theorem encst_any (s : St) (W : World) (hok : s.ok) : Calls Try.prog 60 #[s.ag] W fun e W' => e = .returned (.tuple #[.string s.encS, .int .i64 s.encE]) ∧ Below W.heap.size W W' := by
  unfold St.encS St.encE
  by_cases h : s.may = true
  · rw [if_pos h, if_pos h]; exact encst_yes s W hok h
  · rw [if_neg h, if_neg h]; exact encst_no s W (by simpa using h)
/-- What 'Encode' answers. -/
def Rc.encS (r : Rc) : ByteArray := if r.chk then bs r.enc else bs []
theorem encode_any (r : Rc) (sa : Option Addr) (sc : Nat) (W : World) (hA : AdjsIn W sa r.adjs) (hl : r.adjs.length ≤ maxLen) (hok : r.ok) :
    Calls Try.prog 56 #[r.ag sa sc] W fun e W' => e = .returned (.tuple #[.string r.encS, .int .i64 r.err]) ∧ Below W.heap.size W W' := by
  unfold Rc.encS Rc.err
  by_cases h : r.chk = true
  · rw [if_pos h, if_pos h]; exact encode_yes r sa sc W hA hl hok h
  · rw [if_neg h, if_neg h]; exact encode_no r sa sc W hA hl (by simpa using h)
end Go.Proofs.Ytickjmkkgcfkhaa
