/- Contracts of the record: numbers laid behind bytes; a record's bytes. -/
import Derived.Test.YtickjmkkgcfkhaaGreatRecC
import Derived.Test.YtickjmkkgcfkhaaGreatWireG1
set_option linter.unusedSimpArgs false
set_option linter.unusedVariables false
set_option maxRecDepth 100000
namespace Go.Proofs.YtickjmkkgcfkhaaGreat
open Go.RowKit Go.ChangeShapes Go.WideShapes

/-- A string's variable. -/
def BoxT (b : Nat) (l : List UInt8) (V : World) : Prop := V.heap[b]? = some (.cells #[.string (bs l)] 9 (0, 0))
theorem BoxT.later {b : Nat} {l : List UInt8} {V X : World} (h : BoxT b l V) (hb : Below V.heap.size V X) : BoxT b l X := (hb.block b (Array.getElem?_eq_some_iff.1 h).1).trans h
theorem BoxT.cell {b : Nat} {l : List UInt8} {V : World} (h : BoxT b l V) : V.cell? ⟨b, 0, none⟩ = some (.string (bs l)) := cell_of_row _ _ 0 _ _ _ h
theorem grownB_ahead {W V X : World} {row : Option Nat} (hg : W.grownBy V row) (hb : Below V.heap.size V X) : W.grownBy X row :=
  ⟨hb.os.trans hg.os, hb.tape.trans hg.tape, hb.output.trans hg.output, Nat.le_trans hg.size hb.size, fun k hk hne => (hb.block k (Nat.lt_of_lt_of_le hk hg.size)).trans (hg.block k hk hne)⟩

/-- 'put(v, size)'. -/
theorem putc_any (b : Nat) (l : List UInt8) (v m : Nat) (W : World) (h : BoxT b l W) (hm : m = 1 ∨ m = 2 ∨ m = 4 ∨ m = 8) (hv : v < 2 ^ (8 * m)) (hl : l.length ≤ 140737488355000) :
    Calls Tryz.prog 95 #[.int .u64 v, .int .i64 m, .pointer (some ⟨b, 0, none⟩)] W fun e W' => e = .returned (.tuple #[]) ∧ BoxT b (l ++ nb v m) W' ∧ W.grownBy W' (some b) := by
  have hc := h.cell
  have HP := Lib.hid (put_yes (bs l) v m W hm hv (by rw [bs_size]; exact hl))
  have HH := Lib.hid h
  clear h hv hm
  go_enter Tryz.func95, Tryz.ntmps95
  go_wp2_with fail
  refine HP.out.mono ?_
  rintro e V ⟨rfl, hb⟩
  have hx := HH.out.later hb
  have hcv := hx.cell
  have hf := frozen_of_row _ _ 0 _ _ hx
  have HE := Lib.hid (show BoxT b (l ++ nb v m) (V.setCell ⟨b, 0, none⟩ (.string (bs (l ++ nb v m)))) from heap_setCell_same V b 0 _ _ _ hx)
  have HG := Lib.hid (show W.grownBy (V.setCell ⟨b, 0, none⟩ (.string (bs (l ++ nb v m)))) (some b) from
    ⟨hb.os, hb.tape, hb.output, by have := hb.size; simpa using this, fun k hk hne => (heap_setCell_other V ⟨b, 0, none⟩ k _ (fun e => hne (by rw [e]))).trans (hb.block k hk)⟩)
  clear hb hx hc
  go_wp2_with fail
  go_end0
  exact ⟨rfl, HE.out, HG.out⟩

/-- What is there while a record is laid. -/
structure EnS (W : World) (r : Rc) (sa : Option Addr) (sc : Nat) (b : Nat) (l : List UInt8) (V : World) : Prop where
  box : BoxR W.heap.size r sa sc V
  str : BoxT b l V
  bel : Below W.heap.size W V
  hi : W.heap.size < b
theorem EnS.later {W V X : World} {r : Rc} {sa : Option Addr} {sc b : Nat} {l : List UInt8} (h : EnS W r sa sc b l V) (hb : Below V.heap.size V X) : EnS W r sa sc b l X := ⟨h.box.later hb, h.str.later hb, h.bel.trans (hb.mono h.bel.size), h.hi⟩
theorem EnS.put {W V X : World} {r : Rc} {sa : Option Addr} {sc b : Nat} {l l' : List UInt8} (h : EnS W r sa sc b l V) (hs : BoxT b l' X) (hg : V.grownBy X (some b)) : EnS W r sa sc b l' X :=
  ⟨(hg.block _ (Array.getElem?_eq_some_iff.1 h.box).1 (by have := h.hi; simp; omega)).trans h.box, hs, h.bel.grown hg h.bel.size (fun k hk => by cases hk; exact Nat.le_of_lt h.hi), h.hi⟩
theorem laid_any (W : World) : Calls Tryz.prog 78 #[] W fun e W' => e = .returned (.tuple #[.func (.func 95) #[] #[.pointer (some ⟨W.heap.size, 0, none⟩)], .func (.func 96) #[] #[.pointer (some ⟨W.heap.size, 0, none⟩)]]) ∧ BoxT W.heap.size [] W' ∧ Below W.heap.size W W' := by
  have HE := Lib.hid (show BoxT W.heap.size [] (W.alloc (.cells #[.string (bs [])] 9)) from heap_alloc_new _ _)
  have hbs : (⟨#[]⟩ : ByteArray) = bs [] := rfl
  go_enter Tryz.func78, Tryz.ntmps78
  go_wp2_with fail
  go_ret2
  exact ⟨rfl, HE.out, (Below.refl _ _).alloc (Nat.le_refl _) _⟩
theorem bytes_any (b : Nat) (l : List UInt8) (W : World) (h : BoxT b l W) : Calls Tryz.prog 96 #[.pointer (some ⟨b, 0, none⟩)] W fun e W' => e = .returned (.string (bs l)) ∧ W = W' := by
  have hc := h.cell
  clear h
  go_enter Tryz.func96, Tryz.ntmps96
  go_wp2_with fail
  go_returns
  exact ⟨rfl, rfl⟩

set_option maxRecDepth 100000 in
set_option maxHeartbeats 3200000 in
theorem encode_no (r : Rc) (sa : Option Addr) (sc : Nat) (W : World) (hA : AdjsIn W sa r.adjs) (hl : r.adjs.length ≤ maxLen) (hc : r.chk = false) :
    Calls Tryz.prog 45 #[r.ag sa sc] W fun e W' => e = .returned (.tuple #[.string (bs []), .int .i64 2]) ∧ Below W.heap.size W W' := by
  obtain ⟨W1, hW1⟩ : ∃ W1, W1 = W.alloc (.cells (r.cs sa sc) 25) := ⟨_, rfl⟩
  have hb1 : Below W.heap.size W W1 := by rw [hW1]; exact (Below.refl _ _).alloc (Nat.le_refl _) _
  have HCH := Lib.hid (check_any r sa sc W1 (hA.later hb1) hl)
  have HE := Lib.hid (show r.err = 2 by unfold Rc.err; rw [hc]; rfl)
  have HW1 := Lib.hid hW1
  have HB1 := Lib.hid hb1
  clear hW1 hb1 hA hc
  go_enter Tryz.func45, Tryz.ntmps45
  unfold Rc.ag Rc.cs at *
  go_wp2_with fail
  rw [← HW1.out]
  refine HCH.out.mono ?_
  rintro e V ⟨rfl, hb⟩
  rw [HE.out]
  have HB := Lib.hid (HB1.out.trans (hb.mono HB1.out.size))
  clear hb
  go_wp2_with fail
  go_ret2
  exact ⟨rfl, HB.out⟩

def EncRel (W : World) (r : Rc) (sa : Option Addr) (sc b : Nat) (i : Value) (wr : World) : Prop :=
  ∃ k : Nat, i = .int .i64 k ∧ k ≤ r.adjs.length ∧ EnS W r sa sc b (r.head ++ encA (r.adjs.take k)) wr
set_option maxRecDepth 100000 in
set_option maxHeartbeats 3200000 in
theorem encode_yes (r : Rc) (sa : Option Addr) (sc : Nat) (W : World) (hA : AdjsIn W sa r.adjs) (hl : r.adjs.length ≤ maxLen) (hok : r.ok) (hc : r.chk = true) :
    Calls Tryz.prog 45 #[r.ag sa sc] W fun e W' => e = .returned (.tuple #[.string (bs r.enc), .int .i64 0]) ∧ Below W.heap.size W W' := by
  obtain ⟨W1, hW1⟩ : ∃ W1, W1 = W.alloc (.cells (r.cs sa sc) 25) := ⟨_, rfl⟩
  have hb1 : Below W.heap.size W W1 := by rw [hW1]; exact (Below.refl _ _).alloc (Nat.le_refl _) _
  have hbx : BoxR W.heap.size r sa sc W1 := by rw [hW1]; exact heap_alloc_new _ _
  have HCH := Lib.hid (check_any r sa sc W1 (hA.later hb1) hl)
  have HE := Lib.hid (show r.err = 0 by unfold Rc.err; rw [hc]; rfl)
  have hcc := hc
  simp only [Rc.chk, rtr, Bool.and_eq_true, decide_eq_true_eq] at hcc
  obtain ⟨⟨⟨⟨⟨⟨⟨c1, c2⟩, c3⟩, c4⟩, c5⟩, c6⟩, c7⟩, c8⟩ := hcc
  obtain ⟨_, o1, o2, _⟩ := hok
  have HBD := Lib.hid (chkA_bound _ _ _ c8)
  obtain ⟨o, ho⟩ : ∃ o : Nat, r.org = (o : Int) := ⟨r.org.toNat, by omega⟩
  obtain ⟨c, hcl⟩ : ∃ c : Nat, r.clm = (c : Int) := ⟨r.clm.toNat, by omega⟩
  obtain ⟨n, hn⟩ : ∃ n, n = r.adjs.length := ⟨_, rfl⟩
  obtain ⟨ig, hig⟩ : ∃ ig, r.ing = ig := ⟨_, rfl⟩
  have ho1 : o < 256 := by omega
  have hc1 : c < 65536 := by omega
  have hn1 : n ≤ 16 := by omega
  have hw0 : IntKind.u64.wrap (o : Int) = (o : Int) := IntWalk.u64_in _ (by omega)
  have hw1 : IntKind.u64.wrap (r.ep : Int) = (r.ep : Int) := IntWalk.u64_in _ (by omega)
  have hw2 : IntKind.u64.wrap (r.sq : Int) = (r.sq : Int) := IntWalk.u64_in _ (by omega)
  have hw3 : IntKind.u64.wrap (c : Int) = (c : Int) := IntWalk.u64_in _ (by omega)
  have hw4 : IntKind.u64.wrap (n : Int) = (n : Int) := IntWalk.u64_in _ (by omega)
  have hag : r.ag sa sc = .agg #[.int .i64 o, .int .u32 r.ep, .int .u32 r.sq, .int .i64 c, .bool ig, .slice sa n sc] := by unfold Rc.ag Rc.cs; rw [ho, hcl, hn, hig]
  have hcs : r.cs sa sc = #[.int .i64 o, .int .u32 r.ep, .int .u32 r.sq, .int .i64 c, .bool ig, .slice sa n sc] := by unfold Rc.cs; rw [ho, hcl, hn, hig]
  have HCE := Lib.hid (show ∀ V, BoxR W.heap.size r sa sc V → V.cell? ⟨W.heap.size, 0, none⟩ = some (.int .i64 o) ∧ V.cell? ⟨W.heap.size, 1, none⟩ = some (.int .u32 r.ep) ∧ V.cell? ⟨W.heap.size, 2, none⟩ = some (.int .u32 r.sq) ∧ V.cell? ⟨W.heap.size, 3, none⟩ = some (.int .i64 c) ∧ V.cell? ⟨W.heap.size, 4, none⟩ = some (.bool ig) ∧ V.cell? ⟨W.heap.size, 5, none⟩ = some (.slice sa n sc) from fun V h => by
    have := h.cells
    rw [ho, hcl, ← hn, hig] at this
    exact this)
  have HLE := Lib.hid (show r.head = nb o 1 ++ nb r.ep 4 ++ nb r.sq 4 ++ nb c 2 ++ nb (if ig then 1 else 0) 1 ++ nb n 1 by unfold Rc.head; rw [ho, hcl, ← hn, hig]; rfl)
  have HAD := Lib.hid (fun V (hV : Below W.heap.size W V) => hA.later hV)
  rw [hcs] at hW1
  rw [hag] at HCH ⊢
  have HW1 := Lib.hid hW1
  have HB1 := Lib.hid hb1
  have HBX := Lib.hid hbx
  have HN := Lib.hid hn
  have henp : ∀ args w, (callFunc 95 args).run Tryz.prog w = .ok (.enter 95 args) w := fun _ _ => by kernel_rfl
  have henb : ∀ args w, (callFunc 96 args).run Tryz.prog w = .ok (.enter 96 args) w := fun _ _ => by kernel_rfl
  obtain ⟨x0, x1, x2, x3, x4, x5⟩ := HCE.out _ hbx
  clear hW1 hb1 hA hc hbx ho hcl hn hig hag hcs c1 c2 c3 c4 c5 c6 c7 c8
  go_enter Tryz.func45, Tryz.ntmps45
  go_wp2_with fail
  rw [← HW1.out]
  refine HCH.out.mono ?_
  rintro e V ⟨rfl, hb⟩
  rw [HE.out]
  have HB := Lib.hid (HB1.out.trans (hb.mono HB1.out.size))
  have HBX2 := Lib.hid (HBX.out.later hb)
  clear hb x0 x1 x2 x3 x4 x5
  go_wp2_with fail
  refine (laid_any V).mono ?_
  rintro e V1 ⟨rfl, ht, hb⟩
  have HS1 := Lib.hid (show EnS W r sa sc V.heap.size [] V1 from ⟨HBX2.out.later hb, ht, HB.out.trans (hb.mono HB.out.size), (Array.getElem?_eq_some_iff.1 HBX2.out).1⟩)
  obtain ⟨b, hbb⟩ : ∃ b, b = V.heap.size := ⟨_, rfl⟩
  rw [← hbb] at HS1 ⊢
  clear hbb ht hb
  obtain ⟨x0, x1, x2, x3, x4, x5⟩ := HCE.out _ HS1.out.box
  go_wp2_with fail
  refine (putc_any b _ o 1 V1 HS1.out.str (by omega) (by omega) (by simp [nb_len, encA_len])).mono ?_
  rintro e V2 ⟨rfl, ht, hg⟩
  have HS2 := Lib.hid (HS1.out.put ht hg)
  clear ht hg x0 x1 x2 x3 x4 x5
  obtain ⟨x0, x1, x2, x3, x4, x5⟩ := HCE.out _ HS2.out.box
  go_wp2_with fail
  refine (putc_any b _ r.ep 4 V2 HS2.out.str (by omega) (by omega) (by simp [nb_len, encA_len])).mono ?_
  rintro e V3 ⟨rfl, ht, hg⟩
  have HS3 := Lib.hid (HS2.out.put ht hg)
  clear ht hg x0 x1 x2 x3 x4 x5
  obtain ⟨x0, x1, x2, x3, x4, x5⟩ := HCE.out _ HS3.out.box
  go_wp2_with fail
  refine (putc_any b _ r.sq 4 V3 HS3.out.str (by omega) (by omega) (by simp [nb_len, encA_len])).mono ?_
  rintro e V4 ⟨rfl, ht, hg⟩
  have HS4 := Lib.hid (HS3.out.put ht hg)
  clear ht hg x0 x1 x2 x3 x4 x5
  obtain ⟨x0, x1, x2, x3, x4, x5⟩ := HCE.out _ HS4.out.box
  go_wp2_with fail
  refine (putc_any b _ c 2 V4 HS4.out.str (by omega) (by omega) (by simp [nb_len, encA_len])).mono ?_
  rintro e V5 ⟨rfl, ht, hg⟩
  have HS5 := Lib.hid (HS4.out.put ht hg)
  clear ht hg x0 x1 x2 x3 x4 x5
  obtain ⟨x0, x1, x2, x3, x4, x5⟩ := HCE.out _ HS5.out.box
  cases ig
  all_goals
    go_wp2_with fail
    first
      | refine (putc_any b _ 1 1 V5 HS5.out.str (by omega) (by decide) (by simp [nb_len])).mono ?_
      | refine (putc_any b _ 0 1 V5 HS5.out.str (by omega) (by decide) (by simp [nb_len])).mono ?_
    rintro e V6 ⟨rfl, ht, hg⟩
    have HS6 := Lib.hid (HS5.out.put ht hg)
    clear ht hg x0 x1 x2 x3 x4 x5
    obtain ⟨x0, x1, x2, x3, x4, x5⟩ := HCE.out _ HS6.out.box
    go_wp2_with fail
    refine (putc_any b _ n 1 V6 HS6.out.str (by omega) (by omega) (by simp [nb_len, encA_len])).mono ?_
    rintro e V7 ⟨rfl, ht, hg⟩
    have HS7 := Lib.hid (HS6.out.put ht hg)
    clear ht hg x0 x1 x2 x3 x4 x5
    obtain ⟨x0, x1, x2, x3, x4, x5⟩ := HCE.out _ HS7.out.box
    have HR0 := Lib.hid (show EncRel W r sa sc b (.int .i64 0) V7 from ⟨0, rfl, Nat.zero_le _, by rw [HLE.out, List.take_zero]; have := HS7.out; simpa [encA] using this⟩)
    go_wp2_with fail
    go_loopw [50] (fun i wr => EncRel W r sa sc b i wr) (fun i _ => 17 - (intOf i).toNat)
    case atStart => exact HR0.out
    case round =>
      obtain ⟨k, rfl, hk, hs⟩ := hrel
      rw [← HN.out] at hk
      by_cases hlt : k < n
      · have hkl : k < r.adjs.length := by rw [← HN.out]; exact hlt
        have hlti : (k : Int) < (n : Int) := by omega
        obtain ⟨ad, ha, e0, e1⟩ := HAD.out wr hs.bel k hkl
        obtain ⟨a, hae⟩ : ∃ a, a = r.adjs.getD k default := ⟨_, rfl⟩
        rw [← hae] at e0 e1
        have hmem : a ∈ r.adjs := by rw [hae, List.getD_eq_getElem?_getD, List.getElem?_eq_getElem hkl]; exact List.getElem_mem hkl
        obtain ⟨b1, b2, b3, b4⟩ := HBD.out a hmem
        obtain ⟨to, hto⟩ : ∃ to : Nat, a.1 = (to : Int) := ⟨a.1.toNat, by omega⟩
        obtain ⟨co, hco⟩ : ∃ co : Nat, a.2 = (co : Int) := ⟨a.2.toNat, by omega⟩
        have ht1 : to < 256 := by omega
        have hc2 : co < 65536 := by omega
        have hx0 : IntKind.u64.wrap (to : Int) = (to : Int) := IntWalk.u64_in _ (by omega)
        have hx1 : IntKind.u64.wrap (co : Int) = (co : Int) := IntWalk.u64_in _ (by omega)
        have hen : encA (r.adjs.take (k + 1)) = encA (r.adjs.take k) ++ nb to 1 ++ nb co 2 := by
          rw [List.take_succ_eq_append_getElem hkl]
          rw [List.getD_eq_getElem?_getD, List.getElem?_eq_getElem hkl, Option.getD_some] at hae
          rw [← hae]
          simp [encA, hto, hco]
        rw [hto] at e0
        rw [hco] at e1
        have hll : (encA (r.adjs.take k)).length ≤ 100 := by rw [encA_len, List.length_take]; omega
        have HLL := Lib.hid hll
        have HEN := Lib.hid hen
        have HS := Lib.hid hs
        obtain ⟨x0, x1, x2, x3, x4, x5⟩ := HCE.out _ hs.box
        subst ha
        obtain ⟨X1, hX⟩ : ∃ X1, X1 = wr.alloc (.cells #[.int .i64 to, .int .i64 co] 45) := ⟨_, rfl⟩
        have hbX : Below wr.heap.size wr X1 := by rw [hX]; exact (Below.refl _ _).alloc (Nat.le_refl _) _
        have HY1 := Lib.hid (HS.out.later hbX)
        obtain ⟨q, hq⟩ : ∃ q, q = wr.heap.size := ⟨_, rfl⟩
        have HQA := Lib.hid (show X1.heap[q]? = some (.cells #[.int .i64 to, .int .i64 co] 45 (0, 0)) ∧ q ≠ b from ⟨by rw [hX, hq]; exact heap_alloc_new _ _, by have := (Array.getElem?_eq_some_iff.1 hs.str).1; omega⟩)
        have HX := Lib.hid hX
        have HQ := Lib.hid hq
        clear hs hX hbX hen hto hco hae hmem b1 b2 b3 b4 hkl hll hq
        go_wp2_with fail
        rw [← HX.out, ← HQ.out]
        refine (putc_any b _ to 1 X1 HY1.out.str (by omega) (by omega) (by simp [nb_len, Rc.head_len]; have := HLL.out; omega)).mono ?_
        rintro e X2 ⟨rfl, ht, hg⟩
        have HY2 := Lib.hid (HY1.out.put ht hg)
        have HQ2 := Lib.hid ((hg.block q (Array.getElem?_eq_some_iff.1 HQA.out.1).1 (by have := HQA.out.2; simp; omega)).trans HQA.out.1)
        clear ht hg x0 x1 x2 x3 x4 x5
        have q0 := (cell_of_row _ _ 0 _ _ _ HQ2.out).trans rfl
        have q1 := (cell_of_row _ _ 1 _ _ _ HQ2.out).trans rfl
        obtain ⟨x0, x1, x2, x3, x4, x5⟩ := HCE.out _ HY2.out.box
        go_wp2_with fail
        refine (putc_any b _ co 2 X2 HY2.out.str (by omega) (by omega) (by simp [nb_len, Rc.head_len]; have := HLL.out; omega)).mono ?_
        rintro e X3 ⟨rfl, ht, hg⟩
        have HY3 := Lib.hid (HY2.out.put ht hg)
        clear ht hg x0 x1 x2 x3 x4 x5
        have HR := Lib.hid (show EncRel W r (some ad) sc b (.int .i64 ((k : Int) + 1)) X3 from ⟨k + 1, by go_num, by rw [← HN.out]; omega, by rw [HEN.out]; have := HY3.out; simpa [List.append_assoc] using this⟩)
        obtain ⟨x0, x1, x2, x3, x4, x5⟩ := HCE.out _ HY3.out.box
        go_wp2_with fail
        go_roundw
        case rel => first | exact HR.out | ((repeat apply Exists.intro); exact ⟨HR.out, rfl⟩)
        case measure => simp [intOf]; omega
      · obtain rfl : k = n := by omega
        rw [HN.out, List.take_length] at hs
        have HS := Lib.hid (show EnS W r sa sc b r.enc wr from hs)
        have hcell := hs.str.cell
        clear hs
        go_wp2_with fail
        refine (bytes_any b _ wr HS.out.str).mono ?_
        rintro e w ⟨rfl, rfl⟩
        go_wp2_with fail
        go_ret2
        exact ⟨rfl, HS.out.bel⟩

end Go.Proofs.YtickjmkkgcfkhaaGreat
