/- Contracts of header.Encode: its put, how many bits a width has. -/
import Derived.Test.YtickjmkkgcfkhaaGreatHdG
import Derived.Test.YtickjmkkgcfkhaaGreatWireG2
set_option linter.unusedSimpArgs false
set_option linter.unusedVariables false
set_option maxRecDepth 100000
namespace Go.Proofs.YtickjmkkgcfkhaaGreat
open Go.RowKit Go.ChangeShapes Go.WideShapes

theorem hlen_any (x : Nat) (W : World) (hx : x < 18446744073709551616) : Calls Tryz.prog 85 #[.int .u64 x] W fun e W' => e = .returned (.int .i64 (Lib.bitLen x)) ∧ W = W' := by
  have HL := Lib.hid (len64_any (x : Int) W (by omega) (by omega))
  go_enter Tryz.func85, Tryz.ntmps85
  go_wp2_with fail
  refine HL.out.mono ?_
  rintro e V ⟨rfl, rfl⟩
  go_wp2_with fail
  go_returns
  exact ⟨rfl, rfl⟩
theorem bitLen_wid {w : Int} (h : wide w = true) : Lib.bitLen w.toNat = codeN w + 4 := by
  rcases wide_cases h with rfl | rfl | rfl | rfl | rfl | rfl <;> decide +kernel

/-- A string's variable, an error's. -/
def BoxHT (b : Nat) (l : List UInt8) (V : World) : Prop := V.heap[b]? = some (.cells #[.string (bs l)] 9 (0, 0))
def BoxHE (b : Nat) (V : World) : Prop := V.heap[b]? = some (.cells #[.int .i64 0] 39 (0, 0))
theorem BoxHT.later {b : Nat} {l : List UInt8} {V X : World} (h : BoxHT b l V) (hb : Below V.heap.size V X) : BoxHT b l X := (hb.block b (Array.getElem?_eq_some_iff.1 h).1).trans h
theorem BoxHT.cell {b : Nat} {l : List UInt8} {V : World} (h : BoxHT b l V) : V.cell? ⟨b, 0, none⟩ = some (.string (bs l)) := cell_of_row _ _ 0 _ _ _ h
theorem BoxHE.later {b : Nat} {V X : World} (h : BoxHE b V) (hb : Below V.heap.size V X) : BoxHE b X := (hb.block b (Array.getElem?_eq_some_iff.1 h).1).trans h
theorem BoxHE.cell {b : Nat} {V : World} (h : BoxHE b V) : V.cell? ⟨b, 0, none⟩ = some (.int .i64 0) := cell_of_row _ _ 0 _ _ _ h
/-- Two blocks, b and b + 1, may have been laid anew, and new ones are there. -/
structure FrH (b : Nat) (W V : World) : Prop where
  os : V.os = W.os
  tape : V.tape = W.tape
  output : V.output = W.output
  size : W.heap.size ≤ V.heap.size
  block : ∀ k, k < W.heap.size → k ≠ b → k ≠ b + 1 → V.heap[k]? = W.heap[k]?
theorem FrH.bel {b B : Nat} {A W V : World} (h : FrH b W V) (hb : Below B A W) (hB : B ≤ b) (hs : B ≤ W.heap.size) : Below B A V :=
  hb.trans ⟨h.os, h.tape, h.output, h.size, fun k hk => h.block k (by omega) (by omega) (by omega)⟩
theorem FrH.keep {b k : Nat} {W V : World} {o : Obj} (h : FrH b W V) (hk : W.heap[k]? = some o) (h1 : k ≠ b) (h2 : k ≠ b + 1) : V.heap[k]? = some o :=
  (h.block k (Array.getElem?_eq_some_iff.1 hk).1 h1 h2).trans hk

set_option maxHeartbeats 1600000 in
/-- 'put(v, size)'. -/
theorem hput_any (b : Nat) (l : List UInt8) (z : Int) (v m : Nat) (n : Int) (W : World) (h : BoxHT b l W) (he : BoxHE (b + 1) W) (hz : z = (v : Int)) (hn : n = (m : Int)) (hm : m = 1 ∨ m = 2 ∨ m = 4 ∨ m = 8) (hv : v < 2 ^ (8 * m)) (hl : l.length ≤ 1000) :
    Calls Tryz.prog 83 #[.int .u64 z, .int .i64 n, .pointer (some ⟨b, 0, none⟩), .pointer (some ⟨b + 1, 0, none⟩)] W fun e W' => e = .returned (.tuple #[]) ∧ BoxHT b (l ++ nb v m) W' ∧ BoxHE (b + 1) W' ∧ FrH b W W' := by
  subst hz
  subst hn
  have hc := h.cell
  have HP := Lib.hid (put_yes (bs l) v m W hm hv (by rw [bs_size]; omega))
  have HH := Lib.hid h
  have HHE := Lib.hid he
  clear h hv hm he
  go_enter Tryz.func83, Tryz.ntmps83
  go_wp2_with fail
  refine HP.out.mono ?_
  rintro e V ⟨rfl, hb⟩
  have hx := HH.out.later hb
  have hxe := HHE.out.later hb
  have hcv := hx.cell
  have hce := hxe.cell
  have hf := frozen_of_row _ _ 0 _ _ hx
  have hfe := frozen_of_row _ _ 0 _ _ hxe
  obtain ⟨X, hX⟩ : ∃ X, X = (V.setCell ⟨b, 0, none⟩ (.string (bs (l ++ nb v m)))).setCell ⟨b + 1, 0, none⟩ (.int .i64 0) := ⟨_, rfl⟩
  have HE := Lib.hid (show BoxHT b (l ++ nb v m) X from by
    rw [hX]
    exact (heap_setCell_other _ _ _ _ (by simp only; omega)).trans (heap_setCell_same V b 0 _ _ _ hx))
  have HF := Lib.hid (show BoxHE (b + 1) X from by
    rw [hX]
    exact heap_setCell_same _ (b + 1) 0 _ _ _ ((heap_setCell_other _ _ _ _ (by simp only; omega)).trans hxe))
  have HG := Lib.hid (show FrH b W X from by
    rw [hX]
    exact ⟨hb.os, hb.tape, hb.output, by have := hb.size; simpa using this, fun k hk h1 h2 => ((heap_setCell_other _ _ _ _ (fun e => h2 (by rw [e]))).trans (heap_setCell_other V ⟨b, 0, none⟩ k _ (fun e => h1 (by rw [e])))).trans (hb.block k hk)⟩)
  have HX := Lib.hid hX
  clear hb hx hxe hX hc
  go_wp2_with fail
  go_end0
  have hx2 : X = (V.setCell ⟨b, 0, none⟩ (.string (bs (l ++ beL v m m)))).setCell ⟨b + 1, 0, none⟩ (.int .i64 0) := HX.out
  rw [← hx2]
  exact ⟨rfl, HE.out, HF.out, HG.out⟩

/-- What is there while a header is laid. -/
structure EhS (W : World) (h : Hd) (b : Nat) (l : List UInt8) (V : World) : Prop where
  box : BoxH W.heap.size h V
  str : BoxHT b l V
  err : BoxHE (b + 1) V
  bel : Below W.heap.size W V
  hi : W.heap.size < b
theorem EhS.put {W V X : World} {h : Hd} {b : Nat} {l l' : List UInt8} (x : EhS W h b l V) (hs : BoxHT b l' X) (he : BoxHE (b + 1) X) (hf : FrH b V X) : EhS W h b l' X :=
  ⟨hf.keep x.box (by have := x.hi; omega) (by have := x.hi; omega), hs, he, hf.bel x.bel (by have := x.hi; omega) x.bel.size, x.hi⟩
theorem EhS.later {W V X : World} {h : Hd} {b : Nat} {l : List UInt8} (x : EhS W h b l V) (hb : Below V.heap.size V X) : EhS W h b l X := ⟨x.box.later hb, x.str.later hb, x.err.later hb, x.bel.trans (hb.mono x.bel.size), x.hi⟩

set_option maxRecDepth 100000 in
set_option maxHeartbeats 3200000 in
theorem hencode_no (h : Hd) (W : World) (hk : h.ok) (hc : h.chk = false) :
    Calls Tryz.prog 56 #[h.ag] W fun e W' => e = .returned (.tuple #[.string (bs []), .int .i64 2]) ∧ Below W.heap.size W W' := by
  obtain ⟨W1, hW1⟩ : ∃ W1, W1 = W.alloc (.cells h.cs 32) := ⟨_, rfl⟩
  have hb1 : Below W.heap.size W W1 := by rw [hW1]; exact (Below.refl _ _).alloc (Nat.le_refl _) _
  have hbx : BoxH W.heap.size h W1 := by rw [hW1]; exact heap_alloc_new _ _
  have HCH := Lib.hid (hcheck_any h W1 hk)
  have HE := Lib.hid (show h.err = 2 by unfold Hd.err; rw [hc]; rfl)
  have HW1 := Lib.hid hW1
  have HB1 := Lib.hid hb1
  obtain ⟨x0, x1, x2, x3, x4, x5, x6, x7, x8, x9, x10⟩ := hbx.cells
  clear hW1 hb1 hc hbx
  go_enter Tryz.func56, Tryz.ntmps56
  unfold Hd.ag Hd.cs at *
  go_wp2_with fail
  rw [← HW1.out]
  refine HCH.out.mono ?_
  rintro e V ⟨rfl, hb⟩
  rw [HE.out]
  have HB := Lib.hid (HB1.out.trans (hb.mono HB1.out.size))
  clear hb
  go_wp2_with fail
  go_ret2
  exact ⟨rfl, HB.out⟩
set_option maxRecDepth 100000 in
set_option maxHeartbeats 6400000 in
theorem hencode_yes (h : Hd) (W : World) (hk : h.ok) (hc : h.chk = true) :
    Calls Tryz.prog 56 #[h.ag] W fun e W' => e = .returned (.tuple #[.string h.enc, .int .i64 0]) ∧ Below W.heap.size W W' := by
  obtain ⟨W1, hW1⟩ : ∃ W1, W1 = W.alloc (.cells h.cs 32) := ⟨_, rfl⟩
  have hb1 : Below W.heap.size W W1 := by rw [hW1]; exact (Below.refl _ _).alloc (Nat.le_refl _) _
  have hbx : BoxH W.heap.size h W1 := by rw [hW1]; exact heap_alloc_new _ _
  have HCH := Lib.hid (hcheck_any h W1 hk)
  have HE := Lib.hid (show h.err = 0 by unfold Hd.err; rw [hc]; rfl)
  obtain ⟨c1, c2, c3, c4, c5, c6⟩ := Hd.chk_is hc
  obtain ⟨k1, k2, k3, k4, k5, k6, k7, k8⟩ := hk
  have hbl := bitLen_wid c1
  obtain ⟨w1, w2, w3⟩ := codeN_wid c1
  have hwr := wide_cases c1
  obtain ⟨wid, set, ent, hops, src, grp, id, bits⟩ := h
  simp only at *
  obtain ⟨w, rfl⟩ : ∃ w : Nat, wid = (w : Int) := ⟨wid.toNat, by omega⟩
  obtain ⟨st, rfl⟩ : ∃ w : Nat, set = (w : Int) := ⟨set.toNat, by omega⟩
  obtain ⟨hp, rfl⟩ : ∃ w : Nat, hops = (w : Int) := ⟨hops.toNat, by omega⟩
  obtain ⟨sr, rfl⟩ : ∃ w : Nat, src = (w : Int) := ⟨src.toNat, by omega⟩
  obtain ⟨gp, rfl⟩ : ∃ w : Nat, grp = (w : Int) := ⟨grp.toNat, by omega⟩
  obtain ⟨c, hcc⟩ : ∃ c, c = codeN (w : Int) := ⟨_, rfl⟩
  rw [Int.toNat_natCast, ← hcc] at hbl
  obtain ⟨m, hm⟩ : ∃ m, m = w / 8 := ⟨_, rfl⟩
  have hm8 : (w : Int) = 8 * (m : Int) := by omega
  have hmm : 0 < m ∧ m ≤ 32 := by omega
  have hc5 : c ≤ 5 := by omega
  have hw0 : IntKind.u64.wrap (w : Int) = (w : Int) := IntWalk.u64_in _ (by omega)
  have hw1 : IntKind.u64.wrap (st : Int) = (st : Int) := IntWalk.u64_in _ (by omega)
  have hw2 : IntKind.u64.wrap (ent : Int) = (ent : Int) := IntWalk.u64_in _ (by omega)
  have hw3 : IntKind.u64.wrap (hp : Int) = (hp : Int) := IntWalk.u64_in _ (by omega)
  have hw4 : IntKind.u64.wrap (sr : Int) = (sr : Int) := IntWalk.u64_in _ (by omega)
  have hw5 : IntKind.u64.wrap (gp : Int) = (gp : Int) := IntWalk.u64_in _ (by omega)
  have hw6 : IntKind.u64.wrap (id : Int) = (id : Int) := IntWalk.u64_in _ (by omega)
  have HBY := Lib.hid (fun V => bbytes_any bits m V k8 hmm.1 hmm.2 (by rw [← hm8]; exact c6))
  have HLN := Lib.hid (fun V => hlen_any w V (by omega))
  have HBLN := Lib.hid hbl
  have HEN := Lib.hid (show Hd.enc ⟨(w : Int), (st : Int), ent, (hp : Int), (sr : Int), (gp : Int), id, bits⟩ = sealB (bs (nb (16 + c) 1 ++ nb st 1 ++ nb ent 4 ++ nb hp 1 ++ nb sr 1 ++ nb gp 1 ++ nb id 4 ++ leB bits.num m)) by
    unfold Hd.enc Hd.body
    simp only [Int.toNat_natCast]
    rw [← hcc, ← hm])
  have HW1 := Lib.hid hW1
  have HB1 := Lib.hid hb1
  have HBX := Lib.hid hbx
  have HM8 := Lib.hid hm8
  have hst : st < 256 := by omega
  have hhp : hp < 256 := by omega
  have hsr : sr < 256 := by omega
  have hgp : gp < 256 := by omega
  obtain ⟨x0, x1, x2, x3, x4, x5, x6, x7, x8, x9, x10⟩ := hbx.cells
  simp only at x0 x1 x2 x3 x4 x5 x6 x7 x8 x9 x10
  have hen : ∀ args w, (callFunc 83 args).run Tryz.prog w = .ok (.enter 83 args) w := fun _ _ => by kernel_rfl
  clear hW1 hb1 hbx c1 c2 c3 c4 c5 c6 hbl w1 w2 w3 hwr hcc hm hm8 k1 k2 k4 k5 k6
  go_enter Tryz.func56, Tryz.ntmps56
  unfold Hd.ag Hd.cs at *
  simp only at *
  go_wp2_with fail
  rw [← HW1.out]
  refine HCH.out.mono ?_
  rintro e V ⟨rfl, hb⟩
  rw [HE.out]
  have HB := Lib.hid (HB1.out.trans (hb.mono HB1.out.size))
  have HBX2 := Lib.hid (HBX.out.later hb)
  clear hb x0 x1 x2 x3 x4 x5 x6 x7 x8 x9 x10
  obtain ⟨V0, hV0⟩ : ∃ V0, V0 = (V.alloc (.cells #[.string (bs [])] 9)).alloc (.cells #[.int .i64 0] 39) := ⟨_, rfl⟩
  obtain ⟨b, hb⟩ : ∃ b, b = V.heap.size := ⟨_, rfl⟩
  have hbV : Below V.heap.size V V0 := by rw [hV0]; exact ((Below.refl _ _).alloc (Nat.le_refl _) _).alloc (by rw [World.size_alloc]; omega) _
  have HS0 := Lib.hid (show EhS W ⟨(w : Int), (st : Int), ent, (hp : Int), (sr : Int), (gp : Int), id, bits⟩ b [] V0 from ⟨HBX2.out.later hbV, by rw [hV0, hb]; exact heap_alloc2_old _ _ _, by rw [hV0, hb]; exact heap_alloc2_new _ _ _, HB.out.trans (hbV.mono HB.out.size), by
    have h1 := HBX2.out
    rw [hb]; exact (Array.getElem?_eq_some_iff.1 h1).1⟩)
  obtain ⟨x0, x1, x2, x3, x4, x5, x6, x7, x8, x9, x10⟩ := BoxH.cells HS0.out.box
  simp only at x0 x1 x2 x3 x4 x5 x6 x7 x8 x9 x10
  rw [hV0] at x0 x1 x2 x3 x4 x5 x6 x7 x8 x9 x10
  have HV0 := Lib.hid hV0
  have HBQ := Lib.hid hb
  have hbs : (⟨#[]⟩ : ByteArray) = bs [] := rfl
  clear hV0 hb hbV
  go_wp2_with fail
  rw [← HV0.out, ← HBQ.out]
  refine (HLN.out _).mono ?_
  rintro e V ⟨rfl, rfl⟩
  rw [HBLN.out]
  go_wp2_with fail
  refine (hput_any b _ _ (16 + c) 1 _ _ HS0.out.str HS0.out.err (by omega) (by omega) (by omega) (show 16 + c < 2 ^ (8 * 1) by omega) (by simp [nb_len])).mono ?_
  rintro e V1 ⟨rfl, hs, he, hf⟩
  have HS1 := Lib.hid (HS0.out.put hs he hf)
  clear hs he hf x0 x1 x2 x3 x4 x5 x6 x7 x8 x9 x10
  obtain ⟨x0, x1, x2, x3, x4, x5, x6, x7, x8, x9, x10⟩ := BoxH.cells HS1.out.box
  simp only at x0 x1 x2 x3 x4 x5 x6 x7 x8 x9 x10
  go_wp2_with fail
  refine (hput_any b _ _ (st) 1 _ _ HS1.out.str HS1.out.err (by omega) (by omega) (by omega) (show st < 2 ^ (8 * 1) by omega) (by simp [nb_len])).mono ?_
  rintro e V2 ⟨rfl, hs, he, hf⟩
  have HS2 := Lib.hid (HS1.out.put hs he hf)
  clear hs he hf x0 x1 x2 x3 x4 x5 x6 x7 x8 x9 x10
  obtain ⟨x0, x1, x2, x3, x4, x5, x6, x7, x8, x9, x10⟩ := BoxH.cells HS2.out.box
  simp only at x0 x1 x2 x3 x4 x5 x6 x7 x8 x9 x10
  go_wp2_with fail
  refine (hput_any b _ _ (ent) 4 _ _ HS2.out.str HS2.out.err (by omega) (by omega) (by omega) (show ent < 2 ^ (8 * 4) by omega) (by simp [nb_len])).mono ?_
  rintro e V3 ⟨rfl, hs, he, hf⟩
  have HS3 := Lib.hid (HS2.out.put hs he hf)
  clear hs he hf x0 x1 x2 x3 x4 x5 x6 x7 x8 x9 x10
  obtain ⟨x0, x1, x2, x3, x4, x5, x6, x7, x8, x9, x10⟩ := BoxH.cells HS3.out.box
  simp only at x0 x1 x2 x3 x4 x5 x6 x7 x8 x9 x10
  go_wp2_with fail
  refine (hput_any b _ _ (hp) 1 _ _ HS3.out.str HS3.out.err (by omega) (by omega) (by omega) (show hp < 2 ^ (8 * 1) by omega) (by simp [nb_len])).mono ?_
  rintro e V4 ⟨rfl, hs, he, hf⟩
  have HS4 := Lib.hid (HS3.out.put hs he hf)
  clear hs he hf x0 x1 x2 x3 x4 x5 x6 x7 x8 x9 x10
  obtain ⟨x0, x1, x2, x3, x4, x5, x6, x7, x8, x9, x10⟩ := BoxH.cells HS4.out.box
  simp only at x0 x1 x2 x3 x4 x5 x6 x7 x8 x9 x10
  go_wp2_with fail
  refine (hput_any b _ _ (sr) 1 _ _ HS4.out.str HS4.out.err (by omega) (by omega) (by omega) (show sr < 2 ^ (8 * 1) by omega) (by simp [nb_len])).mono ?_
  rintro e V5 ⟨rfl, hs, he, hf⟩
  have HS5 := Lib.hid (HS4.out.put hs he hf)
  clear hs he hf x0 x1 x2 x3 x4 x5 x6 x7 x8 x9 x10
  obtain ⟨x0, x1, x2, x3, x4, x5, x6, x7, x8, x9, x10⟩ := BoxH.cells HS5.out.box
  simp only at x0 x1 x2 x3 x4 x5 x6 x7 x8 x9 x10
  go_wp2_with fail
  refine (hput_any b _ _ (gp) 1 _ _ HS5.out.str HS5.out.err (by omega) (by omega) (by omega) (show gp < 2 ^ (8 * 1) by omega) (by simp [nb_len])).mono ?_
  rintro e V6 ⟨rfl, hs, he, hf⟩
  have HS6 := Lib.hid (HS5.out.put hs he hf)
  clear hs he hf x0 x1 x2 x3 x4 x5 x6 x7 x8 x9 x10
  obtain ⟨x0, x1, x2, x3, x4, x5, x6, x7, x8, x9, x10⟩ := BoxH.cells HS6.out.box
  simp only at x0 x1 x2 x3 x4 x5 x6 x7 x8 x9 x10
  go_wp2_with fail
  refine (hput_any b _ _ (id) 4 _ _ HS6.out.str HS6.out.err (by omega) (by omega) (by omega) (show id < 2 ^ (8 * 4) by omega) (by simp [nb_len])).mono ?_
  rintro e V7 ⟨rfl, hs, he, hf⟩
  have HS7 := Lib.hid (HS6.out.put hs he hf)
  clear hs he hf x0 x1 x2 x3 x4 x5 x6 x7 x8 x9 x10
  obtain ⟨x0, x1, x2, x3, x4, x5, x6, x7, x8, x9, x10⟩ := BoxH.cells HS7.out.box
  simp only at x0 x1 x2 x3 x4 x5 x6 x7 x8 x9 x10
  rw [HM8.out] at x0
  go_wp2_with fail
  refine (HBY.out _).mono ?_
  rintro e V8 ⟨rfl, hb⟩
  have HS8 := Lib.hid (HS7.out.later hb)
  clear hb x0 x1 x2 x3 x4 x5 x6 x7 x8 x9 x10
  obtain ⟨L, hL⟩ : ∃ L, L = [] ++ nb (16 + c) 1 ++ nb st 1 ++ nb ent 4 ++ nb hp 1 ++ nb sr 1 ++ nb gp 1 ++ nb id 4 := ⟨_, rfl⟩
  rw [← hL] at HS8
  have hLl : L.length = 13 := by rw [hL]; simp [nb_len]
  have hMl : (leB bits.num m).length = m := leB_len _ _
  have hce := HS8.out.err.cell
  have hcs := HS8.out.str.cell
  have hfe : V8.frozen? ⟨b + 1, 0, none⟩ = false := frozen_of_row _ _ 0 _ _ HS8.out.err
  have hsz : ¬ 9223372036854775807 < (bs L).size + (bs (leB bits.num m)).size := by
    rw [bs_size, bs_size]; omega
  have HL := Lib.hid hL
  have HLL := Lib.hid hLl
  have HML := Lib.hid hMl
  clear hL hLl hMl
  go_wp2_with fail
  obtain ⟨V9, hV9⟩ : ∃ V9, V9 = V8.setCell ⟨b + 1, 0, none⟩ (.int .i64 0) := ⟨_, rfl⟩
  have HB9 := Lib.hid (show Below W.heap.size W V9 by rw [hV9]; exact HS8.out.bel.setCell (by have := HS8.out.hi; simp only; omega) _)
  rw [← hV9]
  clear hV9 hce hcs hfe
  refine (seal_any _ V9 (by rw [bs_append, bs_size, List.length_append, HLL.out, HML.out]; omega)).mono ?_
  rintro e VA ⟨rfl, hb⟩
  have HBA := Lib.hid (HB9.out.trans (hb.mono HB9.out.size))
  clear hb
  go_wp2_with fail
  go_ret2
  refine ⟨?_, HBA.out⟩
  rw [HEN.out, bs_append, HL.out]
  rfl
theorem hencode_any (h : Hd) (W : World) (hk : h.ok) :
    Calls Tryz.prog 56 #[h.ag] W fun e W' => e = .returned (.tuple #[.string h.encS, .int .i64 h.err]) ∧ Below W.heap.size W W' := by
  unfold Hd.encS Hd.err
  by_cases hc : h.chk = true
  · rw [if_pos hc, if_pos hc]; exact hencode_yes h W hk hc
  · rw [if_neg hc, if_neg hc]; exact hencode_no h W hk (by simpa using hc)

end Go.Proofs.YtickjmkkgcfkhaaGreat
