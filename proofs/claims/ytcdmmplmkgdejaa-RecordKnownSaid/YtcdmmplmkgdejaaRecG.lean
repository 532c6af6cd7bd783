/- Contracts of the record: the reference's bytes of a record; stamps' bytes. -/
import Derived.Test.YtcdmmplmkgdejaaRecF
set_option linter.unusedSimpArgs false
set_option linter.unusedVariables false
namespace Go.Proofs.Ytcdmmplmkgdejaa
open Go.RowKit Go.ChangeShapes Go.WideShapes

set_option maxRecDepth 100000 in
set_option maxHeartbeats 3200000 in
theorem rencode_no (r : Rc) (sa : Option Addr) (sc : Nat) (W : World) (hA : AdjsIn W sa r.adjs) (hl : r.adjs.length ≤ maxLen) (hc : r.chk = false) :
    Calls Try.prog 17 #[r.ag sa sc] W fun e W' => e = .returned (.tuple #[.string (bs []), .int .i64 2]) ∧ Below W.heap.size W W' := by
  obtain ⟨W1, hW1⟩ : ∃ W1, W1 = W.alloc (.cells (r.cs sa sc) 25) := ⟨_, rfl⟩
  have hb1 : Below W.heap.size W W1 := by rw [hW1]; exact (Below.refl _ _).alloc (Nat.le_refl _) _
  have HCH := Lib.hid (rcheck_any r sa sc W1 (hA.later hb1) hl)
  have HE := Lib.hid (show r.err = 2 by unfold Rc.err; rw [hc]; rfl)
  have HW1 := Lib.hid hW1
  have HB1 := Lib.hid hb1
  clear hW1 hb1 hA hc
  go_enter Try.func17, Try.ntmps17
  unfold Rc.ag Rc.cs at *
  go_wp2_with fail
  rw [← HW1.out]
  refine HCH.out.mono ?_
  rintro e V ⟨rfl, hb⟩
  rw [HE.out]
  have HB := Lib.hid (HB1.out.trans (hb.mono HB1.out.size))
  clear hb
  go_wp2_with fail
  go_ret2
  exact ⟨rfl, HB.out⟩

def REncRel (W : World) (r : Rc) (sa : Option Addr) (sc : Nat) (s i : Value) (wr : World) : Prop :=
  ∃ k : Nat, i = .int .i64 k ∧ s = .string (bs (r.head ++ encA (r.adjs.take k))) ∧ k ≤ r.adjs.length ∧ BoxR W.heap.size r sa sc wr ∧ Below W.heap.size W wr
set_option maxRecDepth 100000 in
set_option maxHeartbeats 3200000 in
theorem rencode_yes (r : Rc) (sa : Option Addr) (sc : Nat) (W : World) (hA : AdjsIn W sa r.adjs) (hl : r.adjs.length ≤ maxLen) (hok : r.ok) (hc : r.chk = true) :
    Calls Try.prog 17 #[r.ag sa sc] W fun e W' => e = .returned (.tuple #[.string (bs r.enc), .int .i64 0]) ∧ Below W.heap.size W W' := by
  obtain ⟨W1, hW1⟩ : ∃ W1, W1 = W.alloc (.cells (r.cs sa sc) 25) := ⟨_, rfl⟩
  have hb1 : Below W.heap.size W W1 := by rw [hW1]; exact (Below.refl _ _).alloc (Nat.le_refl _) _
  have hbx : BoxR W.heap.size r sa sc W1 := by rw [hW1]; exact heap_alloc_new _ _
  have HCH := Lib.hid (rcheck_any r sa sc W1 (hA.later hb1) hl)
  have HE := Lib.hid (show r.err = 0 by unfold Rc.err; rw [hc]; rfl)
  have hcc := hc
  simp only [Rc.chk, rtr, Bool.and_eq_true, decide_eq_true_eq] at hcc
  obtain ⟨⟨⟨⟨⟨⟨⟨c1, c2⟩, c3⟩, c4⟩, c5⟩, c6⟩, c7⟩, c8⟩ := hcc
  obtain ⟨_, o1, o2, _⟩ := hok
  have HBD := Lib.hid (chkA_bound _ _ _ c8)
  obtain ⟨o, ho⟩ : ∃ o : Nat, r.org = (o : Int) := ⟨r.org.toNat, by omega⟩
  obtain ⟨c, hcl⟩ : ∃ c : Nat, r.clm = (c : Int) := ⟨r.clm.toNat, by omega⟩
  obtain ⟨n, hn⟩ : ∃ n, n = r.adjs.length := ⟨_, rfl⟩
  obtain ⟨ig, hig⟩ : ∃ ig, r.ing = ig := ⟨_, rfl⟩
  have ho1 : o < 256 := by omega
  have hc1 : c < 65536 := by omega
  have hn1 : n ≤ 16 := by omega
  have hw0 : IntKind.u64.wrap (o : Int) = (o : Int) := IntWalk.u64_in _ (by omega)
  have hw1 : IntKind.u64.wrap (r.ep : Int) = (r.ep : Int) := IntWalk.u64_in _ (by omega)
  have hw2 : IntKind.u64.wrap (r.sq : Int) = (r.sq : Int) := IntWalk.u64_in _ (by omega)
  have hw3 : IntKind.u64.wrap (c : Int) = (c : Int) := IntWalk.u64_in _ (by omega)
  have hw4 : IntKind.u64.wrap (n : Int) = (n : Int) := IntWalk.u64_in _ (by omega)
  have hag : r.ag sa sc = .agg #[.int .i64 o, .int .u32 r.ep, .int .u32 r.sq, .int .i64 c, .bool ig, .slice sa n sc] := by unfold Rc.ag Rc.cs; rw [ho, hcl, hn, hig]
  have hcs : r.cs sa sc = #[.int .i64 o, .int .u32 r.ep, .int .u32 r.sq, .int .i64 c, .bool ig, .slice sa n sc] := by unfold Rc.cs; rw [ho, hcl, hn, hig]
  have HCE := Lib.hid (show ∀ V, BoxR W.heap.size r sa sc V → V.cell? ⟨W.heap.size, 0, none⟩ = some (.int .i64 o) ∧ V.cell? ⟨W.heap.size, 1, none⟩ = some (.int .u32 r.ep) ∧ V.cell? ⟨W.heap.size, 2, none⟩ = some (.int .u32 r.sq) ∧ V.cell? ⟨W.heap.size, 3, none⟩ = some (.int .i64 c) ∧ V.cell? ⟨W.heap.size, 4, none⟩ = some (.bool ig) ∧ V.cell? ⟨W.heap.size, 5, none⟩ = some (.slice sa n sc) from fun V h => by
    have := h.cells
    rw [ho, hcl, ← hn, hig] at this
    exact this)
  have HLE := Lib.hid (show r.head = nb o 1 ++ nb r.ep 4 ++ nb r.sq 4 ++ nb c 2 ++ nb (if ig then 1 else 0) 1 ++ nb n 1 by unfold Rc.head; rw [ho, hcl, ← hn, hig]; rfl)
  have HAD := Lib.hid (fun V (hV : Below W.heap.size W V) => hA.later hV)
  rw [hcs] at hW1
  rw [hag] at HCH ⊢
  have HW1 := Lib.hid hW1
  have HB1 := Lib.hid hb1
  have HBX := Lib.hid hbx
  have HN := Lib.hid hn
  obtain ⟨x0, x1, x2, x3, x4, x5⟩ := HCE.out _ hbx
  clear hW1 hb1 hA hc hbx ho hcl hn hig hag hcs c1 c2 c3 c4 c5 c6 c7 c8
  go_enter Try.func17, Try.ntmps17
  go_wp2_with fail
  rw [← HW1.out]
  refine HCH.out.mono ?_
  rintro e V ⟨rfl, hb⟩
  rw [HE.out]
  have HB := Lib.hid (HB1.out.trans (hb.mono HB1.out.size))
  have HBX2 := Lib.hid (HBX.out.later hb)
  clear hb x0 x1 x2 x3 x4 x5
  obtain ⟨x0, x1, x2, x3, x4, x5⟩ := HCE.out _ HBX2.out
  obtain ⟨iv, hiv⟩ : ∃ iv : Nat, iv = if ig then 1 else 0 := ⟨_, rfl⟩
  have hiv1 : iv < 256 := by rw [hiv]; split <;> omega
  obtain ⟨vs, hvs⟩ : ∃ vs : List (Nat × Nat), vs = [(o, 1), (r.ep, 4), (r.sq, 4), (c, 2), (iv, 1), (n, 1)] := ⟨_, rfl⟩
  have hvok : pairOk vs := by
    rw [hvs]
    intro x hx
    simp only [List.mem_cons, List.not_mem_nil, or_false] at hx
    rcases hx with rfl | rfl | rfl | rfl | rfl | rfl <;> refine ⟨by simp, ?_⟩ <;> simp only [Nat.reduceMul, Nat.reducePow] <;> omega
  have HPB := Lib.hid (show pairB vs = r.head by rw [HLE.out, hvs, hiv]; simp [pairB, List.append_assoc])
  have HPUT := Lib.hid (show ∀ (g : Nat) (Z : World), Z.heap[g]? = some (.cells #[.int .u64 o, .int .u64 1, .int .u64 r.ep, .int .u64 4, .int .u64 r.sq, .int .u64 4, .int .u64 c, .int .u64 2, .int .u64 iv, .int .u64 1, .int .u64 n, .int .u64 1] 53 (0, 0)) → _ from fun g Z h => puts_any g 12 vs Z (by rw [hvs]; rfl) (by rw [h, hvs]; rfl) hvok (by rw [hvs]; simp))
  clear hvs hvok
  have hii : (ig = false ∧ iv = 0) ∨ (ig = true ∧ iv = 1) := by cases ig <;> simp [hiv]
  clear hiv
  rcases hii with ⟨hi1, hi2⟩ | ⟨hi1, hi2⟩
  all_goals
    subst hi1
    subst hi2
    go_wp2_with fail
    have hal := fun (k : Nat) => heap_alloc_new V (.cells #[.int .u64 o, .int .u64 1, .int .u64 r.ep, .int .u64 4, .int .u64 r.sq, .int .u64 4, .int .u64 c, .int .u64 2, .int .u64 k, .int .u64 1, .int .u64 n, .int .u64 1] 53)
    refine (HPUT.out _ _ (hal _)).mono ?_
    clear hal
    rintro e V1 ⟨rfl, hb⟩
    have hbv : Below V.heap.size V V1 := ((Below.refl V.heap.size V).alloc (Nat.le_refl _) _).trans (hb.mono (by rw [World.size_alloc]; omega))
    rw [HPB.out]
    have HS1 := Lib.hid (And.intro (HBX2.out.later hbv) (HB.out.trans (hbv.mono HB.out.size)))
    clear hb hbv x0 x1 x2 x3 x4 x5
    have HR0 := Lib.hid (show REncRel W r sa sc (.string (bs r.head)) (.int .i64 0) V1 from ⟨0, rfl, by rw [List.take_zero]; simp [encA], Nat.zero_le _, HS1.out.1, HS1.out.2⟩)
    go_wp2_with fail
    go_loopw [5, 6] (fun s i wr => REncRel W r sa sc s i wr) (fun _ i _ => 17 - (intOf i).toNat)
    case atStart => exact HR0.out
    case round =>
      obtain ⟨k, rfl, rfl, hk, hbx, hb⟩ := hrel
      rw [← HN.out] at hk
      by_cases hlt : k < n
      · have hkl : k < r.adjs.length := by rw [← HN.out]; exact hlt
        have hlti : (k : Int) < (n : Int) := by omega
        obtain ⟨ad, ha, e0, e1⟩ := HAD.out wr hb k hkl
        obtain ⟨a, hae⟩ : ∃ a, a = r.adjs.getD k default := ⟨_, rfl⟩
        have hmem : a ∈ r.adjs := by rw [hae, List.getD_eq_getElem?_getD, List.getElem?_eq_getElem hkl]; exact List.getElem_mem hkl
        obtain ⟨b1, b2, b3, b4⟩ := HBD.out a hmem
        obtain ⟨to, hto⟩ : ∃ to : Nat, a.1 = (to : Int) := ⟨a.1.toNat, by omega⟩
        obtain ⟨co, hco⟩ : ∃ co : Nat, a.2 = (co : Int) := ⟨a.2.toNat, by omega⟩
        have ht1 : to < 256 := by omega
        have hc2 : co < 65536 := by omega
        have hx0 : IntKind.u64.wrap (to : Int) = (to : Int) := IntWalk.u64_in _ (by omega)
        have hx1 : IntKind.u64.wrap (co : Int) = (co : Int) := IntWalk.u64_in _ (by omega)
        have HEN := Lib.hid (show encA (r.adjs.take (k + 1)) = encA (r.adjs.take k) ++ pairB [(to, 1), (co, 2)] by
          rw [List.take_succ_eq_append_getElem hkl]
          have hae' := hae
          rw [List.getD_eq_getElem?_getD, List.getElem?_eq_getElem hkl, Option.getD_some] at hae'
          rw [← hae']
          simp [encA, pairB, hto, hco])
        have HCA := Lib.hid (show ∀ V, Below W.heap.size W V → V.cell? (ad.add (k * 2)) = some (.int .i64 to) ∧ V.cell? ⟨(ad.add (k * 2)).block, (ad.add (k * 2)).off + 1, none⟩ = some (.int .i64 co) from fun V hV => by
          obtain ⟨ad', h1, h2, h3⟩ := HAD.out V hV k hkl
          rw [ha] at h1
          simp only [Option.some.injEq] at h1
          subst h1
          rw [← hae, hto] at h2
          rw [← hae, hco] at h3
          exact ⟨h2, h3⟩)
        have hvok2 : pairOk [(to, 1), (co, 2)] := by
          intro x hx
          simp only [List.mem_cons, List.not_mem_nil, or_false] at hx
          rcases hx with rfl | rfl <;> refine ⟨by simp, ?_⟩ <;> simp only [Nat.reduceMul, Nat.reducePow] <;> omega
        have HP2 := Lib.hid (show ∀ (g : Nat) (Z : World), Z.heap[g]? = some (.cells #[.int .u64 to, .int .u64 1, .int .u64 co, .int .u64 2] 53 (0, 0)) → _ from fun g Z h => puts_any g 4 [(to, 1), (co, 2)] Z rfl h hvok2 (by simp))
        have hap := bs_append (r.head ++ encA (r.adjs.take k)) (pairB [(to, 1), (co, 2)])
        have hsz := bs_size
        have hll : (encA (r.adjs.take k)).length ≤ 100 := by rw [encA_len, List.length_take]; omega
        have hpl : (pairB [(to, 1), (co, 2)]).length ≤ 100 := Nat.le_trans (pairB_len _ hvok2) (by simp)
        have hhl := r.head_len
        obtain ⟨pb, hpb⟩ : ∃ pb, pb = pairB [(to, 1), (co, 2)] := ⟨_, rfl⟩
        obtain ⟨pa, hpa⟩ : ∃ pa, pa = r.head ++ encA (r.adjs.take k) := ⟨_, rfl⟩
        have hpal : pa.length ≤ 200 := by rw [hpa, List.length_append]; omega
        rw [← hpb] at hpl HEN hap HP2
        rw [← hpa] at hap ⊢
        have hnl : ¬ 9223372036854775807 < pa.length + pb.length := by omega
        have HPA := Lib.hid hpa
        subst ha
        obtain ⟨U, hU⟩ : ∃ U, U = wr.drew := ⟨_, rfl⟩
        have HS := Lib.hid (show BoxR W.heap.size r (some ad) sc U ∧ Below W.heap.size W U by rw [hU]; exact ⟨hbx, hb.trans ⟨rfl, rfl, rfl, Nat.le_refl _, fun _ _ => rfl⟩⟩)
        obtain ⟨x0, x1, x2, x3, x4, x5⟩ := HCE.out _ hbx
        clear hbx hb e0 e1 hae hmem b1 b2 b3 b4 hto hco hvok2 hkl hll hhl hpb hpa
        go_wp2_with fail
        refine wp_region_ord [(0, true), (1, true), (2, true), (3, true), (4, true), (5, true), (6, true), (7, true), (8, true), (9, true), (10, true), (11, true), (12, true), (13, true), (14, true), (15, false), (16, false), (17, true), (18, true)] (fun V => BoxR W.heap.size r (some ad) sc V ∧ Below W.heap.size W V) (by kernel_rfl) (by kernel_rfl) (by decide) (by kernel_rfl) (fun d _ _ _ _ h => by cases d <;> exact h) (by rw [← hU]; exact HS.out) ?_
        rw [← hU]
        clear hU x0 x1 x2 x3 x4 x5
        iterate 15 ((apply wpOrd_take rfl rfl (by kernel_rfl); (intro V hV; obtain ⟨x0, x1, x2, x3, x4, x5⟩ := HCE.out _ hV.1; obtain ⟨y0, y1⟩ := HCA.out _ hV.2; go_simp; rfl)); (try simp only [List.setIfInBounds_toArray, List.set_cons_succ, List.set_cons_zero]))
        apply wpOrd_do rfl (by kernel_rfl)
        intro K hK
        go_simp
        obtain ⟨Z, hZ⟩ : ∃ Z, Z = U.alloc (.cells #[.int .u64 to, .int .u64 1, .int .u64 co, .int .u64 2] 53) := ⟨_, rfl⟩
        have hbZ : Below U.heap.size U Z := by rw [hZ]; exact (Below.refl _ _).alloc (Nat.le_refl _) _
        have HSZ := Lib.hid (And.intro (HS.out.1.later hbZ) (HS.out.2.trans (hbZ.mono HS.out.2.size)))
        have HPZ := Lib.hid (HP2.out U.heap.size Z (by rw [hZ]; exact heap_alloc_new _ _))
        rw [← hZ]
        refine hK _ _ HSZ.out ?_
        clear hK K hZ hbZ
        apply wpOrd_do rfl (by kernel_rfl)
        intro K hK
        go_simp
        refine HPZ.out.mono ?_
        rintro e V2 ⟨rfl, hb⟩
        have HS2 := Lib.hid (And.intro (HSZ.out.1.later hb) (HSZ.out.2.trans (hb.mono HSZ.out.2.size)))
        refine hK _ _ HS2.out ?_
        clear hK K hb
        iterate 2 ((apply wpOrd_take rfl rfl (by kernel_rfl); (intro V hV; go_simp; rfl)); (try simp only [List.setIfInBounds_toArray, List.set_cons_succ, List.set_cons_zero]))
        refine wpOrd_nil ?_
        have HR := Lib.hid (show REncRel W r (some ad) sc (.string (bs (pa ++ pb))) (.int .i64 ((k : Int) + 1)) V2 from ⟨k + 1, by go_num, by rw [HEN.out, HPA.out, List.append_assoc], by rw [← HN.out]; omega, HS2.out.1, HS2.out.2⟩)
        obtain ⟨x0, x1, x2, x3, x4, x5⟩ := HCE.out _ HS2.out.1
        go_wp2_with fail
        go_roundw
        case rel => first | exact HR.out | ((repeat apply Exists.intro); exact ⟨HR.out, rfl⟩)
        case measure => simp [intOf]; omega
      · obtain rfl : k = n := by omega
        have HEN := Lib.hid (show r.head ++ encA (r.adjs.take k) = r.enc by rw [HN.out, List.take_length]; rfl)
        obtain ⟨x0, x1, x2, x3, x4, x5⟩ := HCE.out _ hbx
        have HB := Lib.hid hb
        clear hbx hb
        go_wp2_with fail
        go_ret2
        exact ⟨by rw [← HEN.out]; rfl, HB.out⟩

end Go.Proofs.Ytcdmmplmkgdejaa
