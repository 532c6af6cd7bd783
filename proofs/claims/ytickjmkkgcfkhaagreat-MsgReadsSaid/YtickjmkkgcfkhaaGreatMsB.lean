/- The message as a value, in a box; its router, its way; which parts are there. (Printed by mkmsb.py.) -/
import Derived.Test.YtickjmkkgcfkhaaGreatMsA
import Derived.Test.YtickjmkkgcfkhaaGreatMsP
import Derived.Test.YtickjmkkgcfkhaaGreatHdC
import Derived.Deep.DeepCutAuto
set_option linter.unusedSimpArgs false
set_option linter.unusedVariables false
set_option maxRecDepth 100000
set_option maxRecDepth 100000
namespace Go.Proofs.YtickjmkkgcfkhaaGreat
open Go.RowKit Go.ChangeShapes Go.WideShapes

def Ms.cs (m : Ms) (sa : Option Addr) (sc : Nat) : Array Value := #[.int .i64 m.kd, .int .i64 m.rc.org, .int .u32 m.rc.ep, .int .u32 m.rc.sq, .int .i64 m.rc.clm, .bool m.rc.ing, .slice sa m.rc.adjs.length sc, .int .i64 m.st.org, .int .u32 m.st.ep, .int .u32 m.st.sq, .int .i64 m.hd.wid, .int .i64 m.hd.set, .int .u32 m.hd.ent, .int .i64 m.hd.hops, .int .i64 m.hd.src, .int .i64 m.hd.grp, .int .u32 m.hd.id, .int .u64 m.hd.bits.a, .int .u64 m.hd.bits.b, .int .u64 m.hd.bits.c, .int .u64 m.hd.bits.d, .int .i64 m.dst, .int .i64 m.hops, .int .i64 m.wi.frm, .int .u32 m.wi.ep, .int .u32 m.wi.ver, .int .u8 m.wi.grp, .int .i64 m.ak.frm, .int .u32 m.ak.ep, .int .i64 m.ak.dst, .int .u32 m.ak.lif, .int .u32 m.ak.ver]
def Ms.ag (m : Ms) (sa : Option Addr) (sc : Nat) : Value := .agg (m.cs sa sc)
def BoxM (b : Nat) (m : Ms) (sa : Option Addr) (sc : Nat) (V : World) : Prop := V.heap[b]? = some (.cells (m.cs sa sc) 38 (0, 0))
theorem BoxM.later {b : Nat} {m : Ms} {sa : Option Addr} {sc : Nat} {V X : World} (h : BoxM b m sa sc V) (hb : Below V.heap.size V X) : BoxM b m sa sc X := (hb.block b (Array.getElem?_eq_some_iff.1 h).1).trans h
theorem BoxM.cell {b : Nat} {m : Ms} {sa : Option Addr} {sc : Nat} {V : World} (h : BoxM b m sa sc V) {i : Nat} {u : Value} (hu : (m.cs sa sc)[i]? = some u) : V.cell? ⟨b, i, none⟩ = some u := (cell_of_row _ _ i _ _ _ h).trans hu

theorem mrtr_any (n : Int) (W : World) : Calls Tryz.prog 61 #[.int .i64 n] W fun e W' => e = .returned (.bool (rtr n)) ∧ W = W' := by
  by_cases h1 : 1 ≤ n
  · have e : rtr n = decide (n ≤ 24) := by unfold rtr; rw [decide_eq_true h1, Bool.true_and]
    have h1' : decide (1 ≤ n) = true := decide_eq_true h1
    have HE := Lib.hid e
    clear e
    go_enter Tryz.func61, Tryz.ntmps61
    go_wp2_with fail
    go_returns
    exact ⟨by rw [HE.out]; rfl, rfl⟩
  · have e : rtr n = false := by unfold rtr; rw [decide_eq_false h1, Bool.false_and]
    have h1' : decide (1 ≤ n) = false := decide_eq_false h1
    have HE := Lib.hid e
    clear e
    go_enter Tryz.func61, Tryz.ntmps61
    go_wp2_with fail
    go_returns
    exact ⟨by rw [HE.out]; rfl, rfl⟩

theorem way_cases (m : Ms) : (rtr m.dst = false ∧ m.way = false) ∨ (rtr m.dst = true ∧ m.hops < 0 ∧ m.way = false) ∨ (rtr m.dst = true ∧ 0 ≤ m.hops ∧ m.way = decide (m.hops ≤ 24)) := by
  unfold Ms.way
  cases rtr m.dst
  · simp
  · by_cases h : 0 ≤ m.hops
    · simp [h]
    · simp [h]; omega
set_option maxHeartbeats 1600000 in
theorem way_any (m : Ms) (sa : Option Addr) (sc : Nat) (W : World) : Calls Tryz.prog 60 #[m.ag sa sc] W fun e W' => e = .returned (.bool m.way) ∧ Below W.heap.size W W' := by
  obtain ⟨W1, hW1⟩ : ∃ W1, W1 = W.alloc (.cells (m.cs sa sc) 38) := ⟨_, rfl⟩
  have hb1 : Below W.heap.size W W1 := by rw [hW1]; exact (Below.refl _ _).alloc (Nat.le_refl _) _
  have hbx : BoxM W.heap.size m sa sc W1 := by rw [hW1]; exact heap_alloc_new _ _
  have x21 := hbx.cell (i := 21) rfl
  have x22 := hbx.cell (i := 22) rfl
  have HW1 := Lib.hid hW1
  have HB1 := Lib.hid hb1
  have HR := Lib.hid (fun V => mrtr_any m.dst V)
  have hc := way_cases m
  clear hW1 hb1 hbx
  rcases hc with ⟨h1, he⟩ | ⟨h1, h2, he⟩ | ⟨h1, h2, he⟩
  · have H1 := Lib.hid h1
    have HE := Lib.hid he
    clear h1 he
    go_enter Tryz.func60, Tryz.ntmps60
    unfold Ms.ag Ms.cs at *
    go_wp2_with fail
    rw [← HW1.out]
    refine (HR.out _).mono ?_
    rintro e w ⟨rfl, rfl⟩
    rw [H1.out]
    go_wp2_with fail
    go_returns
    exact ⟨by rw [HE.out]; rfl, HB1.out⟩
  · have H1 := Lib.hid h1
    have HE := Lib.hid he
    have d2 : decide (0 ≤ m.hops) = false := decide_eq_false (by omega)
    clear h1 he
    go_enter Tryz.func60, Tryz.ntmps60
    unfold Ms.ag Ms.cs at *
    go_wp2_with fail
    rw [← HW1.out]
    refine (HR.out _).mono ?_
    rintro e w ⟨rfl, rfl⟩
    rw [H1.out]
    go_wp2_with fail
    go_returns
    exact ⟨by rw [HE.out]; rfl, HB1.out⟩
  · have H1 := Lib.hid h1
    have HE := Lib.hid he
    have d2 : decide (0 ≤ m.hops) = true := decide_eq_true h2
    clear h1 he
    go_enter Tryz.func60, Tryz.ntmps60
    unfold Ms.ag Ms.cs at *
    go_wp2_with fail
    rw [← HW1.out]
    refine (HR.out _).mono ?_
    rintro e w ⟨rfl, rfl⟩
    rw [H1.out]
    go_wp2_with fail
    go_returns
    exact ⟨by rw [HE.out]; rfl, HB1.out⟩

theorem zr_cases (m : Ms) : (m.rc.org ≠ 0 ∧ m.zr = false) ∨ (m.rc.org = 0 ∧ m.rc.ep ≠ 0 ∧ m.zr = false) ∨ (m.rc.org = 0 ∧ m.rc.ep = 0 ∧ m.rc.sq ≠ 0 ∧ m.zr = false) ∨ (m.rc.org = 0 ∧ m.rc.ep = 0 ∧ m.rc.sq = 0 ∧ m.rc.clm ≠ 0 ∧ m.zr = false) ∨
    (m.rc.org = 0 ∧ m.rc.ep = 0 ∧ m.rc.sq = 0 ∧ m.rc.clm = 0 ∧ m.rc.ing = true ∧ m.zr = false) ∨ (m.rc.org = 0 ∧ m.rc.ep = 0 ∧ m.rc.sq = 0 ∧ m.rc.clm = 0 ∧ m.rc.ing = false ∧ (m.zr = true → m.rc.adjs.length = 0) ∧ (m.zr = false → m.rc.adjs.length ≠ 0)) := by
  unfold Ms.zr Rc.nul
  by_cases h1 : m.rc.org = 0
  · by_cases h2 : m.rc.ep = 0
    · by_cases h3 : m.rc.sq = 0
      · by_cases h4 : m.rc.clm = 0
        · cases h5 : m.rc.ing
          · right; right; right; right; right
            refine ⟨h1, h2, h3, h4, rfl, fun h => ?_, fun h => ?_⟩
            · simp [h1, h2, h3, h4] at h; simp [h]
            · simp [h1, h2, h3, h4] at h; simp [h]
          · simp [h1, h2, h3, h4]
        · simp [h1, h2, h3, h4]
      · simp [h1, h2, h3]
    · simp [h1, h2]
  · simp [h1]
set_option maxHeartbeats 3200000 in
theorem there_any (m : Ms) (sa : Option Addr) (sc : Nat) (W : World) (hm : m.ok) : Calls Tryz.prog 25 #[m.ag sa sc] W fun e W' => e = .returned (.int .i64 (m.tn : Nat)) ∧ Below W.heap.size W W' := by
  obtain ⟨W1, hW1⟩ : ∃ W1, W1 = W.alloc (.cells (m.cs sa sc) 38) := ⟨_, rfl⟩
  obtain ⟨W2, hW2⟩ : ∃ W2, W2 = W1.alloc (.cells (m.rc.cs sa sc) 25) := ⟨_, rfl⟩
  have hb1 : Below W.heap.size W W1 := by rw [hW1]; exact (Below.refl _ _).alloc (Nat.le_refl _) _
  have hb2 : Below W.heap.size W W2 := by rw [hW2]; exact hb1.alloc hb1.size _
  have hbx1 : BoxM W.heap.size m sa sc W1 := by rw [hW1]; exact heap_alloc_new _ _
  have hbx : BoxM W.heap.size m sa sc W2 := hbx1.later (by rw [hW2]; exact (Below.refl _ _).alloc (Nat.le_refl _) _)
  have hs1 : W1.heap.size = W.heap.size + 1 := by rw [hW1, World.size_alloc]
  have hbr : BoxR (W.heap.size + 1) m.rc sa sc W2 := by rw [hW2, ← hs1]; exact heap_alloc_new _ _
  obtain ⟨y0, y1, y2, y3, y4, y5⟩ := hbr.cells
  have x7 := hbx.cell (i := 7) rfl
  have x8 := hbx.cell (i := 8) rfl
  have x9 := hbx.cell (i := 9) rfl
  have x10 := hbx.cell (i := 10) rfl
  have x11 := hbx.cell (i := 11) rfl
  have x12 := hbx.cell (i := 12) rfl
  have x13 := hbx.cell (i := 13) rfl
  have x14 := hbx.cell (i := 14) rfl
  have x15 := hbx.cell (i := 15) rfl
  have x16 := hbx.cell (i := 16) rfl
  have x17 := hbx.cell (i := 17) rfl
  have x18 := hbx.cell (i := 18) rfl
  have x19 := hbx.cell (i := 19) rfl
  have x20 := hbx.cell (i := 20) rfl
  have x21 := hbx.cell (i := 21) rfl
  have x22 := hbx.cell (i := 22) rfl
  have x23 := hbx.cell (i := 23) rfl
  have x24 := hbx.cell (i := 24) rfl
  have x25 := hbx.cell (i := 25) rfl
  have x26 := hbx.cell (i := 26) rfl
  have x27 := hbx.cell (i := 27) rfl
  have x28 := hbx.cell (i := 28) rfl
  have x29 := hbx.cell (i := 29) rfl
  have x30 := hbx.cell (i := 30) rfl
  have x31 := hbx.cell (i := 31) rfl
  have HW1 := Lib.hid hW1
  have HW2 := Lib.hid hW2
  have HB2 := Lib.hid hb2
  have HOK := Lib.hid hm
  have HZ := Lib.hid (zr_cases m)
  clear hW1 hW2 hb1 hb2 hbx hbx1 hbr hs1 hm
  go_enter Tryz.func25, Tryz.ntmps25
  unfold Ms.ag Ms.cs at *
  unfold Rc.cs at *
  go_upto_region 3 with fail
  rw [← HW1.out, ← HW2.out]
  go_cut [34] (fun s34 wx => s34 = .bool (!m.zr) ∧ W2 = wx)
  case first =>
    rcases HZ.out with ⟨h1, he⟩ | ⟨h1, h2, he⟩ | ⟨h1, h2, h3, he⟩ | ⟨h1, h2, h3, h4, he⟩ | ⟨h1, h2, h3, h4, h5, he⟩ | ⟨h1, h2, h3, h4, h5, h6, h7⟩
    · have e1 : (m.rc.org != 0) = true := by simpa using h1
      have e1' : (m.rc.org == 0) = false := by simpa using h1
      have HE := Lib.hid he
      clear h1 he
      go_wp2_with fail
      go_meet
      exact ⟨by rw [HE.out]; rfl, rfl⟩
    · have e1 : (m.rc.org != 0) = false := by simpa using h1
      have e1' : (m.rc.org == 0) = true := by simpa using h1
      have e2 : ((m.rc.ep : Int) != 0) = true := by simpa using h2
      have e2' : ((m.rc.ep : Int) == 0) = false := by simpa using h2
      have HE := Lib.hid he
      clear h1 h2 he
      go_wp2_with fail
      go_meet
      exact ⟨by rw [HE.out]; rfl, rfl⟩
    · have e1 : (m.rc.org != 0) = false := by simpa using h1
      have e1' : (m.rc.org == 0) = true := by simpa using h1
      have e2 : ((m.rc.ep : Int) != 0) = false := by simpa using h2
      have e2' : ((m.rc.ep : Int) == 0) = true := by simpa using h2
      have e3 : ((m.rc.sq : Int) != 0) = true := by simpa using h3
      have e3' : ((m.rc.sq : Int) == 0) = false := by simpa using h3
      have HE := Lib.hid he
      clear h1 h2 h3 he
      go_wp2_with fail
      go_meet
      exact ⟨by rw [HE.out]; rfl, rfl⟩
    · have e1 : (m.rc.org != 0) = false := by simpa using h1
      have e1' : (m.rc.org == 0) = true := by simpa using h1
      have e2 : ((m.rc.ep : Int) != 0) = false := by simpa using h2
      have e2' : ((m.rc.ep : Int) == 0) = true := by simpa using h2
      have e3 : ((m.rc.sq : Int) != 0) = false := by simpa using h3
      have e3' : ((m.rc.sq : Int) == 0) = true := by simpa using h3
      have e4 : (m.rc.clm != 0) = true := by simpa using h4
      have e4' : (m.rc.clm == 0) = false := by simpa using h4
      have HE := Lib.hid he
      clear h1 h2 h3 h4 he
      go_wp2_with fail
      go_meet
      exact ⟨by rw [HE.out]; rfl, rfl⟩
    · have e1 : (m.rc.org != 0) = false := by simpa using h1
      have e1' : (m.rc.org == 0) = true := by simpa using h1
      have e2 : ((m.rc.ep : Int) != 0) = false := by simpa using h2
      have e2' : ((m.rc.ep : Int) == 0) = true := by simpa using h2
      have e3 : ((m.rc.sq : Int) != 0) = false := by simpa using h3
      have e3' : ((m.rc.sq : Int) == 0) = true := by simpa using h3
      have e4 : (m.rc.clm != 0) = false := by simpa using h4
      have e4' : (m.rc.clm == 0) = true := by simpa using h4
      have HE := Lib.hid he
      rw [h5] at y4
      clear h1 h2 h3 h4 h5 he
      go_wp2_with fail
      go_meet
      exact ⟨by rw [HE.out]; rfl, rfl⟩
    · have e1 : (m.rc.org != 0) = false := by simpa using h1
      have e1' : (m.rc.org == 0) = true := by simpa using h1
      have e2 : ((m.rc.ep : Int) != 0) = false := by simpa using h2
      have e2' : ((m.rc.ep : Int) == 0) = true := by simpa using h2
      have e3 : ((m.rc.sq : Int) != 0) = false := by simpa using h3
      have e3' : ((m.rc.sq : Int) == 0) = true := by simpa using h3
      have e4 : (m.rc.clm != 0) = false := by simpa using h4
      have e4' : (m.rc.clm == 0) = true := by simpa using h4
      rw [h5] at y4
      clear h1 h2 h3 h4 h5
      cases hz : m.zr with
      | true =>
        have hl : decide (0 < (m.rc.adjs.length : Int)) = false := decide_eq_false (by have := h6 hz; omega)
        have HL := Lib.hid (show decide (0 < m.rc.adjs.length) = !m.zr from by rw [hz]; exact decide_eq_false (by have := h6 hz; omega))
        clear h6 h7 hz
        go_wp2_with fail
        go_meet
        exact ⟨by rw [← HL.out], rfl⟩
      | false =>
        have hl : decide (0 < (m.rc.adjs.length : Int)) = true := decide_eq_true (by have := h7 hz; omega)
        have HL := Lib.hid (show decide (0 < m.rc.adjs.length) = !m.zr from by rw [hz]; exact decide_eq_true (by have := h7 hz; omega))
        clear h6 h7 hz
        go_wp2_with fail
        go_meet
        exact ⟨by rw [← HL.out], rfl⟩
  case rest =>
    obtain ⟨rfl, rfl⟩ := hcut
    clear y0 y1 y2 y3 y4 y5
    obtain ⟨z1, hz1⟩ : ∃ z, z = m.zr := ⟨_, rfl⟩
    rw [← hz1]
    have HZ1 := Lib.hid hz1
    clear hz1
    go_upto_if 34 with fail
    go_cut [3] (fun s3 wx => s3 = .int .i64 (bt z1 1 : Nat) ∧ W2 = wx)
    case first =>
      cases z1 <;> (go_wp2_with fail; go_meet; exact ⟨rfl, rfl⟩)
    case rest =>
      obtain ⟨rfl, rfl⟩ := hcut
      obtain ⟨z2, hz2⟩ : ∃ z, z = m.zs := ⟨_, rfl⟩
      have HZ2 := Lib.hid hz2
      clear hz2
      go_upto_region 5 with fail
      go_cut [40] (fun s wx => s = .bool (!z2) ∧ W2 = wx)
      case first =>
        obtain ⟨o7, ho7⟩ : ∃ o, o = m.st.org := ⟨_, rfl⟩
        rw [← ho7] at x7
        have HO7 := Lib.hid ho7
        clear ho7
        obtain ⟨o8, ho8⟩ : ∃ o, o = m.st.ep := ⟨_, rfl⟩
        rw [← ho8] at x8
        have HO8 := Lib.hid ho8
        clear ho8
        obtain ⟨o9, ho9⟩ : ∃ o, o = m.st.sq := ⟨_, rfl⟩
        rw [← ho9] at x9
        have HO9 := Lib.hid ho9
        clear ho9
        go_wp2_with fail
        all_goals (go_meet; refine ⟨?_, rfl⟩; rw [HZ2.out]; unfold Ms.zs; rw [show m.st = ⟨m.st.org, m.st.ep, m.st.sq⟩ from rfl, ← HO7.out, ← HO8.out, ← HO9.out]; simp [Wi.zero, Ak.zero, *])
      case rest =>
        obtain ⟨rfl, rfl⟩ := hcut
        clear x7 x8 x9
        go_upto_if 40 with fail
        go_cut [3] (fun s3 wx => s3 = .int .i64 ((bt z1 1 + bt z2 2 : Nat) : Int) ∧ W2 = wx)
        case first =>
          cases z1 <;> cases z2 <;> (go_wp2_with fail; go_meet; exact ⟨rfl, rfl⟩)
        case rest =>
          obtain ⟨rfl, rfl⟩ := hcut
          obtain ⟨z3, hz3⟩ : ∃ z, z = m.zh := ⟨_, rfl⟩
          have HZ3 := Lib.hid hz3
          clear hz3
          go_upto_region 7 with fail
          go_cut [46] (fun s wx => s = .bool (!z3) ∧ W2 = wx)
          case first =>
            cases z3 with
            | true =>
              have heq := eq_hd0 m.hd true HOK.out.2.2.2.1 HZ3.out.symm
              unfold Hd.cs at heq
              go_wp2_with fail
              go_meet
              exact ⟨rfl, rfl⟩
            | false =>
              have heq := eq_hd0 m.hd false HOK.out.2.2.2.1 HZ3.out.symm
              unfold Hd.cs at heq
              go_wp2_with fail
              go_meet
              exact ⟨rfl, rfl⟩
          case rest =>
            obtain ⟨rfl, rfl⟩ := hcut
            clear x10 x11 x12 x13 x14 x15 x16 x17 x18 x19 x20
            go_upto_if 46 with fail
            go_cut [3] (fun s3 wx => s3 = .int .i64 ((bt z1 1 + bt z2 2 + bt z3 4 : Nat) : Int) ∧ W2 = wx)
            case first =>
              cases z1 <;> cases z2 <;> cases z3 <;> (go_wp2_with fail; go_meet; exact ⟨rfl, rfl⟩)
            case rest =>
              obtain ⟨rfl, rfl⟩ := hcut
              obtain ⟨z4, hz4⟩ : ∃ z, z = m.zy := ⟨_, rfl⟩
              have HZ4 := Lib.hid hz4
              clear hz4
              go_upto_region 9 with fail
              go_cut [56] (fun s wx => s = .bool (!z4) ∧ W2 = wx)
              case first =>
                have HE := Lib.hid (show m.zy = ((m.dst == 0) && (m.hops == 0)) from rfl)
                by_cases h1 : m.dst = 0
                · have e1 : (m.dst == 0) = true := by simpa using h1
                  have e1' : (m.dst != 0) = false := by simpa using h1
                  have H1 := Lib.hid e1
                  clear h1
                  go_wp2_with fail
                  all_goals (go_meet; refine ⟨?_, rfl⟩; rw [HZ4.out, HE.out, H1.out]; rfl)
                · have e1 : (m.dst == 0) = false := by simpa using h1
                  have e1' : (m.dst != 0) = true := by simpa using h1
                  have H1 := Lib.hid e1
                  clear h1
                  go_wp2_with fail
                  all_goals (go_meet; refine ⟨?_, rfl⟩; rw [HZ4.out, HE.out, H1.out]; rfl)
              case rest =>
                obtain ⟨rfl, rfl⟩ := hcut
                clear x21 x22
                go_upto_if 56 with fail
                go_cut [3] (fun s3 wx => s3 = .int .i64 ((bt z1 1 + bt z2 2 + bt z3 4 + bt z4 8 : Nat) : Int) ∧ W2 = wx)
                case first =>
                  cases z1 <;> cases z2 <;> cases z3 <;> cases z4 <;> (go_wp2_with fail; go_meet; exact ⟨rfl, rfl⟩)
                case rest =>
                  obtain ⟨rfl, rfl⟩ := hcut
                  obtain ⟨z5, hz5⟩ : ∃ z, z = m.zw := ⟨_, rfl⟩
                  have HZ5 := Lib.hid hz5
                  clear hz5
                  go_upto_region 11 with fail
                  go_cut [62] (fun s wx => s = .bool (!z5) ∧ W2 = wx)
                  case first =>
                    obtain ⟨o23, ho23⟩ : ∃ o, o = m.wi.frm := ⟨_, rfl⟩
                    rw [← ho23] at x23
                    have HO23 := Lib.hid ho23
                    clear ho23
                    obtain ⟨o24, ho24⟩ : ∃ o, o = m.wi.ep := ⟨_, rfl⟩
                    rw [← ho24] at x24
                    have HO24 := Lib.hid ho24
                    clear ho24
                    obtain ⟨o25, ho25⟩ : ∃ o, o = m.wi.ver := ⟨_, rfl⟩
                    rw [← ho25] at x25
                    have HO25 := Lib.hid ho25
                    clear ho25
                    obtain ⟨o26, ho26⟩ : ∃ o, o = m.wi.grp := ⟨_, rfl⟩
                    rw [← ho26] at x26
                    have HO26 := Lib.hid ho26
                    clear ho26
                    go_wp2_with fail
                    all_goals (go_meet; refine ⟨?_, rfl⟩; rw [HZ5.out]; unfold Ms.zw; rw [show m.wi = ⟨m.wi.frm, m.wi.ep, m.wi.ver, m.wi.grp⟩ from rfl, ← HO23.out, ← HO24.out, ← HO25.out, ← HO26.out]; simp [Wi.zero, Ak.zero, *])
                  case rest =>
                    obtain ⟨rfl, rfl⟩ := hcut
                    clear x23 x24 x25 x26
                    go_upto_if 62 with fail
                    go_cut [3] (fun s3 wx => s3 = .int .i64 ((bt z1 1 + bt z2 2 + bt z3 4 + bt z4 8 + bt z5 16 : Nat) : Int) ∧ W2 = wx)
                    case first =>
                      cases z1 <;> cases z2 <;> cases z3 <;> cases z4 <;> cases z5 <;> (go_wp2_with fail; go_meet; exact ⟨rfl, rfl⟩)
                    case rest =>
                      obtain ⟨rfl, rfl⟩ := hcut
                      obtain ⟨z6, hz6⟩ : ∃ z, z = m.za := ⟨_, rfl⟩
                      have HZ6 := Lib.hid hz6
                      clear hz6
                      go_upto_region 13 with fail
                      go_cut [68] (fun s wx => s = .bool (!z6) ∧ W2 = wx)
                      case first =>
                        obtain ⟨o27, ho27⟩ : ∃ o, o = m.ak.frm := ⟨_, rfl⟩
                        rw [← ho27] at x27
                        have HO27 := Lib.hid ho27
                        clear ho27
                        obtain ⟨o28, ho28⟩ : ∃ o, o = m.ak.ep := ⟨_, rfl⟩
                        rw [← ho28] at x28
                        have HO28 := Lib.hid ho28
                        clear ho28
                        obtain ⟨o29, ho29⟩ : ∃ o, o = m.ak.dst := ⟨_, rfl⟩
                        rw [← ho29] at x29
                        have HO29 := Lib.hid ho29
                        clear ho29
                        obtain ⟨o30, ho30⟩ : ∃ o, o = m.ak.lif := ⟨_, rfl⟩
                        rw [← ho30] at x30
                        have HO30 := Lib.hid ho30
                        clear ho30
                        obtain ⟨o31, ho31⟩ : ∃ o, o = m.ak.ver := ⟨_, rfl⟩
                        rw [← ho31] at x31
                        have HO31 := Lib.hid ho31
                        clear ho31
                        go_wp2_with fail
                        all_goals (go_meet; refine ⟨?_, rfl⟩; rw [HZ6.out]; unfold Ms.za; rw [show m.ak = ⟨m.ak.frm, m.ak.ep, m.ak.dst, m.ak.lif, m.ak.ver⟩ from rfl, ← HO27.out, ← HO28.out, ← HO29.out, ← HO30.out, ← HO31.out]; simp [Wi.zero, Ak.zero, *])
                      case rest =>
                        obtain ⟨rfl, rfl⟩ := hcut
                        clear x27 x28 x29 x30 x31
                        go_upto_if 68 with fail
                        go_cut [3] (fun s3 wx => s3 = .int .i64 ((bt z1 1 + bt z2 2 + bt z3 4 + bt z4 8 + bt z5 16 + bt z6 32 : Nat) : Int) ∧ W2 = wx)
                        case first =>
                          cases z1 <;> cases z2 <;> cases z3 <;> cases z4 <;> cases z5 <;> cases z6 <;> (go_wp2_with fail; go_meet; exact ⟨rfl, rfl⟩)
                        case rest =>
                          obtain ⟨rfl, rfl⟩ := hcut
                          go_wp2_with fail
                          go_returns
                          exact ⟨by rw [HZ1.out, HZ2.out, HZ3.out, HZ4.out, HZ5.out, HZ6.out]; rfl, HB2.out⟩

end Go.Proofs.YtickjmkkgcfkhaaGreat
