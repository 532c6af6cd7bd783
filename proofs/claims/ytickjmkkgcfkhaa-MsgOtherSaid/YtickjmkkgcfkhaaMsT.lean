/- Contract of the laws' message of parts. (Printed by mkmst.py.) -/
import Derived.Test.YtickjmkkgcfkhaaMsS
set_option linter.unusedSimpArgs false
set_option linter.unusedVariables false
set_option maxRecDepth 100000
namespace Go.Proofs.Ytickjmkkgcfkhaa
open Go.RowKit Go.ChangeShapes Go.WideShapes

/-- Parts of which messages are made. -/
structure Pt where
  kd : Nat
  tow : Nat
  hp : Nat
  fr : Nat
  ot : Nat
  nr : Nat
  ep : Nat
  num : Nat
  lif : Nat
  bits : Bt
def Pt.ok (p : Pt) : Prop := p.kd < 256 ∧ p.tow < 256 ∧ p.hp < 256 ∧ p.fr < 256 ∧ p.ot < 256 ∧ p.nr < 256 ∧ p.ep < 4294967296 ∧ p.num < 4294967296 ∧ p.lif < 4294967296 ∧ p.bits.ok
def Pt.cs (p : Pt) : Array Value := #[.int .u8 p.kd, .int .u8 p.tow, .int .u8 p.hp, .int .u8 p.fr, .int .u8 p.ot, .int .u8 p.nr, .int .u32 p.ep, .int .u32 p.num, .int .u32 p.lif, .int .u64 p.bits.a, .int .u64 p.bits.b, .int .u64 p.bits.c, .int .u64 p.bits.d]
def Pt.ag (p : Pt) : Value := .agg p.cs
/-- Neighbours, up to k, no more than a limit, without the router itself. -/
def adjU (f c lim : Nat) : Nat → List (Int × Int)
  | 0 => []
  | k + 1 => if (adjU f c lim k).length < lim ∧ k + 1 ≠ f then adjU f c lim k ++ [(((k + 1 : Nat) : Int), (c : Int))] else adjU f c lim k
/-- A message of parts. -/
def ofM (p : Pt) : Ms :=
  if p.kd % 5 = 0 then { Ms.zero with kd := 1, rc := ⟨((p.fr % 24 + 1 : Nat) : Int), p.ep % 1000 + 1, p.num % 1000 + 1, ((p.lif % 1025 : Nat) : Int), p.hp % 2 == 1, adjU (p.fr % 24 + 1) (p.ep % 1000 + 1) (p.nr % 17) 24⟩ }
  else if p.kd % 5 = 1 then { Ms.zero with kd := 2, st := ⟨((p.fr % 24 + 1 : Nat) : Int), p.ep % 1000 + 1, p.num % 1000 + 1⟩ }
  else if p.kd % 5 = 2 then { Ms.zero with kd := 3, hd := ⟨256, ((p.num % 128 : Nat) : Int), p.ep, ((p.hp % 16 : Nat) : Int), ((p.fr % 24 + 1 : Nat) : Int), ((p.nr % 8 : Nat) : Int), p.lif, p.bits⟩ }
  else if p.kd % 5 = 3 then { Ms.zero with kd := 4, dst := ((p.tow % 24 + 1 : Nat) : Int), hops := ((p.hp % 25 : Nat) : Int), wi := ⟨((p.fr % 24 + 1 : Nat) : Int), p.ep % 1000 + 1, p.num % 1000 + 1, p.nr⟩ }
  else { Ms.zero with kd := 5, dst := ((p.tow % 24 + 1 : Nat) : Int), hops := ((p.hp % 25 : Nat) : Int), ak := ⟨((p.fr % 24 + 1 : Nat) : Int), p.ep % 1000 + 1, ((p.ot % 24 + 1 : Nat) : Int), p.lif % 1000 + 1, p.num % 1000 + 1⟩ }
theorem tm (a b : Nat) : Int.tmod (a : Int) (b : Int) = ((a % b : Nat) : Int) := by
  rw [Int.tmod_eq_emod_of_nonneg (by omega)]; simp
/-- What is there while a message is made. -/
structure OfS (W : World) (p : Pt) (g : Nat) (m : Ms) (sa : Option Addr) (sc : Nat) (V : World) : Prop where
  bel : Below W.heap.size W V
  pr : V.heap[W.heap.size]? = some (.cells p.cs 48 (0, 0))
  rs : V.heap[W.heap.size + 1]? = some (.cells (Ms.zero.cs none 0) 38 (0, 0))
  bx : BoxM g m sa sc V
  gt : W.heap.size + 1 < g
theorem OfS.later {W V X : World} {p : Pt} {g : Nat} {m : Ms} {sa : Option Addr} {sc : Nat} (h : OfS W p g m sa sc V) (hb : Below V.heap.size V X) : OfS W p g m sa sc X :=
  ⟨h.bel.trans (hb.mono h.bel.size), (hb.block _ (Array.getElem?_eq_some_iff.1 h.pr).1).trans h.pr, (hb.block _ (Array.getElem?_eq_some_iff.1 h.rs).1).trans h.rs, h.bx.later hb, h.gt⟩
theorem OfS.set {W V : World} {p : Pt} {g i : Nat} {m n : Ms} {sa ta : Option Addr} {sc tc : Nat} {v : Value} (h : OfS W p g m sa sc V) (he : (m.cs sa sc).setIfInBounds i v = n.cs ta tc) : OfS W p g n ta tc (V.setCell ⟨g, i, none⟩ v) := by
  have hg := h.gt
  exact ⟨h.bel.setCell (by simp only; omega) v, (heap_setCell_other V ⟨g, i, none⟩ _ v (by simp only; omega)).trans h.pr, (heap_setCell_other V ⟨g, i, none⟩ _ v (by simp only; omega)).trans h.rs, h.bx.set he, h.gt⟩
theorem OfS.c {W V : World} {p : Pt} {g : Nat} {m : Ms} {sa : Option Addr} {sc : Nat} (h : OfS W p g m sa sc V) (i : Nat) (u : Value) (hu : p.cs[i]? = some u) : V.cell? ⟨W.heap.size, i, none⟩ = some u := (cell_of_row _ _ i _ _ _ h.pr).trans hu

theorem adjU_stop {f c lim : Nat} {k : Nat} (h : lim ≤ (adjU f c lim k).length) : ∀ j, adjU f c lim (k + j) = adjU f c lim k
  | 0 => rfl
  | j + 1 => by
    have ih := adjU_stop h j
    show adjU f c lim (k + j + 1) = _
    rw [adjU, ih, if_neg (by omega)]
theorem adjU_len (f c lim : Nat) : ∀ k, (adjU f c lim k).length ≤ k
  | 0 => Nat.le_refl _
  | k + 1 => by
    have := adjU_len f c lim k
    rw [adjU]
    split
    · rw [List.length_append, List.length_singleton]; omega
    · omega
def mr (f e n c0 : Nat) (ib : Bool) (xs : List (Int × Int)) : Ms := { Ms.m0 1 with rc := ⟨(f : Int), e, n, (c0 : Int), ib, xs⟩ }
theorem OfS.grown {W V X : World} {p : Pt} {g : Nat} {m : Ms} {sa : Option Addr} {sc : Nat} {row : Option Nat} (h : OfS W p g m sa sc V) (hg : V.grownBy X row) (hr : ∀ k, row = some k → g < k) : OfS W p g m sa sc X := by
  have h2 := h.gt
  exact ⟨h.bel.grown hg h.bel.size (fun k hk => by have := hr k hk; omega), (hg.block _ (Array.getElem?_eq_some_iff.1 h.pr).1 (fun e => by have := hr _ e.symm; omega)).trans h.pr, (hg.block _ (Array.getElem?_eq_some_iff.1 h.rs).1 (fun e => by have := hr _ e.symm; omega)).trans h.rs,
    (hg.block _ (Array.getElem?_eq_some_iff.1 h.bx).1 (fun e => by have := hr _ e.symm; omega)).trans h.bx, h.gt⟩
def OfR (W : World) (p : Pt) (g f e n c0 lim : Nat) (ib : Bool) (i : Value) (wr : World) : Prop :=
  ∃ k nn : Nat, nn = k + 1 ∧ i = .int .i64 nn ∧ k ≤ 24 ∧ ∃ sa sc, OfS W p g (mr f e n c0 ib (adjU f e lim k)) sa sc wr ∧ ARow wr (g + 1) sa sc (adjU f e lim k)
theorem infoAdj : (Try.prog.info? 81).map (fun i => (i.zero, i.size, i.bytes)) = some (some (.agg #[.int .i64 0, .int .i64 0]), 2, 16) := by kernel_rfl
theorem info_parts' {t : TypeId} {z : Value} {n b : Nat} (h : (Try.prog.info? t).map (fun i => (i.zero, i.size, i.bytes)) = some (some z, n, b)) : ∃ i, Try.prog.info? t = some i ∧ i.zero = some z ∧ i.size = n ∧ i.bytes = b := by
  cases hi : Try.prog.info? t with
  | none => rw [hi] at h; cases h
  | some i => rw [hi] at h; simp only [Option.map_some, Option.some.injEq, Prod.mk.injEq] at h; exact ⟨i, rfl, h.1, h.2.1, h.2.2⟩
theorem adjV_snoc (xs : List (Int × Int)) (a : Int × Int) : adjV (xs ++ [a]) = adjV xs ++ [.int .i64 a.1, .int .i64 a.2] := by simp [adjV]
set_option maxHeartbeats 6400000 in
theorem of1_any (p : Pt) (W : World) (hp : p.ok) (hk : p.kd % 5 = 0) : Calls Try.prog 15 #[p.ag] W fun e W' => ∃ sa sc, e = .returned ((ofM p).ag sa sc) ∧ ARow W' W.heap.size sa sc (ofM p).rc.adjs ∧ Below W.heap.size W W' := by
  obtain ⟨hk0, hk1, hk2, hk3, hk4, hk5, hk6, hk7, hk8, hk9⟩ := hp
  have tk : Int.tmod (p.kd : Int) 5 = 0 := by have := tm p.kd 5; rw [hk] at this; exact this
  obtain ⟨f0, hf0⟩ : ∃ x, x = p.fr % 24 := ⟨_, rfl⟩
  obtain ⟨f, hf⟩ : ∃ x, x = f0 + 1 := ⟨_, rfl⟩
  have tmf : Int.tmod (p.fr : Int) 24 = (f0 : Int) := by rw [hf0]; exact tm p.fr 24
  have sf : 1 + (f0 : Int) = (f : Int) := by omega
  have bf : f ≤ 24 := by omega
  have bf0 : f0 ≤ 24 := by omega
  have wf : IntKind.i64.wrap (f : Int) = (f : Int) := IntWalk.i64_in _ (by omega)
  have wf0 : IntKind.i64.wrap (f0 : Int) = (f0 : Int) := IntWalk.i64_in _ (by omega)
  obtain ⟨o0, ho0⟩ : ∃ x, x = p.ot % 24 := ⟨_, rfl⟩
  obtain ⟨o, ho⟩ : ∃ x, x = o0 + 1 := ⟨_, rfl⟩
  have tmo : Int.tmod (p.ot : Int) 24 = (o0 : Int) := by rw [ho0]; exact tm p.ot 24
  have so : 1 + (o0 : Int) = (o : Int) := by omega
  have bo : o ≤ 24 := by omega
  have bo0 : o0 ≤ 24 := by omega
  have wo : IntKind.i64.wrap (o : Int) = (o : Int) := IntWalk.i64_in _ (by omega)
  have wo0 : IntKind.i64.wrap (o0 : Int) = (o0 : Int) := IntWalk.i64_in _ (by omega)
  obtain ⟨e0, he0⟩ : ∃ x, x = p.ep % 1000 := ⟨_, rfl⟩
  obtain ⟨e, he⟩ : ∃ x, x = e0 + 1 := ⟨_, rfl⟩
  have tme : Int.tmod (p.ep : Int) 1000 = (e0 : Int) := by rw [he0]; exact tm p.ep 1000
  have se : 1 + (e0 : Int) = (e : Int) := by omega
  have be : e ≤ 1000 := by omega
  have be0 : e0 ≤ 1000 := by omega
  have we : IntKind.u32.wrap (e : Int) = (e : Int) := IntWalk.u32_in _ (by omega)
  have we0 : IntKind.u32.wrap (e0 : Int) = (e0 : Int) := IntWalk.u32_in _ (by omega)
  obtain ⟨n0, hn0⟩ : ∃ x, x = p.num % 1000 := ⟨_, rfl⟩
  obtain ⟨n, hn⟩ : ∃ x, x = n0 + 1 := ⟨_, rfl⟩
  have tmn : Int.tmod (p.num : Int) 1000 = (n0 : Int) := by rw [hn0]; exact tm p.num 1000
  have sn : 1 + (n0 : Int) = (n : Int) := by omega
  have bn : n ≤ 1000 := by omega
  have bn0 : n0 ≤ 1000 := by omega
  have wn : IntKind.u32.wrap (n : Int) = (n : Int) := IntWalk.u32_in _ (by omega)
  have wn0 : IntKind.u32.wrap (n0 : Int) = (n0 : Int) := IntWalk.u32_in _ (by omega)
  obtain ⟨l0, hl0⟩ : ∃ x, x = p.lif % 1000 := ⟨_, rfl⟩
  obtain ⟨l, hl⟩ : ∃ x, x = l0 + 1 := ⟨_, rfl⟩
  have tml : Int.tmod (p.lif : Int) 1000 = (l0 : Int) := by rw [hl0]; exact tm p.lif 1000
  have sl : 1 + (l0 : Int) = (l : Int) := by omega
  have bl : l ≤ 1000 := by omega
  have bl0 : l0 ≤ 1000 := by omega
  have wl : IntKind.u32.wrap (l : Int) = (l : Int) := IntWalk.u32_in _ (by omega)
  have wl0 : IntKind.u32.wrap (l0 : Int) = (l0 : Int) := IntWalk.u32_in _ (by omega)
  obtain ⟨c0, hc0⟩ : ∃ x, x = p.lif % 1025 := ⟨_, rfl⟩
  have tmc : Int.tmod (p.lif : Int) 1025 = (c0 : Int) := by rw [hc0]; exact tm p.lif 1025
  have bc0 : c0 ≤ 1025 := by omega
  obtain ⟨h0, hh0⟩ : ∃ x, x = p.hp % 2 := ⟨_, rfl⟩
  have tmh : Int.tmod (p.hp : Int) 2 = (h0 : Int) := by rw [hh0]; exact tm p.hp 2
  have bh0 : h0 ≤ 2 := by omega
  obtain ⟨q0, hq0⟩ : ∃ x, x = p.nr % 17 := ⟨_, rfl⟩
  have tmq : Int.tmod (p.nr : Int) 17 = (q0 : Int) := by rw [hq0]; exact tm p.nr 17
  have bq0 : q0 ≤ 17 := by omega
  obtain ⟨ib, hib⟩ : ∃ b, b = (h0 == 1) := ⟨_, rfl⟩
  have sib : ((h0 : Int) == 1) = ib := by rw [hib, Bool.eq_iff_iff, beq_iff_eq, beq_iff_eq]; omega
  have wq0 : q0 ≤ 17 := bq0
  have HM := Lib.hid (show ofM p = mr f e n c0 ib (adjU f e q0 24) from by
    unfold ofM
    rw [if_pos (by omega), hib]
    simp only [hf0, hf, he0, he, hn0, hn, hc0, hh0, hq0]
    rfl)
  clear hib
  obtain ⟨W1, hW1⟩ : ∃ W1, W1 = W.alloc (.cells p.cs 48) := ⟨_, rfl⟩
  obtain ⟨W2, hW2⟩ : ∃ W2, W2 = W1.alloc (.cells #[.int .i64 0, .int .i64 0, .int .u32 0, .int .u32 0, .int .i64 0, .bool false, .slice none 0 0, .int .i64 0, .int .u32 0, .int .u32 0, .int .i64 0, .int .i64 0, .int .u32 0, .int .i64 0, .int .i64 0, .int .i64 0, .int .u32 0, .int .u64 0, .int .u64 0, .int .u64 0, .int .u64 0, .int .i64 0, .int .i64 0, .int .i64 0, .int .u32 0, .int .u32 0, .int .u8 0, .int .i64 0, .int .u32 0, .int .i64 0, .int .u32 0, .int .u32 0] 38) := ⟨_, rfl⟩
  have hs1 : W1.heap.size = W.heap.size + 1 := by rw [hW1, World.size_alloc]
  have hs2 : W2.heap.size = W.heap.size + 2 := by rw [hW2, World.size_alloc, hs1]
  have hpr1 : W1.heap[W.heap.size]? = some (.cells p.cs 48 (0, 0)) := by rw [hW1]; exact heap_alloc_new _ _
  have hb12 : Below W1.heap.size W1 W2 := by rw [hW2]; exact (Below.refl _ _).alloc (Nat.le_refl _) _
  have hpr : W2.heap[W.heap.size]? = some (.cells p.cs 48 (0, 0)) := (hb12.block _ (by omega)).trans hpr1
  have hrs : W2.heap[W.heap.size + 1]? = some (.cells (Ms.zero.cs none 0) 38 (0, 0)) := by rw [hW2, ← hs1]; exact heap_alloc_new _ _
  have hb : Below W.heap.size W W2 := by
    refine Below.trans ?_ (hb12.mono (by omega))
    rw [hW1]; exact (Below.refl _ _).alloc (Nat.le_refl _) _
  have cc0 : W2.cell? ⟨W.heap.size, 0, none⟩ = some (.int .u8 p.kd) := (cell_of_row _ _ 0 _ _ _ hpr).trans rfl
  obtain ⟨g, hg⟩ : ∃ g, g = W2.heap.size := ⟨_, rfl⟩
  obtain ⟨Y, hY⟩ : ∃ Y, Y = (W2.alloc (.cells #[.int .i64 0, .int .i64 0, .int .u32 0, .int .u32 0, .int .i64 0, .bool false, .slice none 0 0, .int .i64 0, .int .u32 0, .int .u32 0, .int .i64 0, .int .i64 0, .int .u32 0, .int .i64 0, .int .i64 0, .int .i64 0, .int .u32 0, .int .u64 0, .int .u64 0, .int .u64 0, .int .u64 0, .int .i64 0, .int .i64 0, .int .i64 0, .int .u32 0, .int .u32 0, .int .u8 0, .int .i64 0, .int .u32 0, .int .i64 0, .int .u32 0, .int .u32 0] 38)).setRow W2.heap.size #[.int .i64 1, .int .i64 0, .int .u32 0, .int .u32 0, .int .i64 0, .bool false, .slice none 0 0, .int .i64 0, .int .u32 0, .int .u32 0, .int .i64 0, .int .i64 0, .int .u32 0, .int .i64 0, .int .i64 0, .int .i64 0, .int .u32 0, .int .u64 0, .int .u64 0, .int .u64 0, .int .u64 0, .int .i64 0, .int .i64 0, .int .i64 0, .int .u32 0, .int .u32 0, .int .u8 0, .int .i64 0, .int .u32 0, .int .i64 0, .int .u32 0, .int .u32 0] := ⟨_, rfl⟩
  have HAL := Lib.hid (hal_new W2 #[.int .i64 0, .int .i64 0, .int .u32 0, .int .u32 0, .int .i64 0, .bool false, .slice none 0 0, .int .i64 0, .int .u32 0, .int .u32 0, .int .i64 0, .int .i64 0, .int .u32 0, .int .i64 0, .int .i64 0, .int .i64 0, .int .u32 0, .int .u64 0, .int .u64 0, .int .u64 0, .int .u64 0, .int .i64 0, .int .i64 0, .int .i64 0, .int .u32 0, .int .u32 0, .int .u8 0, .int .i64 0, .int .u32 0, .int .i64 0, .int .u32 0, .int .u32 0] 38)
  have hbY : Below W2.heap.size W2 Y := by rw [hY]; exact below_setRow ((Below.refl _ _).alloc (Nat.le_refl _) _) (Nat.le_refl _)
  have HS0 := Lib.hid (show OfS W p g (Ms.m0 1) none 0 Y from ⟨hb.trans (hbY.mono hb.size), (hbY.block _ (by omega)).trans hpr, (hbY.block _ (by omega)).trans hrs, by rw [hY, hg]; exact setRow_heap _ _ _ _ _ _ HAL.out, by omega⟩)
  have HS2 := Lib.hid (show (Try.prog.info? 38).map (·.size) = some (#[.int .i64 1, .int .i64 0, .int .u32 0, .int .u32 0, .int .i64 0, .bool false, .slice none 0 0, .int .i64 0, .int .u32 0, .int .u32 0, .int .i64 0, .int .i64 0, .int .u32 0, .int .i64 0, .int .i64 0, .int .i64 0, .int .u32 0, .int .u64 0, .int .u64 0, .int .u64 0, .int .u64 0, .int .i64 0, .int .i64 0, .int .i64 0, .int .u32 0, .int .u32 0, .int .u8 0, .int .i64 0, .int .u32 0, .int .i64 0, .int .u32 0, .int .u32 0] : Array Value).size from info_msg' (Ms.m0 1) none 0)
  have HS3 := Lib.hid (show (#[.int .i64 0, .int .i64 0, .int .u32 0, .int .u32 0, .int .i64 0, .bool false, .slice none 0 0, .int .i64 0, .int .u32 0, .int .u32 0, .int .i64 0, .int .i64 0, .int .u32 0, .int .i64 0, .int .i64 0, .int .i64 0, .int .u32 0, .int .u64 0, .int .u64 0, .int .u64 0, .int .u64 0, .int .i64 0, .int .i64 0, .int .i64 0, .int .u32 0, .int .u32 0, .int .u8 0, .int .i64 0, .int .u32 0, .int .i64 0, .int .u32 0, .int .u32 0] : Array Value).size = (#[.int .i64 1, .int .i64 0, .int .u32 0, .int .u32 0, .int .i64 0, .bool false, .slice none 0 0, .int .i64 0, .int .u32 0, .int .u32 0, .int .i64 0, .int .i64 0, .int .u32 0, .int .i64 0, .int .i64 0, .int .i64 0, .int .u32 0, .int .u64 0, .int .u64 0, .int .u64 0, .int .u64 0, .int .i64 0, .int .i64 0, .int .i64 0, .int .u32 0, .int .u32 0, .int .u8 0, .int .i64 0, .int .u32 0, .int .i64 0, .int .u32 0, .int .u32 0] : Array Value).size from rfl)
  have HS4 := Lib.hid (show (#[.int .i64 1, .int .i64 0, .int .u32 0, .int .u32 0, .int .i64 0, .bool false, .slice none 0 0, .int .i64 0, .int .u32 0, .int .u32 0, .int .i64 0, .int .i64 0, .int .u32 0, .int .i64 0, .int .i64 0, .int .i64 0, .int .u32 0, .int .u64 0, .int .u64 0, .int .u64 0, .int .u64 0, .int .i64 0, .int .i64 0, .int .i64 0, .int .u32 0, .int .u32 0, .int .u8 0, .int .i64 0, .int .u32 0, .int .i64 0, .int .u32 0, .int .u32 0] : Array Value).all (·.oneCell') = true from cs_one (Ms.m0 1) none 0)
  have HY := Lib.hid hY
  have HGG := Lib.hid hg
  have HW1 := Lib.hid hW1
  have HW2 := Lib.hid hW2
  clear hW1 hW2 hs1 hs2 hpr1 hb12 hpr hrs hb hg hY hbY hk hf0 ho0 he0 hn0 hl0 hf ho he hn hl hc0 hh0 hq0
  go_enter Try.func15, Try.ntmps15
  unfold Pt.ag at *
  go_upto_region 1 with fail
  rw [← HW1.out, ← HW2.out]
  go_wp2_with (with_reducible refine wpList_store_row rfl 38 (.tmp 3) (.tmp 15) rfl rfl W2.heap.size rfl 38 #[.int .i64 0, .int .i64 0, .int .u32 0, .int .u32 0, .int .i64 0, .bool false, .slice none 0 0, .int .i64 0, .int .u32 0, .int .u32 0, .int .i64 0, .int .i64 0, .int .u32 0, .int .i64 0, .int .i64 0, .int .i64 0, .int .u32 0, .int .u64 0, .int .u64 0, .int .u64 0, .int .u64 0, .int .i64 0, .int .i64 0, .int .i64 0, .int .u32 0, .int .u32 0, .int .u8 0, .int .i64 0, .int .u32 0, .int .i64 0, .int .u32 0, .int .u32 0] #[.int .i64 1, .int .i64 0, .int .u32 0, .int .u32 0, .int .i64 0, .bool false, .slice none 0 0, .int .i64 0, .int .u32 0, .int .u32 0, .int .i64 0, .int .i64 0, .int .u32 0, .int .i64 0, .int .i64 0, .int .i64 0, .int .u32 0, .int .u64 0, .int .u64 0, .int .u64 0, .int .u64 0, .int .i64 0, .int .i64 0, .int .i64 0, .int .u32 0, .int .u32 0, .int .u8 0, .int .i64 0, .int .u32 0, .int .i64 0, .int .u32 0, .int .u32 0] rfl HAL.out HS2.out HS3.out HS4.out ?_)
  rw [← HY.out, ← HGG.out]
  clear cc0
  obtain ⟨U, hU⟩ : ∃ X, X = Y.drew := ⟨_, rfl⟩
  have HU := Lib.hid (show OfS W p g (Ms.m0 1) none 0 U by rw [hU]; exact HS0.out.later (drew_below _))
  refine wp_region_ord [(0, true), (1, true), (2, true), (3, true), (4, true), (5, true), (6, true), (7, true), (8, true), (9, true), (10, true), (11, true)] (OfS W p g (Ms.m0 1) none 0) (by kernel_rfl) (by kernel_rfl) (by decide) (by kernel_rfl) (fun d _ _ _ _ h => by cases d <;> first | exact h | exact h.later (drew_below _)) (by rw [← hU]; exact HU.out) ?_
  rw [← hU]
  clear hU
  iterate 12 ((apply wpOrd_take rfl rfl (by kernel_rfl); (intro V hV; have c3 := hV.c 3 (.int .u8 p.fr) rfl; have c4 := hV.c 4 (.int .u8 p.ot) rfl; go_simp; rfl)); (try simp only [List.setIfInBounds_toArray, List.set_cons_succ, List.set_cons_zero]))
  refine wpOrd_nil ?_
  go_wp2_with fail
  obtain ⟨U2, hU⟩ : ∃ X, X = U.drew := ⟨_, rfl⟩
  have HU2 := Lib.hid (show OfS W p g (Ms.m0 1) none 0 U2 by rw [hU]; exact HU.out.later (drew_below _))
  refine wp_region_ord [(0, true), (1, true), (2, true), (3, true), (4, true), (5, true), (6, true), (7, true), (8, true), (9, true), (10, true), (11, true), (12, true), (13, true), (14, true)] (OfS W p g (Ms.m0 1) none 0) (by kernel_rfl) (by kernel_rfl) (by decide) (by kernel_rfl) (fun d _ _ _ _ h => by cases d <;> first | exact h | exact h.later (drew_below _)) (by rw [← hU]; exact HU2.out) ?_
  rw [← hU]
  clear hU
  iterate 15 ((apply wpOrd_take rfl rfl (by kernel_rfl); (intro V hV; have c6 := hV.c 6 (.int .u32 p.ep) rfl; have c7 := hV.c 7 (.int .u32 p.num) rfl; have c8 := hV.c 8 (.int .u32 p.lif) rfl; go_simp; rfl)); (try simp only [List.setIfInBounds_toArray, List.set_cons_succ, List.set_cons_zero]))
  refine wpOrd_nil ?_
  have c1 := HU2.out.c 1 (.int .u8 p.tow) rfl
  have c2 := HU2.out.c 2 (.int .u8 p.hp) rfl
  have c3 := HU2.out.c 3 (.int .u8 p.fr) rfl
  have c4 := HU2.out.c 4 (.int .u8 p.ot) rfl
  have c5 := HU2.out.c 5 (.int .u8 p.nr) rfl
  have c6 := HU2.out.c 6 (.int .u32 p.ep) rfl
  have c7 := HU2.out.c 7 (.int .u32 p.num) rfl
  have c8 := HU2.out.c 8 (.int .u32 p.lif) rfl
  have c9 := HU2.out.c 9 (.int .u64 p.bits.a) rfl
  have c10 := HU2.out.c 10 (.int .u64 p.bits.b) rfl
  have c11 := HU2.out.c 11 (.int .u64 p.bits.c) rfl
  have c12 := HU2.out.c 12 (.int .u64 p.bits.d) rfl
  have x0 : U2.cell? ⟨g, 0, none⟩ = some (.int .i64 1) := HU2.out.bx.cell rfl
  have x1 : U2.cell? ⟨g, 1, none⟩ = some (.int .i64 0) := HU2.out.bx.cell rfl
  have f1 : U2.frozen? ⟨g, 1, none⟩ = false := HU2.out.bx.frz 1
  have x2 : U2.cell? ⟨g, 2, none⟩ = some (.int .u32 0) := HU2.out.bx.cell rfl
  have f2 : U2.frozen? ⟨g, 2, none⟩ = false := HU2.out.bx.frz 2
  have x3 : U2.cell? ⟨g, 3, none⟩ = some (.int .u32 0) := HU2.out.bx.cell rfl
  have f3 : U2.frozen? ⟨g, 3, none⟩ = false := HU2.out.bx.frz 3
  have x4 : U2.cell? ⟨g, 4, none⟩ = some (.int .i64 0) := HU2.out.bx.cell rfl
  have f4 : U2.frozen? ⟨g, 4, none⟩ = false := HU2.out.bx.frz 4
  have x5 : U2.cell? ⟨g, 5, none⟩ = some (.bool false) := HU2.out.bx.cell rfl
  have f5 : U2.frozen? ⟨g, 5, none⟩ = false := HU2.out.bx.frz 5
  have x6 : U2.cell? ⟨g, 6, none⟩ = some (.slice none 0 0) := HU2.out.bx.cell rfl
  have f6 : U2.frozen? ⟨g, 6, none⟩ = false := HU2.out.bx.frz 6
  obtain ⟨Z, hZ⟩ : ∃ Z, Z = ((((((U2.setCell ⟨g, 1, none⟩ (.int .i64 (f : Int))).setCell ⟨g, 2, none⟩ (.int .u32 (e : Int))).setCell ⟨g, 3, none⟩ (.int .u32 (n : Int))).setCell ⟨g, 4, none⟩ (.int .i64 (c0 : Int))).setCell ⟨g, 5, none⟩ (.bool ib)).setCell ⟨g, 6, none⟩ (.slice none 0 0)) := ⟨_, rfl⟩
  have HZ0 := Lib.hid (show OfS W p g (mr f e n c0 ib []) none 0 Z from by rw [hZ]; exact (OfS.set (n := mr f e n c0 ib []) (ta := none) (tc := 0) (OfS.set (n := { Ms.m0 1 with rc := ⟨(f : Int), e, n, (c0 : Int), ib, []⟩ }) (ta := none) (tc := 0) (OfS.set (n := { Ms.m0 1 with rc := ⟨(f : Int), e, n, (c0 : Int), false, []⟩ }) (ta := none) (tc := 0) (OfS.set (n := { Ms.m0 1 with rc := ⟨(f : Int), e, n, 0, false, []⟩ }) (ta := none) (tc := 0) (OfS.set (n := { Ms.m0 1 with rc := ⟨(f : Int), e, 0, 0, false, []⟩ }) (ta := none) (tc := 0) (OfS.set (n := { Ms.m0 1 with rc := ⟨(f : Int), 0, 0, 0, false, []⟩ }) (ta := none) (tc := 0) HU2.out rfl) rfl) rfl) rfl) rfl) rfl))
  have HZE := Lib.hid hZ
  clear hZ
  go_upto_region 8 with fail
  rw [← HZE.out]
  have H0 := Lib.hid (show OfR W p g f e n c0 q0 ib (.int .i64 1) Z from ⟨0, 1, rfl, rfl, Nat.zero_le _, none, 0, HZ0.out, arow_nil _ _⟩)
  clear x1 f1 x2 f2 x3 f3 x4 f4 x5 f5 x6 f6
  go_wp2_with fail
  go_loopw [9] (fun i wr => OfR W p g f e n c0 q0 ib i wr) (fun i _ => 26 - (intOf i).toNat)
  case atStart => exact H0.out
  case round =>
    clear H0
    obtain ⟨k, nn, hnn, rfl, hk24, sa, sc, hR, hA⟩ := hrel
    have HR := Lib.hid hR
    have HAR := Lib.hid hA
    have HNN := Lib.hid hnn
    have hl := adjU_len f e q0 k
    obtain ⟨L, hL⟩ : ∃ L, L = (adjU f e q0 k).length := ⟨_, rfl⟩
    rw [← hL] at hl
    have HLL := Lib.hid hL
    have hL24 : L ≤ 24 := by omega
    have hn25 : nn ≤ 25 := by omega
    have hn1 : 1 ≤ nn := by omega
    have x6 : wr.cell? ⟨g, 6, none⟩ = some (.slice sa L sc) := by rw [hL]; exact hR.bx.cell (i := 6) (u := .slice sa (adjU f e q0 k).length sc) rfl
    have f6 : wr.frozen? ⟨g, 6, none⟩ = false := hR.bx.frz 6
    have c5 := hR.c 5 (.int .u8 p.nr) rfl
    have c6 := hR.c 6 (.int .u32 p.ep) rfl
    have HBOUND := Lib.hid (show k ≤ 24 from hk24)
    clear hR hA hnn hL
    by_cases hlt : nn ≤ 24
    · have d1 : decide ((nn : Int) ≤ 24) = true := decide_eq_true (by omega)
      by_cases hLq : L < q0
      · have d2 : decide ((L : Int) < (q0 : Int)) = true := decide_eq_true (by omega)
        by_cases hnf : nn = f
        · have hstep : adjU f e q0 (k + 1) = adjU f e q0 k := by rw [adjU, if_neg (by have := HNN.out; omega)]
          have HREL := Lib.hid (show OfR W p g f e n c0 q0 ib (.int .i64 ((nn : Int) + 1)) wr from ⟨k + 1, nn + 1, by rw [HNN.out], by rw [show (nn : Int) + 1 = ((nn + 1 : Nat) : Int) from by simp], by have := HNN.out; omega, sa, sc, by rw [hstep]; exact HR.out, by rw [hstep]; exact HAR.out⟩)
          clear hstep
          subst hnf
          go_wp2_with fail
          go_roundw
          case rel => first | exact HREL.out | exact ⟨_, HREL.out, rfl⟩ | ((repeat apply Exists.intro); exact ⟨HREL.out, rfl⟩)
          case measure => simp [intOf]; omega
        · have d3 : ((nn : Int) == (f : Int)) = false := by rw [beq_eq_false_iff_ne]; omega
          have d3' : ((nn : Int) != (f : Int)) = true := by rw [bne_iff_ne]; omega
          have hstep : adjU f e q0 (k + 1) = adjU f e q0 k ++ [((nn : Int), (e : Int))] := by
            rw [adjU, if_pos ⟨by rw [← HLL.out]; exact hLq, by have := HNN.out; omega⟩, HNN.out]
          have HSTEP := Lib.hid hstep
          have HGS := Lib.hid (show g < wr.heap.size from (Array.getElem?_eq_some_iff.1 HR.out.bx).1)
          obtain ⟨i0, hi, hz0, hz1, hz2⟩ := info_parts' infoAdj
          have HNEW := Lib.hid (cell_two_new2 wr (.int .i64 (nn : Int)) (.int .i64 (e : Int)) 81)
          clear hstep hnf
          go_wp2_with (at_builtin; refine wpList_append_row _ rfl (.tmp 82) (.tmp 90) 23 rfl (g + 1) 81 i0 (.agg #[.int .i64 0, .int .i64 0]) 2 16 Try.underlying23 hi hz0 hz1 hz2 rfl (by decide) (.slice sa L sc) L (adjV (adjU f e q0 k)) rfl (by rw [HLL.out]; exact Row.alloc HAR.out _) ⟨wr.heap.size, 0, none⟩ 1 1 [.int .i64 (nn : Int), .int .i64 (e : Int)] rfl rfl ?c1 ?c2 ?c3 ?c4 ?c5 ?_)
          case c1 => exact HNEW.out
          case c2 => intro u hu; simp only [List.mem_cons, List.not_mem_nil, or_false] at hu; rcases hu with rfl | rfl <;> rfl
          case c3 => unfold maxLen; omega
          case c4 => omega
          case c5 => rw [World.size_alloc]; have := HGS.out; omega
          intro v' w' hrow hg _ _
          have hs := HR.out.later (show Below wr.heap.size wr (wr.alloc (.cells #[.int .i64 (nn : Int), .int .i64 (e : Int)] 81)) from (Below.refl _ _).alloc (Nat.le_refl _) _)
          have hs2 := hs.grown hg (fun j hj => by have := (Row.lt HAR.out j (by rw [← HLL.out]; exact hj)).1; omega)
          obtain ⟨sa', sc', rfl, _, _⟩ := hrow.shape
          have y6 : w'.cell? ⟨g, 6, none⟩ = some (.slice sa L sc) := by rw [HLL.out]; exact hs2.bx.cell (i := 6) (u := .slice sa (adjU f e q0 k).length sc) rfl
          have g6 : w'.frozen? ⟨g, 6, none⟩ = false := hs2.bx.frz 6
          have HREL := Lib.hid (show OfR W p g f e n c0 q0 ib (.int .i64 ((nn : Int) + 1)) (w'.setCell ⟨g, 6, none⟩ (.slice sa' (L + 1) sc')) from ⟨k + 1, nn + 1, by rw [HNN.out], by rw [show (nn : Int) + 1 = ((nn + 1 : Nat) : Int) from by simp], by have := HNN.out; omega, sa', sc', by
            have hlen : (adjU f e q0 (k + 1)).length = L + 1 := by rw [HSTEP.out, List.length_append, ← HLL.out]; rfl
            rw [← hlen]
            exact hs2.set rfl, by
            have hlen : (adjU f e q0 (k + 1)).length = L + 1 := by rw [HSTEP.out, List.length_append, ← HLL.out]; rfl
            unfold ARow
            rw [hlen, HSTEP.out, adjV_snoc]
            exact Row.setOther hrow ⟨g, 6, none⟩ _ (by simp only; omega)⟩)
          clear hrow hg hs hs2 hi hz0 hz1 hz2
          go_wp2_with fail
          go_roundw
          case rel => first | exact HREL.out | exact ⟨_, HREL.out, rfl⟩ | ((repeat apply Exists.intro); exact ⟨HREL.out, rfl⟩)
          case measure => simp [intOf]; omega
      · have d2 : decide ((L : Int) < (q0 : Int)) = false := decide_eq_false (by omega)
        have HFIN := Lib.hid (show ofM p = mr f e n c0 ib (adjU f e q0 k) from by
          have h1 := adjU_stop (f := f) (c := e) (lim := q0) (k := k) (by rw [← HLL.out]; omega) (24 - k)
          rw [show k + (24 - k) = 24 from by have := HBOUND.out; omega] at h1
          rw [HM.out, h1])
        have HEM := Lib.hid (show ofM p = mr f e n c0 ib (adjU f e q0 k) from HFIN.out)
        obtain ⟨M, hM⟩ : ∃ M : Ms, M = mr f e n c0 ib (adjU f e q0 k) := ⟨_, rfl⟩
        have HAM := Lib.hid (show M.rc.adjs = adjU f e q0 k by rw [hM]; rfl)
        have HZ := Lib.hid (show OfS W p g M sa sc wr by rw [hM]; exact HR.out)
        rw [← hM] at HEM
        have x0 : wr.cell? ⟨g, 0, none⟩ = some (.int .i64 1) := by
          have := HR.out.bx.cell (i := 0) (u := .int .i64 1) rfl
          exact this
        clear hM
        have HCC := Lib.hid (block_cells HZ.out.bx)
        have HRC := Lib.hid (show wr.heap[W.heap.size + 1]? = some (.cells (Ms.zero.cs none 0) 38 (0, 0)) from HZ.out.rs)
        have G1 := Lib.hid (info_msg M sa sc)
        have G2 := Lib.hid (info_msg' M sa sc)
        have G3 := Lib.hid (show (Ms.zero.cs none 0).size = (M.cs sa sc).size from rfl)
        have G4 := Lib.hid (cs_one M sa sc)
        have HEND := Lib.hid (show ∃ sa' sc', Ending.returned (.agg (M.cs sa sc)) = .returned ((ofM p).ag sa' sc') ∧ ARow (wr.setRow (W.heap.size + 1) (M.cs sa sc)) W.heap.size sa' sc' (ofM p).rc.adjs ∧ Below W.heap.size W (wr.setRow (W.heap.size + 1) (M.cs sa sc)) from by
          refine ⟨sa, sc, by rw [HEM.out]; rfl, ?_, below_setRow HZ.out.bel (Nat.le_succ _)⟩
          rw [HEM.out, HAM.out]
          have hgt := HZ.out.gt
          refine (Row.more HAR.out (by omega)).same fun j hj => ?_
          have := (Row.lt HAR.out j hj).1
          exact setRow_other _ _ _ _ (by omega))
        go_wp2_with (first | ((with_reducible refine wpList_load_cs rfl 38 (.tmp 3) rfl ⟨g, 0, none⟩ rfl (M.cs sa sc).toList _ HCC.out Try.underlying38 rfl G1.out ?_); rw [Array.toArray_toList]) | (with_reducible refine wpList_store_row rfl 38 (.tmp 2) (.tmp 147) rfl rfl (W.heap.size + 1) rfl 38 (Ms.zero.cs none 0) (M.cs sa sc) rfl HRC.out G2.out G3.out G4.out ?_))
        (try simp only [Exit.inBlock, Exit.then])
        refine bodyPost_ret (results_cell1 rfl rfl (setRow_heap _ _ _ _ _ _ HRC.out) Try.underlying38 rfl G1.out) rfl ?_
        exact HEND.out
    · have d1 : decide ((nn : Int) ≤ 24) = false := decide_eq_false (by omega)
      have HFIN := Lib.hid (show ofM p = mr f e n c0 ib (adjU f e q0 k) from by
        have : k = 24 := by have := HNN.out; have := HBOUND.out; omega
        rw [HM.out, this])
      have HEM := Lib.hid (show ofM p = mr f e n c0 ib (adjU f e q0 k) from HFIN.out)
      obtain ⟨M, hM⟩ : ∃ M : Ms, M = mr f e n c0 ib (adjU f e q0 k) := ⟨_, rfl⟩
      have HAM := Lib.hid (show M.rc.adjs = adjU f e q0 k by rw [hM]; rfl)
      have HZ := Lib.hid (show OfS W p g M sa sc wr by rw [hM]; exact HR.out)
      rw [← hM] at HEM
      have x0 : wr.cell? ⟨g, 0, none⟩ = some (.int .i64 1) := by
        have := HR.out.bx.cell (i := 0) (u := .int .i64 1) rfl
        exact this
      clear hM
      have HCC := Lib.hid (block_cells HZ.out.bx)
      have HRC := Lib.hid (show wr.heap[W.heap.size + 1]? = some (.cells (Ms.zero.cs none 0) 38 (0, 0)) from HZ.out.rs)
      have G1 := Lib.hid (info_msg M sa sc)
      have G2 := Lib.hid (info_msg' M sa sc)
      have G3 := Lib.hid (show (Ms.zero.cs none 0).size = (M.cs sa sc).size from rfl)
      have G4 := Lib.hid (cs_one M sa sc)
      have HEND := Lib.hid (show ∃ sa' sc', Ending.returned (.agg (M.cs sa sc)) = .returned ((ofM p).ag sa' sc') ∧ ARow (wr.setRow (W.heap.size + 1) (M.cs sa sc)) W.heap.size sa' sc' (ofM p).rc.adjs ∧ Below W.heap.size W (wr.setRow (W.heap.size + 1) (M.cs sa sc)) from by
        refine ⟨sa, sc, by rw [HEM.out]; rfl, ?_, below_setRow HZ.out.bel (Nat.le_succ _)⟩
        rw [HEM.out, HAM.out]
        have hgt := HZ.out.gt
        refine (Row.more HAR.out (by omega)).same fun j hj => ?_
        have := (Row.lt HAR.out j hj).1
        exact setRow_other _ _ _ _ (by omega))
      go_wp2_with (first | ((with_reducible refine wpList_load_cs rfl 38 (.tmp 3) rfl ⟨g, 0, none⟩ rfl (M.cs sa sc).toList _ HCC.out Try.underlying38 rfl G1.out ?_); rw [Array.toArray_toList]) | (with_reducible refine wpList_store_row rfl 38 (.tmp 2) (.tmp 147) rfl rfl (W.heap.size + 1) rfl 38 (Ms.zero.cs none 0) (M.cs sa sc) rfl HRC.out G2.out G3.out G4.out ?_))
      (try simp only [Exit.inBlock, Exit.then])
      refine bodyPost_ret (results_cell1 rfl rfl (setRow_heap _ _ _ _ _ _ HRC.out) Try.underlying38 rfl G1.out) rfl ?_
      exact HEND.out
set_option maxHeartbeats 6400000 in
theorem of2_any (p : Pt) (W : World) (hp : p.ok) (hk : p.kd % 5 = 1) : Calls Try.prog 15 #[p.ag] W fun e W' => ∃ sa sc, e = .returned ((ofM p).ag sa sc) ∧ ARow W' W.heap.size sa sc (ofM p).rc.adjs ∧ Below W.heap.size W W' := by
  obtain ⟨hk0, hk1, hk2, hk3, hk4, hk5, hk6, hk7, hk8, hk9⟩ := hp
  have tk : Int.tmod (p.kd : Int) 5 = 1 := by have := tm p.kd 5; rw [hk] at this; exact this
  obtain ⟨f0, hf0⟩ : ∃ x, x = p.fr % 24 := ⟨_, rfl⟩
  obtain ⟨f, hf⟩ : ∃ x, x = f0 + 1 := ⟨_, rfl⟩
  have tmf : Int.tmod (p.fr : Int) 24 = (f0 : Int) := by rw [hf0]; exact tm p.fr 24
  have sf : 1 + (f0 : Int) = (f : Int) := by omega
  have bf : f ≤ 24 := by omega
  have bf0 : f0 ≤ 24 := by omega
  have wf : IntKind.i64.wrap (f : Int) = (f : Int) := IntWalk.i64_in _ (by omega)
  have wf0 : IntKind.i64.wrap (f0 : Int) = (f0 : Int) := IntWalk.i64_in _ (by omega)
  obtain ⟨o0, ho0⟩ : ∃ x, x = p.ot % 24 := ⟨_, rfl⟩
  obtain ⟨o, ho⟩ : ∃ x, x = o0 + 1 := ⟨_, rfl⟩
  have tmo : Int.tmod (p.ot : Int) 24 = (o0 : Int) := by rw [ho0]; exact tm p.ot 24
  have so : 1 + (o0 : Int) = (o : Int) := by omega
  have bo : o ≤ 24 := by omega
  have bo0 : o0 ≤ 24 := by omega
  have wo : IntKind.i64.wrap (o : Int) = (o : Int) := IntWalk.i64_in _ (by omega)
  have wo0 : IntKind.i64.wrap (o0 : Int) = (o0 : Int) := IntWalk.i64_in _ (by omega)
  obtain ⟨e0, he0⟩ : ∃ x, x = p.ep % 1000 := ⟨_, rfl⟩
  obtain ⟨e, he⟩ : ∃ x, x = e0 + 1 := ⟨_, rfl⟩
  have tme : Int.tmod (p.ep : Int) 1000 = (e0 : Int) := by rw [he0]; exact tm p.ep 1000
  have se : 1 + (e0 : Int) = (e : Int) := by omega
  have be : e ≤ 1000 := by omega
  have be0 : e0 ≤ 1000 := by omega
  have we : IntKind.u32.wrap (e : Int) = (e : Int) := IntWalk.u32_in _ (by omega)
  have we0 : IntKind.u32.wrap (e0 : Int) = (e0 : Int) := IntWalk.u32_in _ (by omega)
  obtain ⟨n0, hn0⟩ : ∃ x, x = p.num % 1000 := ⟨_, rfl⟩
  obtain ⟨n, hn⟩ : ∃ x, x = n0 + 1 := ⟨_, rfl⟩
  have tmn : Int.tmod (p.num : Int) 1000 = (n0 : Int) := by rw [hn0]; exact tm p.num 1000
  have sn : 1 + (n0 : Int) = (n : Int) := by omega
  have bn : n ≤ 1000 := by omega
  have bn0 : n0 ≤ 1000 := by omega
  have wn : IntKind.u32.wrap (n : Int) = (n : Int) := IntWalk.u32_in _ (by omega)
  have wn0 : IntKind.u32.wrap (n0 : Int) = (n0 : Int) := IntWalk.u32_in _ (by omega)
  obtain ⟨l0, hl0⟩ : ∃ x, x = p.lif % 1000 := ⟨_, rfl⟩
  obtain ⟨l, hl⟩ : ∃ x, x = l0 + 1 := ⟨_, rfl⟩
  have tml : Int.tmod (p.lif : Int) 1000 = (l0 : Int) := by rw [hl0]; exact tm p.lif 1000
  have sl : 1 + (l0 : Int) = (l : Int) := by omega
  have bl : l ≤ 1000 := by omega
  have bl0 : l0 ≤ 1000 := by omega
  have wl : IntKind.u32.wrap (l : Int) = (l : Int) := IntWalk.u32_in _ (by omega)
  have wl0 : IntKind.u32.wrap (l0 : Int) = (l0 : Int) := IntWalk.u32_in _ (by omega)
  have HM := Lib.hid (show ofM p = { Ms.m0 2 with st := ⟨(f : Int), e, n⟩ } from by
    unfold ofM
    rw [if_neg (by omega), if_pos (by omega)]
    simp only [hf0, ho0, he0, hn0, hl0, hf, ho, he, hn, hl]
    rfl)
  obtain ⟨W1, hW1⟩ : ∃ W1, W1 = W.alloc (.cells p.cs 48) := ⟨_, rfl⟩
  obtain ⟨W2, hW2⟩ : ∃ W2, W2 = W1.alloc (.cells #[.int .i64 0, .int .i64 0, .int .u32 0, .int .u32 0, .int .i64 0, .bool false, .slice none 0 0, .int .i64 0, .int .u32 0, .int .u32 0, .int .i64 0, .int .i64 0, .int .u32 0, .int .i64 0, .int .i64 0, .int .i64 0, .int .u32 0, .int .u64 0, .int .u64 0, .int .u64 0, .int .u64 0, .int .i64 0, .int .i64 0, .int .i64 0, .int .u32 0, .int .u32 0, .int .u8 0, .int .i64 0, .int .u32 0, .int .i64 0, .int .u32 0, .int .u32 0] 38) := ⟨_, rfl⟩
  have hs1 : W1.heap.size = W.heap.size + 1 := by rw [hW1, World.size_alloc]
  have hs2 : W2.heap.size = W.heap.size + 2 := by rw [hW2, World.size_alloc, hs1]
  have hpr1 : W1.heap[W.heap.size]? = some (.cells p.cs 48 (0, 0)) := by rw [hW1]; exact heap_alloc_new _ _
  have hb12 : Below W1.heap.size W1 W2 := by rw [hW2]; exact (Below.refl _ _).alloc (Nat.le_refl _) _
  have hpr : W2.heap[W.heap.size]? = some (.cells p.cs 48 (0, 0)) := (hb12.block _ (by omega)).trans hpr1
  have hrs : W2.heap[W.heap.size + 1]? = some (.cells (Ms.zero.cs none 0) 38 (0, 0)) := by rw [hW2, ← hs1]; exact heap_alloc_new _ _
  have hb : Below W.heap.size W W2 := by
    refine Below.trans ?_ (hb12.mono (by omega))
    rw [hW1]; exact (Below.refl _ _).alloc (Nat.le_refl _) _
  have c0 : W2.cell? ⟨W.heap.size, 0, none⟩ = some (.int .u8 p.kd) := (cell_of_row _ _ 0 _ _ _ hpr).trans rfl
  obtain ⟨g, hg⟩ : ∃ g, g = W2.heap.size := ⟨_, rfl⟩
  obtain ⟨Y, hY⟩ : ∃ Y, Y = (W2.alloc (.cells #[.int .i64 0, .int .i64 0, .int .u32 0, .int .u32 0, .int .i64 0, .bool false, .slice none 0 0, .int .i64 0, .int .u32 0, .int .u32 0, .int .i64 0, .int .i64 0, .int .u32 0, .int .i64 0, .int .i64 0, .int .i64 0, .int .u32 0, .int .u64 0, .int .u64 0, .int .u64 0, .int .u64 0, .int .i64 0, .int .i64 0, .int .i64 0, .int .u32 0, .int .u32 0, .int .u8 0, .int .i64 0, .int .u32 0, .int .i64 0, .int .u32 0, .int .u32 0] 38)).setRow W2.heap.size #[.int .i64 2, .int .i64 0, .int .u32 0, .int .u32 0, .int .i64 0, .bool false, .slice none 0 0, .int .i64 0, .int .u32 0, .int .u32 0, .int .i64 0, .int .i64 0, .int .u32 0, .int .i64 0, .int .i64 0, .int .i64 0, .int .u32 0, .int .u64 0, .int .u64 0, .int .u64 0, .int .u64 0, .int .i64 0, .int .i64 0, .int .i64 0, .int .u32 0, .int .u32 0, .int .u8 0, .int .i64 0, .int .u32 0, .int .i64 0, .int .u32 0, .int .u32 0] := ⟨_, rfl⟩
  have HAL := Lib.hid (hal_new W2 #[.int .i64 0, .int .i64 0, .int .u32 0, .int .u32 0, .int .i64 0, .bool false, .slice none 0 0, .int .i64 0, .int .u32 0, .int .u32 0, .int .i64 0, .int .i64 0, .int .u32 0, .int .i64 0, .int .i64 0, .int .i64 0, .int .u32 0, .int .u64 0, .int .u64 0, .int .u64 0, .int .u64 0, .int .i64 0, .int .i64 0, .int .i64 0, .int .u32 0, .int .u32 0, .int .u8 0, .int .i64 0, .int .u32 0, .int .i64 0, .int .u32 0, .int .u32 0] 38)
  have hbY : Below W2.heap.size W2 Y := by rw [hY]; exact below_setRow ((Below.refl _ _).alloc (Nat.le_refl _) _) (Nat.le_refl _)
  have HS0 := Lib.hid (show OfS W p g (Ms.m0 2) none 0 Y from ⟨hb.trans (hbY.mono hb.size), (hbY.block _ (by omega)).trans hpr, (hbY.block _ (by omega)).trans hrs, by rw [hY, hg]; exact setRow_heap _ _ _ _ _ _ HAL.out, by omega⟩)
  have HS2 := Lib.hid (show (Try.prog.info? 38).map (·.size) = some (#[.int .i64 2, .int .i64 0, .int .u32 0, .int .u32 0, .int .i64 0, .bool false, .slice none 0 0, .int .i64 0, .int .u32 0, .int .u32 0, .int .i64 0, .int .i64 0, .int .u32 0, .int .i64 0, .int .i64 0, .int .i64 0, .int .u32 0, .int .u64 0, .int .u64 0, .int .u64 0, .int .u64 0, .int .i64 0, .int .i64 0, .int .i64 0, .int .u32 0, .int .u32 0, .int .u8 0, .int .i64 0, .int .u32 0, .int .i64 0, .int .u32 0, .int .u32 0] : Array Value).size from info_msg' (Ms.m0 2) none 0)
  have HS3 := Lib.hid (show (#[.int .i64 0, .int .i64 0, .int .u32 0, .int .u32 0, .int .i64 0, .bool false, .slice none 0 0, .int .i64 0, .int .u32 0, .int .u32 0, .int .i64 0, .int .i64 0, .int .u32 0, .int .i64 0, .int .i64 0, .int .i64 0, .int .u32 0, .int .u64 0, .int .u64 0, .int .u64 0, .int .u64 0, .int .i64 0, .int .i64 0, .int .i64 0, .int .u32 0, .int .u32 0, .int .u8 0, .int .i64 0, .int .u32 0, .int .i64 0, .int .u32 0, .int .u32 0] : Array Value).size = (#[.int .i64 2, .int .i64 0, .int .u32 0, .int .u32 0, .int .i64 0, .bool false, .slice none 0 0, .int .i64 0, .int .u32 0, .int .u32 0, .int .i64 0, .int .i64 0, .int .u32 0, .int .i64 0, .int .i64 0, .int .i64 0, .int .u32 0, .int .u64 0, .int .u64 0, .int .u64 0, .int .u64 0, .int .i64 0, .int .i64 0, .int .i64 0, .int .u32 0, .int .u32 0, .int .u8 0, .int .i64 0, .int .u32 0, .int .i64 0, .int .u32 0, .int .u32 0] : Array Value).size from rfl)
  have HS4 := Lib.hid (show (#[.int .i64 2, .int .i64 0, .int .u32 0, .int .u32 0, .int .i64 0, .bool false, .slice none 0 0, .int .i64 0, .int .u32 0, .int .u32 0, .int .i64 0, .int .i64 0, .int .u32 0, .int .i64 0, .int .i64 0, .int .i64 0, .int .u32 0, .int .u64 0, .int .u64 0, .int .u64 0, .int .u64 0, .int .i64 0, .int .i64 0, .int .i64 0, .int .u32 0, .int .u32 0, .int .u8 0, .int .i64 0, .int .u32 0, .int .i64 0, .int .u32 0, .int .u32 0] : Array Value).all (·.oneCell') = true from cs_one (Ms.m0 2) none 0)
  have HY := Lib.hid hY
  have HGG := Lib.hid hg
  have HW1 := Lib.hid hW1
  have HW2 := Lib.hid hW2
  clear hW1 hW2 hs1 hs2 hpr1 hb12 hpr hrs hb hg hY hbY hk hf0 ho0 he0 hn0 hl0 hf ho he hn hl
  go_enter Try.func15, Try.ntmps15
  unfold Pt.ag at *
  go_upto_region 1 with fail
  rw [← HW1.out, ← HW2.out]
  go_wp2_with (with_reducible refine wpList_store_row rfl 38 (.tmp 3) (.tmp 15) rfl rfl W2.heap.size rfl 38 #[.int .i64 0, .int .i64 0, .int .u32 0, .int .u32 0, .int .i64 0, .bool false, .slice none 0 0, .int .i64 0, .int .u32 0, .int .u32 0, .int .i64 0, .int .i64 0, .int .u32 0, .int .i64 0, .int .i64 0, .int .i64 0, .int .u32 0, .int .u64 0, .int .u64 0, .int .u64 0, .int .u64 0, .int .i64 0, .int .i64 0, .int .i64 0, .int .u32 0, .int .u32 0, .int .u8 0, .int .i64 0, .int .u32 0, .int .i64 0, .int .u32 0, .int .u32 0] #[.int .i64 2, .int .i64 0, .int .u32 0, .int .u32 0, .int .i64 0, .bool false, .slice none 0 0, .int .i64 0, .int .u32 0, .int .u32 0, .int .i64 0, .int .i64 0, .int .u32 0, .int .i64 0, .int .i64 0, .int .i64 0, .int .u32 0, .int .u64 0, .int .u64 0, .int .u64 0, .int .u64 0, .int .i64 0, .int .i64 0, .int .i64 0, .int .u32 0, .int .u32 0, .int .u8 0, .int .i64 0, .int .u32 0, .int .i64 0, .int .u32 0, .int .u32 0] rfl HAL.out HS2.out HS3.out HS4.out ?_)
  rw [← HY.out, ← HGG.out]
  clear c0
  obtain ⟨U, hU⟩ : ∃ X, X = Y.drew := ⟨_, rfl⟩
  have HU := Lib.hid (show OfS W p g (Ms.m0 2) none 0 U by rw [hU]; exact HS0.out.later (drew_below _))
  refine wp_region_ord [(0, true), (1, true), (2, true), (3, true), (4, true), (5, true), (6, true), (7, true), (8, true), (9, true), (10, true), (11, true)] (OfS W p g (Ms.m0 2) none 0) (by kernel_rfl) (by kernel_rfl) (by decide) (by kernel_rfl) (fun d _ _ _ _ h => by cases d <;> first | exact h | exact h.later (drew_below _)) (by rw [← hU]; exact HU.out) ?_
  rw [← hU]
  clear hU
  iterate 12 ((apply wpOrd_take rfl rfl (by kernel_rfl); (intro V hV; have c3 := hV.c 3 (.int .u8 p.fr) rfl; have c4 := hV.c 4 (.int .u8 p.ot) rfl; go_simp; rfl)); (try simp only [List.setIfInBounds_toArray, List.set_cons_succ, List.set_cons_zero]))
  refine wpOrd_nil ?_
  go_wp2_with fail
  obtain ⟨U2, hU⟩ : ∃ X, X = U.drew := ⟨_, rfl⟩
  have HU2 := Lib.hid (show OfS W p g (Ms.m0 2) none 0 U2 by rw [hU]; exact HU.out.later (drew_below _))
  refine wp_region_ord [(0, true), (1, true), (2, true), (3, true), (4, true), (5, true), (6, true), (7, true), (8, true), (9, true), (10, true), (11, true), (12, true), (13, true), (14, true)] (OfS W p g (Ms.m0 2) none 0) (by kernel_rfl) (by kernel_rfl) (by decide) (by kernel_rfl) (fun d _ _ _ _ h => by cases d <;> first | exact h | exact h.later (drew_below _)) (by rw [← hU]; exact HU2.out) ?_
  rw [← hU]
  clear hU
  iterate 15 ((apply wpOrd_take rfl rfl (by kernel_rfl); (intro V hV; have c6 := hV.c 6 (.int .u32 p.ep) rfl; have c7 := hV.c 7 (.int .u32 p.num) rfl; have c8 := hV.c 8 (.int .u32 p.lif) rfl; go_simp; rfl)); (try simp only [List.setIfInBounds_toArray, List.set_cons_succ, List.set_cons_zero]))
  refine wpOrd_nil ?_
  have c0 := HU2.out.c 0 (.int .u8 p.kd) rfl
  have c1 := HU2.out.c 1 (.int .u8 p.tow) rfl
  have c2 := HU2.out.c 2 (.int .u8 p.hp) rfl
  have c3 := HU2.out.c 3 (.int .u8 p.fr) rfl
  have c4 := HU2.out.c 4 (.int .u8 p.ot) rfl
  have c5 := HU2.out.c 5 (.int .u8 p.nr) rfl
  have c6 := HU2.out.c 6 (.int .u32 p.ep) rfl
  have c7 := HU2.out.c 7 (.int .u32 p.num) rfl
  have c8 := HU2.out.c 8 (.int .u32 p.lif) rfl
  have c9 := HU2.out.c 9 (.int .u64 p.bits.a) rfl
  have c10 := HU2.out.c 10 (.int .u64 p.bits.b) rfl
  have c11 := HU2.out.c 11 (.int .u64 p.bits.c) rfl
  have c12 := HU2.out.c 12 (.int .u64 p.bits.d) rfl
  have x0 : U2.cell? ⟨g, 0, none⟩ = some (.int .i64 2) := HU2.out.bx.cell rfl
  have x7 : U2.cell? ⟨g, 7, none⟩ = some (.int .i64 0) := HU2.out.bx.cell rfl
  have f7 : U2.frozen? ⟨g, 7, none⟩ = false := HU2.out.bx.frz 7
  have x8 : U2.cell? ⟨g, 8, none⟩ = some (.int .u32 0) := HU2.out.bx.cell rfl
  have f8 : U2.frozen? ⟨g, 8, none⟩ = false := HU2.out.bx.frz 8
  have x9 : U2.cell? ⟨g, 9, none⟩ = some (.int .u32 0) := HU2.out.bx.cell rfl
  have f9 : U2.frozen? ⟨g, 9, none⟩ = false := HU2.out.bx.frz 9
  obtain ⟨M, hM⟩ : ∃ M : Ms, M = { Ms.m0 2 with st := ⟨(f : Int), e, n⟩ } := ⟨_, rfl⟩
  obtain ⟨Z, hZ⟩ : ∃ Z, Z = (((U2.setCell ⟨g, 7, none⟩ (.int .i64 (f : Int))).setCell ⟨g, 8, none⟩ (.int .u32 (e : Int))).setCell ⟨g, 9, none⟩ (.int .u32 (n : Int))) := ⟨_, rfl⟩
  have HZ := Lib.hid (show OfS W p g M none 0 Z from by rw [hM, hZ]; exact (OfS.set (n := { Ms.m0 2 with st := ⟨(f : Int), e, n⟩ }) (ta := none) (tc := 0) (OfS.set (n := { Ms.m0 2 with st := ⟨(f : Int), e, 0⟩ }) (ta := none) (tc := 0) (OfS.set (n := { Ms.m0 2 with st := ⟨(f : Int), 0, 0⟩ }) (ta := none) (tc := 0) HU2.out rfl) rfl) rfl))
  have HEM := Lib.hid (show ofM p = M by rw [HM.out, hM])
  have HZE := Lib.hid hZ
  clear hM hZ
  go_upto_region 22 with fail
  rw [← HZE.out]
  have HCC := Lib.hid (block_cells HZ.out.bx)
  have HRC := Lib.hid (show Z.heap[W.heap.size + 1]? = some (.cells (Ms.zero.cs none 0) 38 (0, 0)) from HZ.out.rs)
  have G1 := Lib.hid (info_msg M none 0)
  have G2 := Lib.hid (info_msg' M none 0)
  have G3 := Lib.hid (show (Ms.zero.cs none 0).size = (M.cs none 0).size from rfl)
  have G4 := Lib.hid (cs_one M none 0)
  go_wp2_with (first | ((with_reducible refine wpList_load_cs rfl 38 (.tmp 3) rfl ⟨g, 0, none⟩ rfl (M.cs none 0).toList _ HCC.out Try.underlying38 rfl G1.out ?_); rw [Array.toArray_toList]) | (with_reducible refine wpList_store_row rfl 38 (.tmp 2) (.tmp 147) rfl rfl (W.heap.size + 1) rfl 38 (Ms.zero.cs none 0) (M.cs none 0) rfl HRC.out G2.out G3.out G4.out ?_))
  (try simp only [Exit.inBlock, Exit.then])
  refine bodyPost_ret (results_cell1 rfl rfl (setRow_heap _ _ _ _ _ _ HRC.out) Try.underlying38 rfl (info_msg M none 0)) rfl ⟨none, 0, by rw [HEM.out]; rfl, ?_, below_setRow HZ.out.bel (Nat.le_succ _)⟩
  rw [HM.out]
  exact arow_nil _ _
set_option maxHeartbeats 6400000 in
theorem of3_any (p : Pt) (W : World) (hp : p.ok) (hk : p.kd % 5 = 2) : Calls Try.prog 15 #[p.ag] W fun e W' => ∃ sa sc, e = .returned ((ofM p).ag sa sc) ∧ ARow W' W.heap.size sa sc (ofM p).rc.adjs ∧ Below W.heap.size W W' := by
  obtain ⟨hk0, hk1, hk2, hk3, hk4, hk5, hk6, hk7, hk8, hk9⟩ := hp
  have tk : Int.tmod (p.kd : Int) 5 = 2 := by have := tm p.kd 5; rw [hk] at this; exact this
  obtain ⟨f0, hf0⟩ : ∃ x, x = p.fr % 24 := ⟨_, rfl⟩
  obtain ⟨f, hf⟩ : ∃ x, x = f0 + 1 := ⟨_, rfl⟩
  have tmf : Int.tmod (p.fr : Int) 24 = (f0 : Int) := by rw [hf0]; exact tm p.fr 24
  have sf : 1 + (f0 : Int) = (f : Int) := by omega
  have bf : f ≤ 24 := by omega
  have bf0 : f0 ≤ 24 := by omega
  have wf : IntKind.i64.wrap (f : Int) = (f : Int) := IntWalk.i64_in _ (by omega)
  have wf0 : IntKind.i64.wrap (f0 : Int) = (f0 : Int) := IntWalk.i64_in _ (by omega)
  obtain ⟨o0, ho0⟩ : ∃ x, x = p.ot % 24 := ⟨_, rfl⟩
  obtain ⟨o, ho⟩ : ∃ x, x = o0 + 1 := ⟨_, rfl⟩
  have tmo : Int.tmod (p.ot : Int) 24 = (o0 : Int) := by rw [ho0]; exact tm p.ot 24
  have so : 1 + (o0 : Int) = (o : Int) := by omega
  have bo : o ≤ 24 := by omega
  have bo0 : o0 ≤ 24 := by omega
  have wo : IntKind.i64.wrap (o : Int) = (o : Int) := IntWalk.i64_in _ (by omega)
  have wo0 : IntKind.i64.wrap (o0 : Int) = (o0 : Int) := IntWalk.i64_in _ (by omega)
  obtain ⟨e0, he0⟩ : ∃ x, x = p.ep % 1000 := ⟨_, rfl⟩
  obtain ⟨e, he⟩ : ∃ x, x = e0 + 1 := ⟨_, rfl⟩
  have tme : Int.tmod (p.ep : Int) 1000 = (e0 : Int) := by rw [he0]; exact tm p.ep 1000
  have se : 1 + (e0 : Int) = (e : Int) := by omega
  have be : e ≤ 1000 := by omega
  have be0 : e0 ≤ 1000 := by omega
  have we : IntKind.u32.wrap (e : Int) = (e : Int) := IntWalk.u32_in _ (by omega)
  have we0 : IntKind.u32.wrap (e0 : Int) = (e0 : Int) := IntWalk.u32_in _ (by omega)
  obtain ⟨n0, hn0⟩ : ∃ x, x = p.num % 1000 := ⟨_, rfl⟩
  obtain ⟨n, hn⟩ : ∃ x, x = n0 + 1 := ⟨_, rfl⟩
  have tmn : Int.tmod (p.num : Int) 1000 = (n0 : Int) := by rw [hn0]; exact tm p.num 1000
  have sn : 1 + (n0 : Int) = (n : Int) := by omega
  have bn : n ≤ 1000 := by omega
  have bn0 : n0 ≤ 1000 := by omega
  have wn : IntKind.u32.wrap (n : Int) = (n : Int) := IntWalk.u32_in _ (by omega)
  have wn0 : IntKind.u32.wrap (n0 : Int) = (n0 : Int) := IntWalk.u32_in _ (by omega)
  obtain ⟨l0, hl0⟩ : ∃ x, x = p.lif % 1000 := ⟨_, rfl⟩
  obtain ⟨l, hl⟩ : ∃ x, x = l0 + 1 := ⟨_, rfl⟩
  have tml : Int.tmod (p.lif : Int) 1000 = (l0 : Int) := by rw [hl0]; exact tm p.lif 1000
  have sl : 1 + (l0 : Int) = (l : Int) := by omega
  have bl : l ≤ 1000 := by omega
  have bl0 : l0 ≤ 1000 := by omega
  have wl : IntKind.u32.wrap (l : Int) = (l : Int) := IntWalk.u32_in _ (by omega)
  have wl0 : IntKind.u32.wrap (l0 : Int) = (l0 : Int) := IntWalk.u32_in _ (by omega)
  obtain ⟨a0, ha0⟩ : ∃ x, x = p.num % 128 := ⟨_, rfl⟩
  have tma : Int.tmod (p.num : Int) 128 = (a0 : Int) := by rw [ha0]; exact tm p.num 128
  have ba0 : a0 ≤ 128 := by omega
  obtain ⟨h0, hh0⟩ : ∃ x, x = p.hp % 16 := ⟨_, rfl⟩
  have tmh : Int.tmod (p.hp : Int) 16 = (h0 : Int) := by rw [hh0]; exact tm p.hp 16
  have bh0 : h0 ≤ 16 := by omega
  obtain ⟨r0, hr0⟩ : ∃ x, x = p.nr % 8 := ⟨_, rfl⟩
  have tmr : Int.tmod (p.nr : Int) 8 = (r0 : Int) := by rw [hr0]; exact tm p.nr 8
  have br0 : r0 ≤ 8 := by omega
  have HM := Lib.hid (show ofM p = { Ms.m0 3 with hd := ⟨256, (a0 : Int), p.ep, (h0 : Int), (f : Int), (r0 : Int), p.lif, p.bits⟩ } from by
    unfold ofM
    rw [if_neg (by omega), if_neg (by omega), if_pos (by omega)]
    simp only [hf0, ho0, he0, hn0, hl0, hf, ho, he, hn, hl, ha0, hh0, hr0]
    rfl)
  obtain ⟨W1, hW1⟩ : ∃ W1, W1 = W.alloc (.cells p.cs 48) := ⟨_, rfl⟩
  obtain ⟨W2, hW2⟩ : ∃ W2, W2 = W1.alloc (.cells #[.int .i64 0, .int .i64 0, .int .u32 0, .int .u32 0, .int .i64 0, .bool false, .slice none 0 0, .int .i64 0, .int .u32 0, .int .u32 0, .int .i64 0, .int .i64 0, .int .u32 0, .int .i64 0, .int .i64 0, .int .i64 0, .int .u32 0, .int .u64 0, .int .u64 0, .int .u64 0, .int .u64 0, .int .i64 0, .int .i64 0, .int .i64 0, .int .u32 0, .int .u32 0, .int .u8 0, .int .i64 0, .int .u32 0, .int .i64 0, .int .u32 0, .int .u32 0] 38) := ⟨_, rfl⟩
  have hs1 : W1.heap.size = W.heap.size + 1 := by rw [hW1, World.size_alloc]
  have hs2 : W2.heap.size = W.heap.size + 2 := by rw [hW2, World.size_alloc, hs1]
  have hpr1 : W1.heap[W.heap.size]? = some (.cells p.cs 48 (0, 0)) := by rw [hW1]; exact heap_alloc_new _ _
  have hb12 : Below W1.heap.size W1 W2 := by rw [hW2]; exact (Below.refl _ _).alloc (Nat.le_refl _) _
  have hpr : W2.heap[W.heap.size]? = some (.cells p.cs 48 (0, 0)) := (hb12.block _ (by omega)).trans hpr1
  have hrs : W2.heap[W.heap.size + 1]? = some (.cells (Ms.zero.cs none 0) 38 (0, 0)) := by rw [hW2, ← hs1]; exact heap_alloc_new _ _
  have hb : Below W.heap.size W W2 := by
    refine Below.trans ?_ (hb12.mono (by omega))
    rw [hW1]; exact (Below.refl _ _).alloc (Nat.le_refl _) _
  have c0 : W2.cell? ⟨W.heap.size, 0, none⟩ = some (.int .u8 p.kd) := (cell_of_row _ _ 0 _ _ _ hpr).trans rfl
  obtain ⟨g, hg⟩ : ∃ g, g = W2.heap.size := ⟨_, rfl⟩
  obtain ⟨Y, hY⟩ : ∃ Y, Y = (W2.alloc (.cells #[.int .i64 0, .int .i64 0, .int .u32 0, .int .u32 0, .int .i64 0, .bool false, .slice none 0 0, .int .i64 0, .int .u32 0, .int .u32 0, .int .i64 0, .int .i64 0, .int .u32 0, .int .i64 0, .int .i64 0, .int .i64 0, .int .u32 0, .int .u64 0, .int .u64 0, .int .u64 0, .int .u64 0, .int .i64 0, .int .i64 0, .int .i64 0, .int .u32 0, .int .u32 0, .int .u8 0, .int .i64 0, .int .u32 0, .int .i64 0, .int .u32 0, .int .u32 0] 38)).setRow W2.heap.size #[.int .i64 3, .int .i64 0, .int .u32 0, .int .u32 0, .int .i64 0, .bool false, .slice none 0 0, .int .i64 0, .int .u32 0, .int .u32 0, .int .i64 0, .int .i64 0, .int .u32 0, .int .i64 0, .int .i64 0, .int .i64 0, .int .u32 0, .int .u64 0, .int .u64 0, .int .u64 0, .int .u64 0, .int .i64 0, .int .i64 0, .int .i64 0, .int .u32 0, .int .u32 0, .int .u8 0, .int .i64 0, .int .u32 0, .int .i64 0, .int .u32 0, .int .u32 0] := ⟨_, rfl⟩
  have HAL := Lib.hid (hal_new W2 #[.int .i64 0, .int .i64 0, .int .u32 0, .int .u32 0, .int .i64 0, .bool false, .slice none 0 0, .int .i64 0, .int .u32 0, .int .u32 0, .int .i64 0, .int .i64 0, .int .u32 0, .int .i64 0, .int .i64 0, .int .i64 0, .int .u32 0, .int .u64 0, .int .u64 0, .int .u64 0, .int .u64 0, .int .i64 0, .int .i64 0, .int .i64 0, .int .u32 0, .int .u32 0, .int .u8 0, .int .i64 0, .int .u32 0, .int .i64 0, .int .u32 0, .int .u32 0] 38)
  have hbY : Below W2.heap.size W2 Y := by rw [hY]; exact below_setRow ((Below.refl _ _).alloc (Nat.le_refl _) _) (Nat.le_refl _)
  have HS0 := Lib.hid (show OfS W p g (Ms.m0 3) none 0 Y from ⟨hb.trans (hbY.mono hb.size), (hbY.block _ (by omega)).trans hpr, (hbY.block _ (by omega)).trans hrs, by rw [hY, hg]; exact setRow_heap _ _ _ _ _ _ HAL.out, by omega⟩)
  have HS2 := Lib.hid (show (Try.prog.info? 38).map (·.size) = some (#[.int .i64 3, .int .i64 0, .int .u32 0, .int .u32 0, .int .i64 0, .bool false, .slice none 0 0, .int .i64 0, .int .u32 0, .int .u32 0, .int .i64 0, .int .i64 0, .int .u32 0, .int .i64 0, .int .i64 0, .int .i64 0, .int .u32 0, .int .u64 0, .int .u64 0, .int .u64 0, .int .u64 0, .int .i64 0, .int .i64 0, .int .i64 0, .int .u32 0, .int .u32 0, .int .u8 0, .int .i64 0, .int .u32 0, .int .i64 0, .int .u32 0, .int .u32 0] : Array Value).size from info_msg' (Ms.m0 3) none 0)
  have HS3 := Lib.hid (show (#[.int .i64 0, .int .i64 0, .int .u32 0, .int .u32 0, .int .i64 0, .bool false, .slice none 0 0, .int .i64 0, .int .u32 0, .int .u32 0, .int .i64 0, .int .i64 0, .int .u32 0, .int .i64 0, .int .i64 0, .int .i64 0, .int .u32 0, .int .u64 0, .int .u64 0, .int .u64 0, .int .u64 0, .int .i64 0, .int .i64 0, .int .i64 0, .int .u32 0, .int .u32 0, .int .u8 0, .int .i64 0, .int .u32 0, .int .i64 0, .int .u32 0, .int .u32 0] : Array Value).size = (#[.int .i64 3, .int .i64 0, .int .u32 0, .int .u32 0, .int .i64 0, .bool false, .slice none 0 0, .int .i64 0, .int .u32 0, .int .u32 0, .int .i64 0, .int .i64 0, .int .u32 0, .int .i64 0, .int .i64 0, .int .i64 0, .int .u32 0, .int .u64 0, .int .u64 0, .int .u64 0, .int .u64 0, .int .i64 0, .int .i64 0, .int .i64 0, .int .u32 0, .int .u32 0, .int .u8 0, .int .i64 0, .int .u32 0, .int .i64 0, .int .u32 0, .int .u32 0] : Array Value).size from rfl)
  have HS4 := Lib.hid (show (#[.int .i64 3, .int .i64 0, .int .u32 0, .int .u32 0, .int .i64 0, .bool false, .slice none 0 0, .int .i64 0, .int .u32 0, .int .u32 0, .int .i64 0, .int .i64 0, .int .u32 0, .int .i64 0, .int .i64 0, .int .i64 0, .int .u32 0, .int .u64 0, .int .u64 0, .int .u64 0, .int .u64 0, .int .i64 0, .int .i64 0, .int .i64 0, .int .u32 0, .int .u32 0, .int .u8 0, .int .i64 0, .int .u32 0, .int .i64 0, .int .u32 0, .int .u32 0] : Array Value).all (·.oneCell') = true from cs_one (Ms.m0 3) none 0)
  have HY := Lib.hid hY
  have HGG := Lib.hid hg
  have HW1 := Lib.hid hW1
  have HW2 := Lib.hid hW2
  clear hW1 hW2 hs1 hs2 hpr1 hb12 hpr hrs hb hg hY hbY hk hf0 ho0 he0 hn0 hl0 hf ho he hn hl ha0 hh0 hr0
  go_enter Try.func15, Try.ntmps15
  unfold Pt.ag at *
  go_upto_region 1 with fail
  rw [← HW1.out, ← HW2.out]
  go_wp2_with (with_reducible refine wpList_store_row rfl 38 (.tmp 3) (.tmp 15) rfl rfl W2.heap.size rfl 38 #[.int .i64 0, .int .i64 0, .int .u32 0, .int .u32 0, .int .i64 0, .bool false, .slice none 0 0, .int .i64 0, .int .u32 0, .int .u32 0, .int .i64 0, .int .i64 0, .int .u32 0, .int .i64 0, .int .i64 0, .int .i64 0, .int .u32 0, .int .u64 0, .int .u64 0, .int .u64 0, .int .u64 0, .int .i64 0, .int .i64 0, .int .i64 0, .int .u32 0, .int .u32 0, .int .u8 0, .int .i64 0, .int .u32 0, .int .i64 0, .int .u32 0, .int .u32 0] #[.int .i64 3, .int .i64 0, .int .u32 0, .int .u32 0, .int .i64 0, .bool false, .slice none 0 0, .int .i64 0, .int .u32 0, .int .u32 0, .int .i64 0, .int .i64 0, .int .u32 0, .int .i64 0, .int .i64 0, .int .i64 0, .int .u32 0, .int .u64 0, .int .u64 0, .int .u64 0, .int .u64 0, .int .i64 0, .int .i64 0, .int .i64 0, .int .u32 0, .int .u32 0, .int .u8 0, .int .i64 0, .int .u32 0, .int .i64 0, .int .u32 0, .int .u32 0] rfl HAL.out HS2.out HS3.out HS4.out ?_)
  rw [← HY.out, ← HGG.out]
  clear c0
  obtain ⟨U, hU⟩ : ∃ X, X = Y.drew := ⟨_, rfl⟩
  have HU := Lib.hid (show OfS W p g (Ms.m0 3) none 0 U by rw [hU]; exact HS0.out.later (drew_below _))
  refine wp_region_ord [(0, true), (1, true), (2, true), (3, true), (4, true), (5, true), (6, true), (7, true), (8, true), (9, true), (10, true), (11, true)] (OfS W p g (Ms.m0 3) none 0) (by kernel_rfl) (by kernel_rfl) (by decide) (by kernel_rfl) (fun d _ _ _ _ h => by cases d <;> first | exact h | exact h.later (drew_below _)) (by rw [← hU]; exact HU.out) ?_
  rw [← hU]
  clear hU
  iterate 12 ((apply wpOrd_take rfl rfl (by kernel_rfl); (intro V hV; have c3 := hV.c 3 (.int .u8 p.fr) rfl; have c4 := hV.c 4 (.int .u8 p.ot) rfl; go_simp; rfl)); (try simp only [List.setIfInBounds_toArray, List.set_cons_succ, List.set_cons_zero]))
  refine wpOrd_nil ?_
  go_wp2_with fail
  obtain ⟨U2, hU⟩ : ∃ X, X = U.drew := ⟨_, rfl⟩
  have HU2 := Lib.hid (show OfS W p g (Ms.m0 3) none 0 U2 by rw [hU]; exact HU.out.later (drew_below _))
  refine wp_region_ord [(0, true), (1, true), (2, true), (3, true), (4, true), (5, true), (6, true), (7, true), (8, true), (9, true), (10, true), (11, true), (12, true), (13, true), (14, true)] (OfS W p g (Ms.m0 3) none 0) (by kernel_rfl) (by kernel_rfl) (by decide) (by kernel_rfl) (fun d _ _ _ _ h => by cases d <;> first | exact h | exact h.later (drew_below _)) (by rw [← hU]; exact HU2.out) ?_
  rw [← hU]
  clear hU
  iterate 15 ((apply wpOrd_take rfl rfl (by kernel_rfl); (intro V hV; have c6 := hV.c 6 (.int .u32 p.ep) rfl; have c7 := hV.c 7 (.int .u32 p.num) rfl; have c8 := hV.c 8 (.int .u32 p.lif) rfl; go_simp; rfl)); (try simp only [List.setIfInBounds_toArray, List.set_cons_succ, List.set_cons_zero]))
  refine wpOrd_nil ?_
  have c0 := HU2.out.c 0 (.int .u8 p.kd) rfl
  have c1 := HU2.out.c 1 (.int .u8 p.tow) rfl
  have c2 := HU2.out.c 2 (.int .u8 p.hp) rfl
  have c3 := HU2.out.c 3 (.int .u8 p.fr) rfl
  have c4 := HU2.out.c 4 (.int .u8 p.ot) rfl
  have c5 := HU2.out.c 5 (.int .u8 p.nr) rfl
  have c6 := HU2.out.c 6 (.int .u32 p.ep) rfl
  have c7 := HU2.out.c 7 (.int .u32 p.num) rfl
  have c8 := HU2.out.c 8 (.int .u32 p.lif) rfl
  have c9 := HU2.out.c 9 (.int .u64 p.bits.a) rfl
  have c10 := HU2.out.c 10 (.int .u64 p.bits.b) rfl
  have c11 := HU2.out.c 11 (.int .u64 p.bits.c) rfl
  have c12 := HU2.out.c 12 (.int .u64 p.bits.d) rfl
  have x0 : U2.cell? ⟨g, 0, none⟩ = some (.int .i64 3) := HU2.out.bx.cell rfl
  have x10 : U2.cell? ⟨g, 10, none⟩ = some (.int .i64 0) := HU2.out.bx.cell rfl
  have f10 : U2.frozen? ⟨g, 10, none⟩ = false := HU2.out.bx.frz 10
  have x11 : U2.cell? ⟨g, 11, none⟩ = some (.int .i64 0) := HU2.out.bx.cell rfl
  have f11 : U2.frozen? ⟨g, 11, none⟩ = false := HU2.out.bx.frz 11
  have x12 : U2.cell? ⟨g, 12, none⟩ = some (.int .u32 0) := HU2.out.bx.cell rfl
  have f12 : U2.frozen? ⟨g, 12, none⟩ = false := HU2.out.bx.frz 12
  have x13 : U2.cell? ⟨g, 13, none⟩ = some (.int .i64 0) := HU2.out.bx.cell rfl
  have f13 : U2.frozen? ⟨g, 13, none⟩ = false := HU2.out.bx.frz 13
  have x14 : U2.cell? ⟨g, 14, none⟩ = some (.int .i64 0) := HU2.out.bx.cell rfl
  have f14 : U2.frozen? ⟨g, 14, none⟩ = false := HU2.out.bx.frz 14
  have x15 : U2.cell? ⟨g, 15, none⟩ = some (.int .i64 0) := HU2.out.bx.cell rfl
  have f15 : U2.frozen? ⟨g, 15, none⟩ = false := HU2.out.bx.frz 15
  have x16 : U2.cell? ⟨g, 16, none⟩ = some (.int .u32 0) := HU2.out.bx.cell rfl
  have f16 : U2.frozen? ⟨g, 16, none⟩ = false := HU2.out.bx.frz 16
  have x17 : U2.cell? ⟨g, 17, none⟩ = some (.int .u64 0) := HU2.out.bx.cell rfl
  have f17 : U2.frozen? ⟨g, 17, none⟩ = false := HU2.out.bx.frz 17
  have x18 : U2.cell? ⟨g, 18, none⟩ = some (.int .u64 0) := HU2.out.bx.cell rfl
  have f18 : U2.frozen? ⟨g, 18, none⟩ = false := HU2.out.bx.frz 18
  have x19 : U2.cell? ⟨g, 19, none⟩ = some (.int .u64 0) := HU2.out.bx.cell rfl
  have f19 : U2.frozen? ⟨g, 19, none⟩ = false := HU2.out.bx.frz 19
  have x20 : U2.cell? ⟨g, 20, none⟩ = some (.int .u64 0) := HU2.out.bx.cell rfl
  have f20 : U2.frozen? ⟨g, 20, none⟩ = false := HU2.out.bx.frz 20
  obtain ⟨M, hM⟩ : ∃ M : Ms, M = { Ms.m0 3 with hd := ⟨256, (a0 : Int), p.ep, (h0 : Int), (f : Int), (r0 : Int), p.lif, p.bits⟩ } := ⟨_, rfl⟩
  obtain ⟨Z, hZ⟩ : ∃ Z, Z = (((((((((((U2.setCell ⟨g, 10, none⟩ (.int .i64 256)).setCell ⟨g, 11, none⟩ (.int .i64 (a0 : Int))).setCell ⟨g, 12, none⟩ (.int .u32 (p.ep : Int))).setCell ⟨g, 13, none⟩ (.int .i64 (h0 : Int))).setCell ⟨g, 14, none⟩ (.int .i64 (f : Int))).setCell ⟨g, 15, none⟩ (.int .i64 (r0 : Int))).setCell ⟨g, 16, none⟩ (.int .u32 (p.lif : Int))).setCell ⟨g, 17, none⟩ (.int .u64 (p.bits.a : Int))).setCell ⟨g, 18, none⟩ (.int .u64 (p.bits.b : Int))).setCell ⟨g, 19, none⟩ (.int .u64 (p.bits.c : Int))).setCell ⟨g, 20, none⟩ (.int .u64 (p.bits.d : Int))) := ⟨_, rfl⟩
  have HZ := Lib.hid (show OfS W p g M none 0 Z from by rw [hM, hZ]; exact (OfS.set (n := { Ms.m0 3 with hd := ⟨256, (a0 : Int), p.ep, (h0 : Int), (f : Int), (r0 : Int), p.lif, ⟨p.bits.a, p.bits.b, p.bits.c, p.bits.d⟩⟩ }) (ta := none) (tc := 0) (OfS.set (n := { Ms.m0 3 with hd := ⟨256, (a0 : Int), p.ep, (h0 : Int), (f : Int), (r0 : Int), p.lif, ⟨p.bits.a, p.bits.b, p.bits.c, 0⟩⟩ }) (ta := none) (tc := 0) (OfS.set (n := { Ms.m0 3 with hd := ⟨256, (a0 : Int), p.ep, (h0 : Int), (f : Int), (r0 : Int), p.lif, ⟨p.bits.a, p.bits.b, 0, 0⟩⟩ }) (ta := none) (tc := 0) (OfS.set (n := { Ms.m0 3 with hd := ⟨256, (a0 : Int), p.ep, (h0 : Int), (f : Int), (r0 : Int), p.lif, ⟨p.bits.a, 0, 0, 0⟩⟩ }) (ta := none) (tc := 0) (OfS.set (n := { Ms.m0 3 with hd := ⟨256, (a0 : Int), p.ep, (h0 : Int), (f : Int), (r0 : Int), p.lif, ⟨0, 0, 0, 0⟩⟩ }) (ta := none) (tc := 0) (OfS.set (n := { Ms.m0 3 with hd := ⟨256, (a0 : Int), p.ep, (h0 : Int), (f : Int), (r0 : Int), 0, ⟨0, 0, 0, 0⟩⟩ }) (ta := none) (tc := 0) (OfS.set (n := { Ms.m0 3 with hd := ⟨256, (a0 : Int), p.ep, (h0 : Int), (f : Int), 0, 0, ⟨0, 0, 0, 0⟩⟩ }) (ta := none) (tc := 0) (OfS.set (n := { Ms.m0 3 with hd := ⟨256, (a0 : Int), p.ep, (h0 : Int), 0, 0, 0, ⟨0, 0, 0, 0⟩⟩ }) (ta := none) (tc := 0) (OfS.set (n := { Ms.m0 3 with hd := ⟨256, (a0 : Int), p.ep, 0, 0, 0, 0, ⟨0, 0, 0, 0⟩⟩ }) (ta := none) (tc := 0) (OfS.set (n := { Ms.m0 3 with hd := ⟨256, (a0 : Int), 0, 0, 0, 0, 0, ⟨0, 0, 0, 0⟩⟩ }) (ta := none) (tc := 0) (OfS.set (n := { Ms.m0 3 with hd := ⟨256, 0, 0, 0, 0, 0, 0, ⟨0, 0, 0, 0⟩⟩ }) (ta := none) (tc := 0) HU2.out rfl) rfl) rfl) rfl) rfl) rfl) rfl) rfl) rfl) rfl) rfl))
  have HEM := Lib.hid (show ofM p = M by rw [HM.out, hM])
  have HZE := Lib.hid hZ
  clear hM hZ
  go_upto_region 22 with fail
  rw [← HZE.out]
  have HCC := Lib.hid (block_cells HZ.out.bx)
  have HRC := Lib.hid (show Z.heap[W.heap.size + 1]? = some (.cells (Ms.zero.cs none 0) 38 (0, 0)) from HZ.out.rs)
  have G1 := Lib.hid (info_msg M none 0)
  have G2 := Lib.hid (info_msg' M none 0)
  have G3 := Lib.hid (show (Ms.zero.cs none 0).size = (M.cs none 0).size from rfl)
  have G4 := Lib.hid (cs_one M none 0)
  go_wp2_with (first | ((with_reducible refine wpList_load_cs rfl 38 (.tmp 3) rfl ⟨g, 0, none⟩ rfl (M.cs none 0).toList _ HCC.out Try.underlying38 rfl G1.out ?_); rw [Array.toArray_toList]) | (with_reducible refine wpList_store_row rfl 38 (.tmp 2) (.tmp 147) rfl rfl (W.heap.size + 1) rfl 38 (Ms.zero.cs none 0) (M.cs none 0) rfl HRC.out G2.out G3.out G4.out ?_))
  (try simp only [Exit.inBlock, Exit.then])
  refine bodyPost_ret (results_cell1 rfl rfl (setRow_heap _ _ _ _ _ _ HRC.out) Try.underlying38 rfl (info_msg M none 0)) rfl ⟨none, 0, by rw [HEM.out]; rfl, ?_, below_setRow HZ.out.bel (Nat.le_succ _)⟩
  rw [HM.out]
  exact arow_nil _ _
set_option maxHeartbeats 6400000 in
theorem of4_any (p : Pt) (W : World) (hp : p.ok) (hk : p.kd % 5 = 3) : Calls Try.prog 15 #[p.ag] W fun e W' => ∃ sa sc, e = .returned ((ofM p).ag sa sc) ∧ ARow W' W.heap.size sa sc (ofM p).rc.adjs ∧ Below W.heap.size W W' := by
  obtain ⟨hk0, hk1, hk2, hk3, hk4, hk5, hk6, hk7, hk8, hk9⟩ := hp
  have tk : Int.tmod (p.kd : Int) 5 = 3 := by have := tm p.kd 5; rw [hk] at this; exact this
  obtain ⟨f0, hf0⟩ : ∃ x, x = p.fr % 24 := ⟨_, rfl⟩
  obtain ⟨f, hf⟩ : ∃ x, x = f0 + 1 := ⟨_, rfl⟩
  have tmf : Int.tmod (p.fr : Int) 24 = (f0 : Int) := by rw [hf0]; exact tm p.fr 24
  have sf : 1 + (f0 : Int) = (f : Int) := by omega
  have bf : f ≤ 24 := by omega
  have bf0 : f0 ≤ 24 := by omega
  have wf : IntKind.i64.wrap (f : Int) = (f : Int) := IntWalk.i64_in _ (by omega)
  have wf0 : IntKind.i64.wrap (f0 : Int) = (f0 : Int) := IntWalk.i64_in _ (by omega)
  obtain ⟨o0, ho0⟩ : ∃ x, x = p.ot % 24 := ⟨_, rfl⟩
  obtain ⟨o, ho⟩ : ∃ x, x = o0 + 1 := ⟨_, rfl⟩
  have tmo : Int.tmod (p.ot : Int) 24 = (o0 : Int) := by rw [ho0]; exact tm p.ot 24
  have so : 1 + (o0 : Int) = (o : Int) := by omega
  have bo : o ≤ 24 := by omega
  have bo0 : o0 ≤ 24 := by omega
  have wo : IntKind.i64.wrap (o : Int) = (o : Int) := IntWalk.i64_in _ (by omega)
  have wo0 : IntKind.i64.wrap (o0 : Int) = (o0 : Int) := IntWalk.i64_in _ (by omega)
  obtain ⟨e0, he0⟩ : ∃ x, x = p.ep % 1000 := ⟨_, rfl⟩
  obtain ⟨e, he⟩ : ∃ x, x = e0 + 1 := ⟨_, rfl⟩
  have tme : Int.tmod (p.ep : Int) 1000 = (e0 : Int) := by rw [he0]; exact tm p.ep 1000
  have se : 1 + (e0 : Int) = (e : Int) := by omega
  have be : e ≤ 1000 := by omega
  have be0 : e0 ≤ 1000 := by omega
  have we : IntKind.u32.wrap (e : Int) = (e : Int) := IntWalk.u32_in _ (by omega)
  have we0 : IntKind.u32.wrap (e0 : Int) = (e0 : Int) := IntWalk.u32_in _ (by omega)
  obtain ⟨n0, hn0⟩ : ∃ x, x = p.num % 1000 := ⟨_, rfl⟩
  obtain ⟨n, hn⟩ : ∃ x, x = n0 + 1 := ⟨_, rfl⟩
  have tmn : Int.tmod (p.num : Int) 1000 = (n0 : Int) := by rw [hn0]; exact tm p.num 1000
  have sn : 1 + (n0 : Int) = (n : Int) := by omega
  have bn : n ≤ 1000 := by omega
  have bn0 : n0 ≤ 1000 := by omega
  have wn : IntKind.u32.wrap (n : Int) = (n : Int) := IntWalk.u32_in _ (by omega)
  have wn0 : IntKind.u32.wrap (n0 : Int) = (n0 : Int) := IntWalk.u32_in _ (by omega)
  obtain ⟨l0, hl0⟩ : ∃ x, x = p.lif % 1000 := ⟨_, rfl⟩
  obtain ⟨l, hl⟩ : ∃ x, x = l0 + 1 := ⟨_, rfl⟩
  have tml : Int.tmod (p.lif : Int) 1000 = (l0 : Int) := by rw [hl0]; exact tm p.lif 1000
  have sl : 1 + (l0 : Int) = (l : Int) := by omega
  have bl : l ≤ 1000 := by omega
  have bl0 : l0 ≤ 1000 := by omega
  have wl : IntKind.u32.wrap (l : Int) = (l : Int) := IntWalk.u32_in _ (by omega)
  have wl0 : IntKind.u32.wrap (l0 : Int) = (l0 : Int) := IntWalk.u32_in _ (by omega)
  obtain ⟨d0, hd0⟩ : ∃ x, x = p.tow % 24 := ⟨_, rfl⟩
  have tmd : Int.tmod (p.tow : Int) 24 = (d0 : Int) := by rw [hd0]; exact tm p.tow 24
  have bd0 : d0 ≤ 24 := by omega
  obtain ⟨d, hd⟩ : ∃ x, x = d0 + 1 := ⟨_, rfl⟩
  have sd : 1 + (d0 : Int) = (d : Int) := by omega
  have bd : d ≤ 24 := by omega
  obtain ⟨h0, hh0⟩ : ∃ x, x = p.hp % 25 := ⟨_, rfl⟩
  have tmh : Int.tmod (p.hp : Int) 25 = (h0 : Int) := by rw [hh0]; exact tm p.hp 25
  have bh0 : h0 ≤ 25 := by omega
  have HM := Lib.hid (show ofM p = { Ms.m0 4 with dst := (d : Int), hops := (h0 : Int), wi := ⟨(f : Int), e, n, p.nr⟩ } from by
    unfold ofM
    rw [if_neg (by omega), if_neg (by omega), if_neg (by omega), if_pos (by omega)]
    simp only [hf0, ho0, he0, hn0, hl0, hf, ho, he, hn, hl, hd0, hh0, hd]
    rfl)
  obtain ⟨W1, hW1⟩ : ∃ W1, W1 = W.alloc (.cells p.cs 48) := ⟨_, rfl⟩
  obtain ⟨W2, hW2⟩ : ∃ W2, W2 = W1.alloc (.cells #[.int .i64 0, .int .i64 0, .int .u32 0, .int .u32 0, .int .i64 0, .bool false, .slice none 0 0, .int .i64 0, .int .u32 0, .int .u32 0, .int .i64 0, .int .i64 0, .int .u32 0, .int .i64 0, .int .i64 0, .int .i64 0, .int .u32 0, .int .u64 0, .int .u64 0, .int .u64 0, .int .u64 0, .int .i64 0, .int .i64 0, .int .i64 0, .int .u32 0, .int .u32 0, .int .u8 0, .int .i64 0, .int .u32 0, .int .i64 0, .int .u32 0, .int .u32 0] 38) := ⟨_, rfl⟩
  have hs1 : W1.heap.size = W.heap.size + 1 := by rw [hW1, World.size_alloc]
  have hs2 : W2.heap.size = W.heap.size + 2 := by rw [hW2, World.size_alloc, hs1]
  have hpr1 : W1.heap[W.heap.size]? = some (.cells p.cs 48 (0, 0)) := by rw [hW1]; exact heap_alloc_new _ _
  have hb12 : Below W1.heap.size W1 W2 := by rw [hW2]; exact (Below.refl _ _).alloc (Nat.le_refl _) _
  have hpr : W2.heap[W.heap.size]? = some (.cells p.cs 48 (0, 0)) := (hb12.block _ (by omega)).trans hpr1
  have hrs : W2.heap[W.heap.size + 1]? = some (.cells (Ms.zero.cs none 0) 38 (0, 0)) := by rw [hW2, ← hs1]; exact heap_alloc_new _ _
  have hb : Below W.heap.size W W2 := by
    refine Below.trans ?_ (hb12.mono (by omega))
    rw [hW1]; exact (Below.refl _ _).alloc (Nat.le_refl _) _
  have c0 : W2.cell? ⟨W.heap.size, 0, none⟩ = some (.int .u8 p.kd) := (cell_of_row _ _ 0 _ _ _ hpr).trans rfl
  obtain ⟨g, hg⟩ : ∃ g, g = W2.heap.size := ⟨_, rfl⟩
  obtain ⟨Y, hY⟩ : ∃ Y, Y = (W2.alloc (.cells #[.int .i64 0, .int .i64 0, .int .u32 0, .int .u32 0, .int .i64 0, .bool false, .slice none 0 0, .int .i64 0, .int .u32 0, .int .u32 0, .int .i64 0, .int .i64 0, .int .u32 0, .int .i64 0, .int .i64 0, .int .i64 0, .int .u32 0, .int .u64 0, .int .u64 0, .int .u64 0, .int .u64 0, .int .i64 0, .int .i64 0, .int .i64 0, .int .u32 0, .int .u32 0, .int .u8 0, .int .i64 0, .int .u32 0, .int .i64 0, .int .u32 0, .int .u32 0] 38)).setRow W2.heap.size #[.int .i64 4, .int .i64 0, .int .u32 0, .int .u32 0, .int .i64 0, .bool false, .slice none 0 0, .int .i64 0, .int .u32 0, .int .u32 0, .int .i64 0, .int .i64 0, .int .u32 0, .int .i64 0, .int .i64 0, .int .i64 0, .int .u32 0, .int .u64 0, .int .u64 0, .int .u64 0, .int .u64 0, .int .i64 0, .int .i64 0, .int .i64 0, .int .u32 0, .int .u32 0, .int .u8 0, .int .i64 0, .int .u32 0, .int .i64 0, .int .u32 0, .int .u32 0] := ⟨_, rfl⟩
  have HAL := Lib.hid (hal_new W2 #[.int .i64 0, .int .i64 0, .int .u32 0, .int .u32 0, .int .i64 0, .bool false, .slice none 0 0, .int .i64 0, .int .u32 0, .int .u32 0, .int .i64 0, .int .i64 0, .int .u32 0, .int .i64 0, .int .i64 0, .int .i64 0, .int .u32 0, .int .u64 0, .int .u64 0, .int .u64 0, .int .u64 0, .int .i64 0, .int .i64 0, .int .i64 0, .int .u32 0, .int .u32 0, .int .u8 0, .int .i64 0, .int .u32 0, .int .i64 0, .int .u32 0, .int .u32 0] 38)
  have hbY : Below W2.heap.size W2 Y := by rw [hY]; exact below_setRow ((Below.refl _ _).alloc (Nat.le_refl _) _) (Nat.le_refl _)
  have HS0 := Lib.hid (show OfS W p g (Ms.m0 4) none 0 Y from ⟨hb.trans (hbY.mono hb.size), (hbY.block _ (by omega)).trans hpr, (hbY.block _ (by omega)).trans hrs, by rw [hY, hg]; exact setRow_heap _ _ _ _ _ _ HAL.out, by omega⟩)
  have HS2 := Lib.hid (show (Try.prog.info? 38).map (·.size) = some (#[.int .i64 4, .int .i64 0, .int .u32 0, .int .u32 0, .int .i64 0, .bool false, .slice none 0 0, .int .i64 0, .int .u32 0, .int .u32 0, .int .i64 0, .int .i64 0, .int .u32 0, .int .i64 0, .int .i64 0, .int .i64 0, .int .u32 0, .int .u64 0, .int .u64 0, .int .u64 0, .int .u64 0, .int .i64 0, .int .i64 0, .int .i64 0, .int .u32 0, .int .u32 0, .int .u8 0, .int .i64 0, .int .u32 0, .int .i64 0, .int .u32 0, .int .u32 0] : Array Value).size from info_msg' (Ms.m0 4) none 0)
  have HS3 := Lib.hid (show (#[.int .i64 0, .int .i64 0, .int .u32 0, .int .u32 0, .int .i64 0, .bool false, .slice none 0 0, .int .i64 0, .int .u32 0, .int .u32 0, .int .i64 0, .int .i64 0, .int .u32 0, .int .i64 0, .int .i64 0, .int .i64 0, .int .u32 0, .int .u64 0, .int .u64 0, .int .u64 0, .int .u64 0, .int .i64 0, .int .i64 0, .int .i64 0, .int .u32 0, .int .u32 0, .int .u8 0, .int .i64 0, .int .u32 0, .int .i64 0, .int .u32 0, .int .u32 0] : Array Value).size = (#[.int .i64 4, .int .i64 0, .int .u32 0, .int .u32 0, .int .i64 0, .bool false, .slice none 0 0, .int .i64 0, .int .u32 0, .int .u32 0, .int .i64 0, .int .i64 0, .int .u32 0, .int .i64 0, .int .i64 0, .int .i64 0, .int .u32 0, .int .u64 0, .int .u64 0, .int .u64 0, .int .u64 0, .int .i64 0, .int .i64 0, .int .i64 0, .int .u32 0, .int .u32 0, .int .u8 0, .int .i64 0, .int .u32 0, .int .i64 0, .int .u32 0, .int .u32 0] : Array Value).size from rfl)
  have HS4 := Lib.hid (show (#[.int .i64 4, .int .i64 0, .int .u32 0, .int .u32 0, .int .i64 0, .bool false, .slice none 0 0, .int .i64 0, .int .u32 0, .int .u32 0, .int .i64 0, .int .i64 0, .int .u32 0, .int .i64 0, .int .i64 0, .int .i64 0, .int .u32 0, .int .u64 0, .int .u64 0, .int .u64 0, .int .u64 0, .int .i64 0, .int .i64 0, .int .i64 0, .int .u32 0, .int .u32 0, .int .u8 0, .int .i64 0, .int .u32 0, .int .i64 0, .int .u32 0, .int .u32 0] : Array Value).all (·.oneCell') = true from cs_one (Ms.m0 4) none 0)
  have HY := Lib.hid hY
  have HGG := Lib.hid hg
  have HW1 := Lib.hid hW1
  have HW2 := Lib.hid hW2
  clear hW1 hW2 hs1 hs2 hpr1 hb12 hpr hrs hb hg hY hbY hk hf0 ho0 he0 hn0 hl0 hf ho he hn hl hd0 hh0 hd
  go_enter Try.func15, Try.ntmps15
  unfold Pt.ag at *
  go_upto_region 1 with fail
  rw [← HW1.out, ← HW2.out]
  go_wp2_with (with_reducible refine wpList_store_row rfl 38 (.tmp 3) (.tmp 15) rfl rfl W2.heap.size rfl 38 #[.int .i64 0, .int .i64 0, .int .u32 0, .int .u32 0, .int .i64 0, .bool false, .slice none 0 0, .int .i64 0, .int .u32 0, .int .u32 0, .int .i64 0, .int .i64 0, .int .u32 0, .int .i64 0, .int .i64 0, .int .i64 0, .int .u32 0, .int .u64 0, .int .u64 0, .int .u64 0, .int .u64 0, .int .i64 0, .int .i64 0, .int .i64 0, .int .u32 0, .int .u32 0, .int .u8 0, .int .i64 0, .int .u32 0, .int .i64 0, .int .u32 0, .int .u32 0] #[.int .i64 4, .int .i64 0, .int .u32 0, .int .u32 0, .int .i64 0, .bool false, .slice none 0 0, .int .i64 0, .int .u32 0, .int .u32 0, .int .i64 0, .int .i64 0, .int .u32 0, .int .i64 0, .int .i64 0, .int .i64 0, .int .u32 0, .int .u64 0, .int .u64 0, .int .u64 0, .int .u64 0, .int .i64 0, .int .i64 0, .int .i64 0, .int .u32 0, .int .u32 0, .int .u8 0, .int .i64 0, .int .u32 0, .int .i64 0, .int .u32 0, .int .u32 0] rfl HAL.out HS2.out HS3.out HS4.out ?_)
  rw [← HY.out, ← HGG.out]
  clear c0
  obtain ⟨U, hU⟩ : ∃ X, X = Y.drew := ⟨_, rfl⟩
  have HU := Lib.hid (show OfS W p g (Ms.m0 4) none 0 U by rw [hU]; exact HS0.out.later (drew_below _))
  refine wp_region_ord [(0, true), (1, true), (2, true), (3, true), (4, true), (5, true), (6, true), (7, true), (8, true), (9, true), (10, true), (11, true)] (OfS W p g (Ms.m0 4) none 0) (by kernel_rfl) (by kernel_rfl) (by decide) (by kernel_rfl) (fun d _ _ _ _ h => by cases d <;> first | exact h | exact h.later (drew_below _)) (by rw [← hU]; exact HU.out) ?_
  rw [← hU]
  clear hU
  iterate 12 ((apply wpOrd_take rfl rfl (by kernel_rfl); (intro V hV; have c3 := hV.c 3 (.int .u8 p.fr) rfl; have c4 := hV.c 4 (.int .u8 p.ot) rfl; go_simp; rfl)); (try simp only [List.setIfInBounds_toArray, List.set_cons_succ, List.set_cons_zero]))
  refine wpOrd_nil ?_
  go_wp2_with fail
  obtain ⟨U2, hU⟩ : ∃ X, X = U.drew := ⟨_, rfl⟩
  have HU2 := Lib.hid (show OfS W p g (Ms.m0 4) none 0 U2 by rw [hU]; exact HU.out.later (drew_below _))
  refine wp_region_ord [(0, true), (1, true), (2, true), (3, true), (4, true), (5, true), (6, true), (7, true), (8, true), (9, true), (10, true), (11, true), (12, true), (13, true), (14, true)] (OfS W p g (Ms.m0 4) none 0) (by kernel_rfl) (by kernel_rfl) (by decide) (by kernel_rfl) (fun d _ _ _ _ h => by cases d <;> first | exact h | exact h.later (drew_below _)) (by rw [← hU]; exact HU2.out) ?_
  rw [← hU]
  clear hU
  iterate 15 ((apply wpOrd_take rfl rfl (by kernel_rfl); (intro V hV; have c6 := hV.c 6 (.int .u32 p.ep) rfl; have c7 := hV.c 7 (.int .u32 p.num) rfl; have c8 := hV.c 8 (.int .u32 p.lif) rfl; go_simp; rfl)); (try simp only [List.setIfInBounds_toArray, List.set_cons_succ, List.set_cons_zero]))
  refine wpOrd_nil ?_
  have c0 := HU2.out.c 0 (.int .u8 p.kd) rfl
  have c1 := HU2.out.c 1 (.int .u8 p.tow) rfl
  have c2 := HU2.out.c 2 (.int .u8 p.hp) rfl
  have c3 := HU2.out.c 3 (.int .u8 p.fr) rfl
  have c4 := HU2.out.c 4 (.int .u8 p.ot) rfl
  have c5 := HU2.out.c 5 (.int .u8 p.nr) rfl
  have c6 := HU2.out.c 6 (.int .u32 p.ep) rfl
  have c7 := HU2.out.c 7 (.int .u32 p.num) rfl
  have c8 := HU2.out.c 8 (.int .u32 p.lif) rfl
  have c9 := HU2.out.c 9 (.int .u64 p.bits.a) rfl
  have c10 := HU2.out.c 10 (.int .u64 p.bits.b) rfl
  have c11 := HU2.out.c 11 (.int .u64 p.bits.c) rfl
  have c12 := HU2.out.c 12 (.int .u64 p.bits.d) rfl
  have x0 : U2.cell? ⟨g, 0, none⟩ = some (.int .i64 4) := HU2.out.bx.cell rfl
  have x23 : U2.cell? ⟨g, 23, none⟩ = some (.int .i64 0) := HU2.out.bx.cell rfl
  have f23 : U2.frozen? ⟨g, 23, none⟩ = false := HU2.out.bx.frz 23
  have x24 : U2.cell? ⟨g, 24, none⟩ = some (.int .u32 0) := HU2.out.bx.cell rfl
  have f24 : U2.frozen? ⟨g, 24, none⟩ = false := HU2.out.bx.frz 24
  have x25 : U2.cell? ⟨g, 25, none⟩ = some (.int .u32 0) := HU2.out.bx.cell rfl
  have f25 : U2.frozen? ⟨g, 25, none⟩ = false := HU2.out.bx.frz 25
  have x26 : U2.cell? ⟨g, 26, none⟩ = some (.int .u8 0) := HU2.out.bx.cell rfl
  have f26 : U2.frozen? ⟨g, 26, none⟩ = false := HU2.out.bx.frz 26
  have x21 : U2.cell? ⟨g, 21, none⟩ = some (.int .i64 0) := HU2.out.bx.cell rfl
  have f21 : U2.frozen? ⟨g, 21, none⟩ = false := HU2.out.bx.frz 21
  have x22 : U2.cell? ⟨g, 22, none⟩ = some (.int .i64 0) := HU2.out.bx.cell rfl
  have f22 : U2.frozen? ⟨g, 22, none⟩ = false := HU2.out.bx.frz 22
  obtain ⟨M, hM⟩ : ∃ M : Ms, M = { Ms.m0 4 with dst := (d : Int), hops := (h0 : Int), wi := ⟨(f : Int), e, n, p.nr⟩ } := ⟨_, rfl⟩
  obtain ⟨Z, hZ⟩ : ∃ Z, Z = ((((((U2.setCell ⟨g, 23, none⟩ (.int .i64 (f : Int))).setCell ⟨g, 24, none⟩ (.int .u32 (e : Int))).setCell ⟨g, 25, none⟩ (.int .u32 (n : Int))).setCell ⟨g, 26, none⟩ (.int .u8 (p.nr : Int))).setCell ⟨g, 21, none⟩ (.int .i64 (d : Int))).setCell ⟨g, 22, none⟩ (.int .i64 (h0 : Int))) := ⟨_, rfl⟩
  have HZ := Lib.hid (show OfS W p g M none 0 Z from by rw [hM, hZ]; exact (OfS.set (n := { Ms.m0 4 with dst := (d : Int), hops := (h0 : Int), wi := ⟨(f : Int), e, n, p.nr⟩ }) (ta := none) (tc := 0) (OfS.set (n := { Ms.m0 4 with dst := (d : Int), wi := ⟨(f : Int), e, n, p.nr⟩ }) (ta := none) (tc := 0) (OfS.set (n := { Ms.m0 4 with wi := ⟨(f : Int), e, n, p.nr⟩ }) (ta := none) (tc := 0) (OfS.set (n := { Ms.m0 4 with wi := ⟨(f : Int), e, n, 0⟩ }) (ta := none) (tc := 0) (OfS.set (n := { Ms.m0 4 with wi := ⟨(f : Int), e, 0, 0⟩ }) (ta := none) (tc := 0) (OfS.set (n := { Ms.m0 4 with wi := ⟨(f : Int), 0, 0, 0⟩ }) (ta := none) (tc := 0) HU2.out rfl) rfl) rfl) rfl) rfl) rfl))
  have HEM := Lib.hid (show ofM p = M by rw [HM.out, hM])
  have HZE := Lib.hid hZ
  clear hM hZ
  go_upto_region 22 with fail
  rw [← HZE.out]
  have HCC := Lib.hid (block_cells HZ.out.bx)
  have HRC := Lib.hid (show Z.heap[W.heap.size + 1]? = some (.cells (Ms.zero.cs none 0) 38 (0, 0)) from HZ.out.rs)
  have G1 := Lib.hid (info_msg M none 0)
  have G2 := Lib.hid (info_msg' M none 0)
  have G3 := Lib.hid (show (Ms.zero.cs none 0).size = (M.cs none 0).size from rfl)
  have G4 := Lib.hid (cs_one M none 0)
  go_wp2_with (first | ((with_reducible refine wpList_load_cs rfl 38 (.tmp 3) rfl ⟨g, 0, none⟩ rfl (M.cs none 0).toList _ HCC.out Try.underlying38 rfl G1.out ?_); rw [Array.toArray_toList]) | (with_reducible refine wpList_store_row rfl 38 (.tmp 2) (.tmp 147) rfl rfl (W.heap.size + 1) rfl 38 (Ms.zero.cs none 0) (M.cs none 0) rfl HRC.out G2.out G3.out G4.out ?_))
  (try simp only [Exit.inBlock, Exit.then])
  refine bodyPost_ret (results_cell1 rfl rfl (setRow_heap _ _ _ _ _ _ HRC.out) Try.underlying38 rfl (info_msg M none 0)) rfl ⟨none, 0, by rw [HEM.out]; rfl, ?_, below_setRow HZ.out.bel (Nat.le_succ _)⟩
  rw [HM.out]
  exact arow_nil _ _
set_option maxHeartbeats 6400000 in
theorem of5_any (p : Pt) (W : World) (hp : p.ok) (hk : p.kd % 5 = 4) : Calls Try.prog 15 #[p.ag] W fun e W' => ∃ sa sc, e = .returned ((ofM p).ag sa sc) ∧ ARow W' W.heap.size sa sc (ofM p).rc.adjs ∧ Below W.heap.size W W' := by
  obtain ⟨hk0, hk1, hk2, hk3, hk4, hk5, hk6, hk7, hk8, hk9⟩ := hp
  have tk : Int.tmod (p.kd : Int) 5 = 4 := by have := tm p.kd 5; rw [hk] at this; exact this
  obtain ⟨f0, hf0⟩ : ∃ x, x = p.fr % 24 := ⟨_, rfl⟩
  obtain ⟨f, hf⟩ : ∃ x, x = f0 + 1 := ⟨_, rfl⟩
  have tmf : Int.tmod (p.fr : Int) 24 = (f0 : Int) := by rw [hf0]; exact tm p.fr 24
  have sf : 1 + (f0 : Int) = (f : Int) := by omega
  have bf : f ≤ 24 := by omega
  have bf0 : f0 ≤ 24 := by omega
  have wf : IntKind.i64.wrap (f : Int) = (f : Int) := IntWalk.i64_in _ (by omega)
  have wf0 : IntKind.i64.wrap (f0 : Int) = (f0 : Int) := IntWalk.i64_in _ (by omega)
  obtain ⟨o0, ho0⟩ : ∃ x, x = p.ot % 24 := ⟨_, rfl⟩
  obtain ⟨o, ho⟩ : ∃ x, x = o0 + 1 := ⟨_, rfl⟩
  have tmo : Int.tmod (p.ot : Int) 24 = (o0 : Int) := by rw [ho0]; exact tm p.ot 24
  have so : 1 + (o0 : Int) = (o : Int) := by omega
  have bo : o ≤ 24 := by omega
  have bo0 : o0 ≤ 24 := by omega
  have wo : IntKind.i64.wrap (o : Int) = (o : Int) := IntWalk.i64_in _ (by omega)
  have wo0 : IntKind.i64.wrap (o0 : Int) = (o0 : Int) := IntWalk.i64_in _ (by omega)
  obtain ⟨e0, he0⟩ : ∃ x, x = p.ep % 1000 := ⟨_, rfl⟩
  obtain ⟨e, he⟩ : ∃ x, x = e0 + 1 := ⟨_, rfl⟩
  have tme : Int.tmod (p.ep : Int) 1000 = (e0 : Int) := by rw [he0]; exact tm p.ep 1000
  have se : 1 + (e0 : Int) = (e : Int) := by omega
  have be : e ≤ 1000 := by omega
  have be0 : e0 ≤ 1000 := by omega
  have we : IntKind.u32.wrap (e : Int) = (e : Int) := IntWalk.u32_in _ (by omega)
  have we0 : IntKind.u32.wrap (e0 : Int) = (e0 : Int) := IntWalk.u32_in _ (by omega)
  obtain ⟨n0, hn0⟩ : ∃ x, x = p.num % 1000 := ⟨_, rfl⟩
  obtain ⟨n, hn⟩ : ∃ x, x = n0 + 1 := ⟨_, rfl⟩
  have tmn : Int.tmod (p.num : Int) 1000 = (n0 : Int) := by rw [hn0]; exact tm p.num 1000
  have sn : 1 + (n0 : Int) = (n : Int) := by omega
  have bn : n ≤ 1000 := by omega
  have bn0 : n0 ≤ 1000 := by omega
  have wn : IntKind.u32.wrap (n : Int) = (n : Int) := IntWalk.u32_in _ (by omega)
  have wn0 : IntKind.u32.wrap (n0 : Int) = (n0 : Int) := IntWalk.u32_in _ (by omega)
  obtain ⟨l0, hl0⟩ : ∃ x, x = p.lif % 1000 := ⟨_, rfl⟩
  obtain ⟨l, hl⟩ : ∃ x, x = l0 + 1 := ⟨_, rfl⟩
  have tml : Int.tmod (p.lif : Int) 1000 = (l0 : Int) := by rw [hl0]; exact tm p.lif 1000
  have sl : 1 + (l0 : Int) = (l : Int) := by omega
  have bl : l ≤ 1000 := by omega
  have bl0 : l0 ≤ 1000 := by omega
  have wl : IntKind.u32.wrap (l : Int) = (l : Int) := IntWalk.u32_in _ (by omega)
  have wl0 : IntKind.u32.wrap (l0 : Int) = (l0 : Int) := IntWalk.u32_in _ (by omega)
  obtain ⟨d0, hd0⟩ : ∃ x, x = p.tow % 24 := ⟨_, rfl⟩
  have tmd : Int.tmod (p.tow : Int) 24 = (d0 : Int) := by rw [hd0]; exact tm p.tow 24
  have bd0 : d0 ≤ 24 := by omega
  obtain ⟨d, hd⟩ : ∃ x, x = d0 + 1 := ⟨_, rfl⟩
  have sd : 1 + (d0 : Int) = (d : Int) := by omega
  have bd : d ≤ 24 := by omega
  obtain ⟨h0, hh0⟩ : ∃ x, x = p.hp % 25 := ⟨_, rfl⟩
  have tmh : Int.tmod (p.hp : Int) 25 = (h0 : Int) := by rw [hh0]; exact tm p.hp 25
  have bh0 : h0 ≤ 25 := by omega
  have HM := Lib.hid (show ofM p = { Ms.m0 5 with dst := (d : Int), hops := (h0 : Int), ak := ⟨(f : Int), e, (o : Int), l, n⟩ } from by
    unfold ofM
    rw [if_neg (by omega), if_neg (by omega), if_neg (by omega), if_neg (by omega)]
    simp only [hf0, ho0, he0, hn0, hl0, hf, ho, he, hn, hl, hd0, hh0, hd]
    rfl)
  obtain ⟨W1, hW1⟩ : ∃ W1, W1 = W.alloc (.cells p.cs 48) := ⟨_, rfl⟩
  obtain ⟨W2, hW2⟩ : ∃ W2, W2 = W1.alloc (.cells #[.int .i64 0, .int .i64 0, .int .u32 0, .int .u32 0, .int .i64 0, .bool false, .slice none 0 0, .int .i64 0, .int .u32 0, .int .u32 0, .int .i64 0, .int .i64 0, .int .u32 0, .int .i64 0, .int .i64 0, .int .i64 0, .int .u32 0, .int .u64 0, .int .u64 0, .int .u64 0, .int .u64 0, .int .i64 0, .int .i64 0, .int .i64 0, .int .u32 0, .int .u32 0, .int .u8 0, .int .i64 0, .int .u32 0, .int .i64 0, .int .u32 0, .int .u32 0] 38) := ⟨_, rfl⟩
  have hs1 : W1.heap.size = W.heap.size + 1 := by rw [hW1, World.size_alloc]
  have hs2 : W2.heap.size = W.heap.size + 2 := by rw [hW2, World.size_alloc, hs1]
  have hpr1 : W1.heap[W.heap.size]? = some (.cells p.cs 48 (0, 0)) := by rw [hW1]; exact heap_alloc_new _ _
  have hb12 : Below W1.heap.size W1 W2 := by rw [hW2]; exact (Below.refl _ _).alloc (Nat.le_refl _) _
  have hpr : W2.heap[W.heap.size]? = some (.cells p.cs 48 (0, 0)) := (hb12.block _ (by omega)).trans hpr1
  have hrs : W2.heap[W.heap.size + 1]? = some (.cells (Ms.zero.cs none 0) 38 (0, 0)) := by rw [hW2, ← hs1]; exact heap_alloc_new _ _
  have hb : Below W.heap.size W W2 := by
    refine Below.trans ?_ (hb12.mono (by omega))
    rw [hW1]; exact (Below.refl _ _).alloc (Nat.le_refl _) _
  have c0 : W2.cell? ⟨W.heap.size, 0, none⟩ = some (.int .u8 p.kd) := (cell_of_row _ _ 0 _ _ _ hpr).trans rfl
  obtain ⟨g, hg⟩ : ∃ g, g = W2.heap.size := ⟨_, rfl⟩
  obtain ⟨Y, hY⟩ : ∃ Y, Y = (W2.alloc (.cells #[.int .i64 0, .int .i64 0, .int .u32 0, .int .u32 0, .int .i64 0, .bool false, .slice none 0 0, .int .i64 0, .int .u32 0, .int .u32 0, .int .i64 0, .int .i64 0, .int .u32 0, .int .i64 0, .int .i64 0, .int .i64 0, .int .u32 0, .int .u64 0, .int .u64 0, .int .u64 0, .int .u64 0, .int .i64 0, .int .i64 0, .int .i64 0, .int .u32 0, .int .u32 0, .int .u8 0, .int .i64 0, .int .u32 0, .int .i64 0, .int .u32 0, .int .u32 0] 38)).setRow W2.heap.size #[.int .i64 5, .int .i64 0, .int .u32 0, .int .u32 0, .int .i64 0, .bool false, .slice none 0 0, .int .i64 0, .int .u32 0, .int .u32 0, .int .i64 0, .int .i64 0, .int .u32 0, .int .i64 0, .int .i64 0, .int .i64 0, .int .u32 0, .int .u64 0, .int .u64 0, .int .u64 0, .int .u64 0, .int .i64 0, .int .i64 0, .int .i64 0, .int .u32 0, .int .u32 0, .int .u8 0, .int .i64 0, .int .u32 0, .int .i64 0, .int .u32 0, .int .u32 0] := ⟨_, rfl⟩
  have HAL := Lib.hid (hal_new W2 #[.int .i64 0, .int .i64 0, .int .u32 0, .int .u32 0, .int .i64 0, .bool false, .slice none 0 0, .int .i64 0, .int .u32 0, .int .u32 0, .int .i64 0, .int .i64 0, .int .u32 0, .int .i64 0, .int .i64 0, .int .i64 0, .int .u32 0, .int .u64 0, .int .u64 0, .int .u64 0, .int .u64 0, .int .i64 0, .int .i64 0, .int .i64 0, .int .u32 0, .int .u32 0, .int .u8 0, .int .i64 0, .int .u32 0, .int .i64 0, .int .u32 0, .int .u32 0] 38)
  have hbY : Below W2.heap.size W2 Y := by rw [hY]; exact below_setRow ((Below.refl _ _).alloc (Nat.le_refl _) _) (Nat.le_refl _)
  have HS0 := Lib.hid (show OfS W p g (Ms.m0 5) none 0 Y from ⟨hb.trans (hbY.mono hb.size), (hbY.block _ (by omega)).trans hpr, (hbY.block _ (by omega)).trans hrs, by rw [hY, hg]; exact setRow_heap _ _ _ _ _ _ HAL.out, by omega⟩)
  have HS2 := Lib.hid (show (Try.prog.info? 38).map (·.size) = some (#[.int .i64 5, .int .i64 0, .int .u32 0, .int .u32 0, .int .i64 0, .bool false, .slice none 0 0, .int .i64 0, .int .u32 0, .int .u32 0, .int .i64 0, .int .i64 0, .int .u32 0, .int .i64 0, .int .i64 0, .int .i64 0, .int .u32 0, .int .u64 0, .int .u64 0, .int .u64 0, .int .u64 0, .int .i64 0, .int .i64 0, .int .i64 0, .int .u32 0, .int .u32 0, .int .u8 0, .int .i64 0, .int .u32 0, .int .i64 0, .int .u32 0, .int .u32 0] : Array Value).size from info_msg' (Ms.m0 5) none 0)
  have HS3 := Lib.hid (show (#[.int .i64 0, .int .i64 0, .int .u32 0, .int .u32 0, .int .i64 0, .bool false, .slice none 0 0, .int .i64 0, .int .u32 0, .int .u32 0, .int .i64 0, .int .i64 0, .int .u32 0, .int .i64 0, .int .i64 0, .int .i64 0, .int .u32 0, .int .u64 0, .int .u64 0, .int .u64 0, .int .u64 0, .int .i64 0, .int .i64 0, .int .i64 0, .int .u32 0, .int .u32 0, .int .u8 0, .int .i64 0, .int .u32 0, .int .i64 0, .int .u32 0, .int .u32 0] : Array Value).size = (#[.int .i64 5, .int .i64 0, .int .u32 0, .int .u32 0, .int .i64 0, .bool false, .slice none 0 0, .int .i64 0, .int .u32 0, .int .u32 0, .int .i64 0, .int .i64 0, .int .u32 0, .int .i64 0, .int .i64 0, .int .i64 0, .int .u32 0, .int .u64 0, .int .u64 0, .int .u64 0, .int .u64 0, .int .i64 0, .int .i64 0, .int .i64 0, .int .u32 0, .int .u32 0, .int .u8 0, .int .i64 0, .int .u32 0, .int .i64 0, .int .u32 0, .int .u32 0] : Array Value).size from rfl)
  have HS4 := Lib.hid (show (#[.int .i64 5, .int .i64 0, .int .u32 0, .int .u32 0, .int .i64 0, .bool false, .slice none 0 0, .int .i64 0, .int .u32 0, .int .u32 0, .int .i64 0, .int .i64 0, .int .u32 0, .int .i64 0, .int .i64 0, .int .i64 0, .int .u32 0, .int .u64 0, .int .u64 0, .int .u64 0, .int .u64 0, .int .i64 0, .int .i64 0, .int .i64 0, .int .u32 0, .int .u32 0, .int .u8 0, .int .i64 0, .int .u32 0, .int .i64 0, .int .u32 0, .int .u32 0] : Array Value).all (·.oneCell') = true from cs_one (Ms.m0 5) none 0)
  have HY := Lib.hid hY
  have HGG := Lib.hid hg
  have HW1 := Lib.hid hW1
  have HW2 := Lib.hid hW2
  clear hW1 hW2 hs1 hs2 hpr1 hb12 hpr hrs hb hg hY hbY hk hf0 ho0 he0 hn0 hl0 hf ho he hn hl hd0 hh0 hd
  go_enter Try.func15, Try.ntmps15
  unfold Pt.ag at *
  go_upto_region 1 with fail
  rw [← HW1.out, ← HW2.out]
  go_wp2_with (with_reducible refine wpList_store_row rfl 38 (.tmp 3) (.tmp 15) rfl rfl W2.heap.size rfl 38 #[.int .i64 0, .int .i64 0, .int .u32 0, .int .u32 0, .int .i64 0, .bool false, .slice none 0 0, .int .i64 0, .int .u32 0, .int .u32 0, .int .i64 0, .int .i64 0, .int .u32 0, .int .i64 0, .int .i64 0, .int .i64 0, .int .u32 0, .int .u64 0, .int .u64 0, .int .u64 0, .int .u64 0, .int .i64 0, .int .i64 0, .int .i64 0, .int .u32 0, .int .u32 0, .int .u8 0, .int .i64 0, .int .u32 0, .int .i64 0, .int .u32 0, .int .u32 0] #[.int .i64 5, .int .i64 0, .int .u32 0, .int .u32 0, .int .i64 0, .bool false, .slice none 0 0, .int .i64 0, .int .u32 0, .int .u32 0, .int .i64 0, .int .i64 0, .int .u32 0, .int .i64 0, .int .i64 0, .int .i64 0, .int .u32 0, .int .u64 0, .int .u64 0, .int .u64 0, .int .u64 0, .int .i64 0, .int .i64 0, .int .i64 0, .int .u32 0, .int .u32 0, .int .u8 0, .int .i64 0, .int .u32 0, .int .i64 0, .int .u32 0, .int .u32 0] rfl HAL.out HS2.out HS3.out HS4.out ?_)
  rw [← HY.out, ← HGG.out]
  clear c0
  obtain ⟨U, hU⟩ : ∃ X, X = Y.drew := ⟨_, rfl⟩
  have HU := Lib.hid (show OfS W p g (Ms.m0 5) none 0 U by rw [hU]; exact HS0.out.later (drew_below _))
  refine wp_region_ord [(0, true), (1, true), (2, true), (3, true), (4, true), (5, true), (6, true), (7, true), (8, true), (9, true), (10, true), (11, true)] (OfS W p g (Ms.m0 5) none 0) (by kernel_rfl) (by kernel_rfl) (by decide) (by kernel_rfl) (fun d _ _ _ _ h => by cases d <;> first | exact h | exact h.later (drew_below _)) (by rw [← hU]; exact HU.out) ?_
  rw [← hU]
  clear hU
  iterate 12 ((apply wpOrd_take rfl rfl (by kernel_rfl); (intro V hV; have c3 := hV.c 3 (.int .u8 p.fr) rfl; have c4 := hV.c 4 (.int .u8 p.ot) rfl; go_simp; rfl)); (try simp only [List.setIfInBounds_toArray, List.set_cons_succ, List.set_cons_zero]))
  refine wpOrd_nil ?_
  go_wp2_with fail
  obtain ⟨U2, hU⟩ : ∃ X, X = U.drew := ⟨_, rfl⟩
  have HU2 := Lib.hid (show OfS W p g (Ms.m0 5) none 0 U2 by rw [hU]; exact HU.out.later (drew_below _))
  refine wp_region_ord [(0, true), (1, true), (2, true), (3, true), (4, true), (5, true), (6, true), (7, true), (8, true), (9, true), (10, true), (11, true), (12, true), (13, true), (14, true)] (OfS W p g (Ms.m0 5) none 0) (by kernel_rfl) (by kernel_rfl) (by decide) (by kernel_rfl) (fun d _ _ _ _ h => by cases d <;> first | exact h | exact h.later (drew_below _)) (by rw [← hU]; exact HU2.out) ?_
  rw [← hU]
  clear hU
  iterate 15 ((apply wpOrd_take rfl rfl (by kernel_rfl); (intro V hV; have c6 := hV.c 6 (.int .u32 p.ep) rfl; have c7 := hV.c 7 (.int .u32 p.num) rfl; have c8 := hV.c 8 (.int .u32 p.lif) rfl; go_simp; rfl)); (try simp only [List.setIfInBounds_toArray, List.set_cons_succ, List.set_cons_zero]))
  refine wpOrd_nil ?_
  have c0 := HU2.out.c 0 (.int .u8 p.kd) rfl
  have c1 := HU2.out.c 1 (.int .u8 p.tow) rfl
  have c2 := HU2.out.c 2 (.int .u8 p.hp) rfl
  have c3 := HU2.out.c 3 (.int .u8 p.fr) rfl
  have c4 := HU2.out.c 4 (.int .u8 p.ot) rfl
  have c5 := HU2.out.c 5 (.int .u8 p.nr) rfl
  have c6 := HU2.out.c 6 (.int .u32 p.ep) rfl
  have c7 := HU2.out.c 7 (.int .u32 p.num) rfl
  have c8 := HU2.out.c 8 (.int .u32 p.lif) rfl
  have c9 := HU2.out.c 9 (.int .u64 p.bits.a) rfl
  have c10 := HU2.out.c 10 (.int .u64 p.bits.b) rfl
  have c11 := HU2.out.c 11 (.int .u64 p.bits.c) rfl
  have c12 := HU2.out.c 12 (.int .u64 p.bits.d) rfl
  have x0 : U2.cell? ⟨g, 0, none⟩ = some (.int .i64 5) := HU2.out.bx.cell rfl
  have x27 : U2.cell? ⟨g, 27, none⟩ = some (.int .i64 0) := HU2.out.bx.cell rfl
  have f27 : U2.frozen? ⟨g, 27, none⟩ = false := HU2.out.bx.frz 27
  have x28 : U2.cell? ⟨g, 28, none⟩ = some (.int .u32 0) := HU2.out.bx.cell rfl
  have f28 : U2.frozen? ⟨g, 28, none⟩ = false := HU2.out.bx.frz 28
  have x29 : U2.cell? ⟨g, 29, none⟩ = some (.int .i64 0) := HU2.out.bx.cell rfl
  have f29 : U2.frozen? ⟨g, 29, none⟩ = false := HU2.out.bx.frz 29
  have x30 : U2.cell? ⟨g, 30, none⟩ = some (.int .u32 0) := HU2.out.bx.cell rfl
  have f30 : U2.frozen? ⟨g, 30, none⟩ = false := HU2.out.bx.frz 30
  have x31 : U2.cell? ⟨g, 31, none⟩ = some (.int .u32 0) := HU2.out.bx.cell rfl
  have f31 : U2.frozen? ⟨g, 31, none⟩ = false := HU2.out.bx.frz 31
  have x21 : U2.cell? ⟨g, 21, none⟩ = some (.int .i64 0) := HU2.out.bx.cell rfl
  have f21 : U2.frozen? ⟨g, 21, none⟩ = false := HU2.out.bx.frz 21
  have x22 : U2.cell? ⟨g, 22, none⟩ = some (.int .i64 0) := HU2.out.bx.cell rfl
  have f22 : U2.frozen? ⟨g, 22, none⟩ = false := HU2.out.bx.frz 22
  obtain ⟨M, hM⟩ : ∃ M : Ms, M = { Ms.m0 5 with dst := (d : Int), hops := (h0 : Int), ak := ⟨(f : Int), e, (o : Int), l, n⟩ } := ⟨_, rfl⟩
  obtain ⟨Z, hZ⟩ : ∃ Z, Z = (((((((U2.setCell ⟨g, 27, none⟩ (.int .i64 (f : Int))).setCell ⟨g, 28, none⟩ (.int .u32 (e : Int))).setCell ⟨g, 29, none⟩ (.int .i64 (o : Int))).setCell ⟨g, 30, none⟩ (.int .u32 (l : Int))).setCell ⟨g, 31, none⟩ (.int .u32 (n : Int))).setCell ⟨g, 21, none⟩ (.int .i64 (d : Int))).setCell ⟨g, 22, none⟩ (.int .i64 (h0 : Int))) := ⟨_, rfl⟩
  have HZ := Lib.hid (show OfS W p g M none 0 Z from by rw [hM, hZ]; exact (OfS.set (n := { Ms.m0 5 with dst := (d : Int), hops := (h0 : Int), ak := ⟨(f : Int), e, (o : Int), l, n⟩ }) (ta := none) (tc := 0) (OfS.set (n := { Ms.m0 5 with dst := (d : Int), ak := ⟨(f : Int), e, (o : Int), l, n⟩ }) (ta := none) (tc := 0) (OfS.set (n := { Ms.m0 5 with ak := ⟨(f : Int), e, (o : Int), l, n⟩ }) (ta := none) (tc := 0) (OfS.set (n := { Ms.m0 5 with ak := ⟨(f : Int), e, (o : Int), l, 0⟩ }) (ta := none) (tc := 0) (OfS.set (n := { Ms.m0 5 with ak := ⟨(f : Int), e, (o : Int), 0, 0⟩ }) (ta := none) (tc := 0) (OfS.set (n := { Ms.m0 5 with ak := ⟨(f : Int), e, 0, 0, 0⟩ }) (ta := none) (tc := 0) (OfS.set (n := { Ms.m0 5 with ak := ⟨(f : Int), 0, 0, 0, 0⟩ }) (ta := none) (tc := 0) HU2.out rfl) rfl) rfl) rfl) rfl) rfl) rfl))
  have HEM := Lib.hid (show ofM p = M by rw [HM.out, hM])
  have HZE := Lib.hid hZ
  clear hM hZ
  go_upto_region 22 with fail
  rw [← HZE.out]
  have HCC := Lib.hid (block_cells HZ.out.bx)
  have HRC := Lib.hid (show Z.heap[W.heap.size + 1]? = some (.cells (Ms.zero.cs none 0) 38 (0, 0)) from HZ.out.rs)
  have G1 := Lib.hid (info_msg M none 0)
  have G2 := Lib.hid (info_msg' M none 0)
  have G3 := Lib.hid (show (Ms.zero.cs none 0).size = (M.cs none 0).size from rfl)
  have G4 := Lib.hid (cs_one M none 0)
  go_wp2_with (first | ((with_reducible refine wpList_load_cs rfl 38 (.tmp 3) rfl ⟨g, 0, none⟩ rfl (M.cs none 0).toList _ HCC.out Try.underlying38 rfl G1.out ?_); rw [Array.toArray_toList]) | (with_reducible refine wpList_store_row rfl 38 (.tmp 2) (.tmp 147) rfl rfl (W.heap.size + 1) rfl 38 (Ms.zero.cs none 0) (M.cs none 0) rfl HRC.out G2.out G3.out G4.out ?_))
  (try simp only [Exit.inBlock, Exit.then])
  refine bodyPost_ret (results_cell1 rfl rfl (setRow_heap _ _ _ _ _ _ HRC.out) Try.underlying38 rfl (info_msg M none 0)) rfl ⟨none, 0, by rw [HEM.out]; rfl, ?_, below_setRow HZ.out.bel (Nat.le_succ _)⟩
  rw [HM.out]
  exact arow_nil _ _
theorem lof_any (p : Pt) (W : World) (hp : p.ok) : Calls Try.prog 15 #[p.ag] W fun e W' => ∃ sa sc, e = .returned ((ofM p).ag sa sc) ∧ ARow W' W.heap.size sa sc (ofM p).rc.adjs ∧ Below W.heap.size W W' := by
  rcases (show p.kd % 5 = 0 ∨ p.kd % 5 = 1 ∨ p.kd % 5 = 2 ∨ p.kd % 5 = 3 ∨ p.kd % 5 = 4 by omega) with h | h | h | h | h
  · exact of1_any p W hp h
  · exact of2_any p W hp h
  · exact of3_any p W hp h
  · exact of4_any p W hp h
  · exact of5_any p W hp h

end Go.Proofs.Ytickjmkkgcfkhaa
