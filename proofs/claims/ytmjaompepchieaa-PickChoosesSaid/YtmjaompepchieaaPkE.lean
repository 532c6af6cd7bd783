/- The order by falling rank: the compare's contract, its laws, the sorted list; the stable sort of fewer than 20. -/
import Derived.Test.YtmjaompepchieaaPkD
set_option linter.unusedSimpArgs false
set_option linter.unusedVariables false
namespace Go.Proofs.Ytmjaompepchieaa
open Go.RowKit Go.ChangeShapes Go.WideShapes Go.Sort

/-- The compare by which Rank sorts. -/
def cfr (e : Nat) (x y : Int) : Int := cmpN (key e y) (key e x)
set_option maxHeartbeats 1600000 in
theorem rankcmp_any (e : Nat) (x y : Int) (p : Nat) (W : World) (he : e < 4294967296) (hp : p < W.heap.size) (hc : W.cell? ⟨p, 0, none⟩ = some (saltV e)) :
    Calls Try.prog 28 #[.int .i64 x, .int .i64 y, .pointer (some ⟨p, 0, none⟩)] W fun a W' => a = .returned (.int .i64 (cfr e x y)) ∧ ∃ q, W' = W.drewN q := by
  have er := enter_rank
  have HC := Lib.hid (show ∀ V, (∃ q, V = W.drewN q) → V.cell? ⟨p, 0, none⟩ = some (saltV e) from fun V ⟨q, hq⟩ => by rw [hq]; exact hc)
  unfold saltV at *
  have HG := Lib.hid (show ∃ q, W.drew = W.drewN q from ⟨1, rfl⟩)
  have RX := Lib.hid (fun V => rank_any e x V he)
  have RY := Lib.hid (fun V => rank_any e y V he)
  have HCF := Lib.hid (show cfr e x y = cmpN (key e y) (key e x) from rfl)
  clear hc
  go_enter Try.func28, Try.ntmps28
  go_wp2_with fail
  obtain ⟨U, hU⟩ : ∃ U, U = W.drew := ⟨_, rfl⟩
  rw [← hU] at HG
  refine wp_region_ord [(0, true), (1, true), (3, true), (4, true), (2, false), (5, false), (6, false), (7, true)] (fun V => ∃ q, V = W.drewN q) (by kernel_rfl) (by kernel_rfl) (by decide) (by kernel_rfl) (fun d _ _ _ _ h => by obtain ⟨q, h⟩ := h; cases d <;> first | exact ⟨q + 1, by rw [h]; rfl⟩ | exact ⟨q, h⟩) (by rw [← hU]; exact HG.out) ?_
  rw [← hU]
  clear hU
  iterate 4 ((apply wpOrd_take rfl rfl (by kernel_rfl); (intro V hV; have x0 := HC.out V hV; go_simp; rfl)); (try simp only [List.setIfInBounds_toArray, List.set_cons_succ, List.set_cons_zero]))
  apply wpOrd_do rfl (by kernel_rfl)
  intro K hK
  go_simp
  refine (RY.out _).mono ?_
  rintro a w ⟨rfl, rfl⟩
  refine hK _ _ HG.out ?_
  clear hK K
  apply wpOrd_do rfl (by kernel_rfl)
  intro K hK
  go_simp
  refine (RX.out _).mono ?_
  rintro a w ⟨rfl, rfl⟩
  refine hK _ _ HG.out ?_
  clear hK K
  apply wpOrd_do rfl (by kernel_rfl)
  intro K hK
  go_simp
  refine (cmp_any _ _ _).mono ?_
  rintro a w ⟨rfl, rfl⟩
  refine hK _ _ HG.out ?_
  clear hK K
  apply wpOrd_take rfl rfl (by kernel_rfl)
  · intro V _; go_simp; rfl
  (try simp only [List.setIfInBounds_toArray, List.set_cons_succ, List.set_cons_zero])
  refine wpOrd_nil ?_
  go_wp2_with fail
  go_returns
  exact ⟨by rw [HCF.out]; rfl, HG.out⟩
theorem enter_rankcmp (args : Array Value) (w : World) : (callFunc 28 args).run Try.prog w = .ok (.enter 28 args) w := enters_of Try.func28 (by kernel_rfl) rfl args w

theorem ltr (e : Nat) (x y : Int) : ltOf (cfr e) x y = decide (key e y < key e x) := by
  unfold ltOf cfr cmpN
  rw [Bool.eq_iff_iff, decide_eq_true_eq, decide_eq_true_eq]
  split <;> (try split) <;> omega
theorem swo_r (e : Nat) : SWO (ltOf (cfr e)) where
  irrefl x := by rw [ltr]; exact decide_eq_false (by omega)
  trans x y z h1 h2 := by rw [ltr, decide_eq_true_eq] at *; omega
  ntrans x y z h1 h2 := by rw [ltr, decide_eq_false_iff_not] at *; omega

/-- All of them, the greatest rank first. -/
def rk (e : Nat) (l : List Int) : List Int := l.mergeSort (fun x y => decide (key e y ≤ key e x))
theorem rk_of {e : Nat} {l : List Int} {d : Array Int} (he : e < 4294967296) (hr : ∀ x ∈ l, 0 < x ∧ x ≤ 24) (hP : PermIn 0 l.toArray.size l.toArray d) (hS : SortedIn (ltOf (cfr e)) 0 l.toArray.size d) : d.toList = rk e l := by
  obtain ⟨hsz, _, hperm⟩ := hP
  have e1 : d.extract 0 l.toArray.size = d := by rw [← hsz]; exact Array.extract_size
  rw [e1, Array.extract_size] at hperm
  have hperm' : d.toList.Perm l := by simpa using hperm
  unfold rk
  refine List.Perm.eq_of_pairwise (le := fun x y => decide (key e y ≤ key e x) = true) ?_ ?_ ?_ (hperm'.trans (List.mergeSort_perm _ _).symm)
  · intro a b ha hb h1 h2
    rw [decide_eq_true_eq] at h1 h2
    have ha' := hr a (hperm'.mem_iff.1 ha)
    have hb' := hr b ((List.mergeSort_perm _ _).mem_iff.1 hb)
    exact key_inj he (by omega) (by omega) (by omega) (by omega) (by omega)
  · rw [List.pairwise_iff_getElem]
    intro i j hi hj hij
    have hi' : i < d.size := by simpa using hi
    have hj' : j < d.size := by simpa using hj
    have := hS i j (Nat.zero_le _) hij (by omega)
    rw [getElem!_pos d j hj', getElem!_pos d i hi', ltr, decide_eq_false_iff_not] at this
    rw [decide_eq_true_eq]
    show key e d.toList[j] ≤ key e d.toList[i]
    rw [Array.getElem_toList, Array.getElem_toList]
    omega
  · refine List.pairwise_mergeSort ?_ ?_ _
    · intro a b c h1 h2
      rw [decide_eq_true_eq] at *
      omega
    · intro a b
      rw [Bool.or_eq_true, decide_eq_true_eq, decide_eq_true_eq]
      omega
theorem rk_perm (e : Nat) (l : List Int) : (rk e l).Perm l := List.mergeSort_perm _ _
theorem rk_len (e : Nat) (l : List Int) : (rk e l).length = l.length := (rk_perm e l).length_eq

theorem rank_lays (e : Nat) (p g off size : Nat) (W : World) (he : e < 4294967296) (hp : p < W.heap.size) (hpg : p ≠ g) (hc : W.cell? ⟨p, 0, none⟩ = some (saltV e)) :
    CmpLays1 Try.prog 28 #[.pointer (some ⟨p, 0, none⟩)] (Value.int .i64) (cfr e) g off size W := by
  intro m os dk hdk x y
  have hsz : p < (putRow (Value.int .i64) (Sort.ahead W m) g off dk).heap.size := by rw [size_putRow]; exact hp
  refine (rankcmp_any e x y p _ he ?_ ?_).mono fun a w' ⟨h1, q, h2⟩ => ⟨h1, q, #[], by rw [h2, grow_empty]⟩
  · unfold sortWorld; rw [size_grow]; omega
  · unfold sortWorld
    rw [cell?_grow _ _ _ hsz, cell?_putRow_other _ _ _ _ _ _ (.inl hpg)]
    exact hc

def StOne (W : World) (a b : Value) (wr : World) : Prop := wr = W ∧ a = .int .i64 0 ∧ b = .int .i64 20
def StTwo (V : World) (c : Value) (wr : World) : Prop := wr = V ∧ c = .int .i64 20
set_option maxHeartbeats 1600000 in
theorem stable_small (e : Nat) (p g off cap : Nat) (d : Array Int) (W : World) (he : e < 4294967296) (hcmp : CmpLays1 Try.prog 28 #[.pointer (some ⟨p, 0, none⟩)] (Value.int .i64) (cfr e) g off d.size W)
    (hH : Holds (Value.int .i64) W g off d) (hg : g < W.heap.size) (hn : d.size < 20) :
    Calls Try.prog 35 #[.slice (some ⟨g, off, none⟩) d.size cap, .int .i64 d.size, .func (.func 28) #[] #[.pointer (some ⟨p, 0, none⟩)]] W fun x W' =>
      x = .returned (.tuple #[]) ∧ ∃ d', PermIn 0 d.size d d' ∧ SortedIn (ltOf (cfr e)) 0 d.size d' ∧ SW (Value.int .i64) W g off d' W' := by
  have hI := Ytmjaompepchieaa.ins_any (Value.int .i64) (cfr e) 28 #[.pointer (some ⟨p, 0, none⟩)] g off cap 0 d.size d d W W enter_rankcmp hcmp ⟨fun _ => rfl, hH, hg⟩ rfl (SW.start hH) (Nat.zero_le _) (Nat.le_refl _) (by omega)
  have HI := Lib.hid hI
  have HS := Lib.hid (insertionSort_holds (lt := ltOf (cfr e)) (swo_r e) d 0 d.size (Nat.zero_le _) (Nat.le_refl _))
  clear hI hH hcmp
  obtain ⟨n, hnn⟩ : ∃ n, n = d.size := ⟨_, rfl⟩
  rw [← hnn] at HI HS hn ⊢
  have d1 : decide ((20 : Int) ≤ (n : Int)) = false := decide_eq_false (by omega)
  have d2 : decide ((20 : Int) < (n : Int)) = false := decide_eq_false (by omega)
  clear hnn
  go_enter Try.func35, Try.ntmps35
  go_wp2_with fail
  go_loopw [7, 8] (fun a b wr => StOne W a b wr) (fun _ _ _ => 0)
  case atStart => exact ⟨rfl, rfl, rfl⟩
  case round =>
    obtain ⟨rfl, rfl, rfl⟩ := hrel
    go_wp2_with fail
    refine HI.out.mono ?_
    rintro x V ⟨rfl, hV⟩
    have HV := Lib.hid hV
    clear hV
    go_wp2_with fail
    go_loopw [6] (fun c wr => StTwo V c wr) (fun _ _ => 0)
    case atStart => exact ⟨rfl, rfl⟩
    case round =>
      obtain ⟨rfl, rfl⟩ := hrel
      go_wp2_with fail
      go_returns
      exact ⟨rfl, _, HS.out.1, HS.out.2, HV.out⟩

end Go.Proofs.Ytmjaompepchieaa
