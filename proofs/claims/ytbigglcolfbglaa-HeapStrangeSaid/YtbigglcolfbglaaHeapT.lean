/- Contract of the reference's Sort; what the heap's Sort gives by keys. -/
import Derived.Test.YtbigglcolfbglaaHeapN
set_option linter.unusedSimpArgs false
set_option linter.unusedVariables false
namespace Go.Proofs.Ytbigglcolfbglaa
open Go.RowKit

theorem tSorted_sel (l : List (Int × Int)) : tSorted tlt l = sel tkey l.length l := by
  obtain ⟨I', h1, h2⟩ := pushs_st (key := tkey) l [] [] 0 St.nil
  have hlen : (pushs (kah tkey) [] 0 l).length = l.length := by rw [pushs_length]; simp
  unfold tSorted
  rw [show lah tlt = kah tkey from lah_key tkey, pops_sel _ _ I' _ h1 hlen, h2]
  rfl
theorem sel_length {β : Type} [Inhabited β] (key : β → Int) : ∀ (n : Nat) (l : List β), (sel key n l).length = n
  | 0, _ => rfl
  | n + 1, l => by simp [sel, sel_length key n]

def RSortRel (W : World) (N : Nat) (P : List (Int × Int)) (l o : Value) (wr : World) : Prop :=
  ∃ (k : Nat) (cur : List (Int × Int)) (ca oa : Option Addr) (cc oc : Nat), k ≤ N ∧ cur.length = N - k ∧ sel tkey (N - k) cur = P.drop k ∧ l = .slice ca cur.length cc ∧ TRow wr 0 l cur ∧ o = .slice oa k oc ∧ TRow wr W.heap.size o (P.take k) ∧ Below W.heap.size W wr ∧ ∀ q, o.ownBlock = some q → l.ownBlock ≠ some q

theorem rsort_step {W w1 w2 w3 : World} {N k a : Nat} {P cur : List (Int × Int)} {l o o' l' : Value} {x : Int × Int} (hk : k < N) (hP : P.length = N) (hc : cur.length = N - k) (hs : sel tkey (N - k) cur = P.drop k) (ha : lsA tkey cur cur.length = (a : Int)) (hal : a < cur.length) (hx : x = cur.getD a default)
    (hro : TRow w1 W.heap.size o (P.take k)) (hb : Below W.heap.size W w1) (hrow' : Row w2 W.heap.size 26 2 o' (k + 1) (tS (P.take k) ++ tS [x])) (hg : (w1.alloc (.cells #[.int .i64 x.1, .int .i64 x.2] 26)).grownBy w2 o.ownBlock)
    (hw : WithoutPost w2 (cur.eraseIdx a) (.returned l') w3) : RSortRel W N P l' o' w3 := by
  obtain ⟨v', he, hr, hbw⟩ := hw
  simp only [Ending.returned.injEq] at he
  subst he
  have hb2 : Below W.heap.size W w2 := (hb.alloc hb.size _).grown hg (by rw [World.size_alloc]; have := hb.size; omega) fun q hq => (Row.lt hro q hq).1
  have hcl : (cur.eraseIdx a).length = N - (k + 1) := by rw [List.length_eraseIdx_of_lt hal]; omega
  have hs' : x :: sel tkey (N - (k + 1)) (cur.eraseIdx a) = P.drop k := by
    rw [← hs, show N - k = (N - (k + 1)) + 1 from by omega, sel, ha, Int.toNat_natCast, hx]
  have hd := drop_cons (l := P) (k := k) (by omega)
  rw [hd] at hs'
  simp only [List.cons.injEq] at hs'
  obtain ⟨h1, h2⟩ := hs'
  obtain ⟨ca, cc, hl', _, _⟩ := Row.shape hr
  obtain ⟨oa, oc, ho', _, _⟩ := Row.shape hrow'
  have htk : P.take (k + 1) = P.take k ++ [x] := by rw [take_snoc (by omega), h1]
  refine ⟨k + 1, cur.eraseIdx a, ca, oa, cc, oc, by omega, hcl, h2, hl', Row.more hr (Nat.zero_le _), ho', ?_, hb2.trans (hbw.mono hb2.size), fun q hq e => ?_⟩
  · refine Row.later ?_ hbw
    rw [htk, tS_append, List.length_append, List.length_take, show min k P.length = k from by omega]
    exact hrow'
  · have h3 := (Row.lt hrow' q hq).2
    have h4 := (Row.lt hr q e).1
    omega

set_option maxHeartbeats 1600000 in
theorem rsort_any (W : World) (b : Nat) (v : Value) (l : List (Int × Int)) (hrow : TRow W b v l) (hl : l.length < 100000) :
    Calls Try.prog 17 #[v] W (tSortPost W (sel tkey l.length l)) := by
  obtain ⟨av, cap, rfl, hc1, hc2⟩ := Row.shape hrow
  obtain ⟨N, hN⟩ : ∃ N, N = l.length := ⟨_, rfl⟩
  obtain ⟨P, hP⟩ : ∃ P, P = sel tkey l.length l := ⟨_, rfl⟩
  have hPN : P.length = N := by rw [hP, sel_length, hN]
  have h0 := Lib.hid (show RSortRel W N P (.slice av l.length cap) (.slice none 0 0) W from ⟨0, l, av, none, cap, 0, by omega, by omega, by rw [hP, hN]; rfl, rfl, Row.more hrow (Nat.zero_le _), rfl, Row.nil_ _ _ _ _, Below.refl _ _, by intro q hq; simp [Value.ownBlock] at hq⟩)
  rw [← hP]
  rw [← hN] at hl
  have HPN := Lib.hid hPN
  obtain ⟨i0, hi, hz0, hz1, hz2⟩ := info_parts infoTh
  clear hP hN hPN hrow hc1 hc2
  go_enter Try.func17, Try.ntmps17
  go_wp2_with fail
  go_loopw [0, 3] (fun l o wr => RSortRel W N P l o wr) (fun l _ _ => match l with | .slice _ n _ => n | _ => 0)
  case atStart => exact h0.out
  case round =>
    obtain ⟨k, cur, ca, oa, cc, oc, hk, hc, hs, rfl, hrc, rfl, hro, hb, hap⟩ := hrel
    by_cases hkN : k < N
    · have hpos : 0 < cur.length := by omega
      obtain ⟨a, hla, haf⟩ := lsA_first (key := tkey) (l := cur) hpos
      have hal := haf.1
      have hlst := least_any wr 0 _ cur hrc (by omega)
      rw [hla] at hlst
      obtain ⟨x, hx⟩ : ∃ x, x = cur.getD a default := ⟨_, rfl⟩
      have HL := Lib.hid hlst
      have hpl : (P.take k).length = k := by rw [List.length_take, HPN.out]; omega
      have HQ := Lib.hid (fun (w1 w2 w3 : World) (o' l' : Value) hro hb hrow' hg hw => rsort_step (W := W) (w1 := w1) (w2 := w2) (w3 := w3) (o' := o') (l' := l') (o := .slice oa k oc) (l := .slice ca cur.length cc) hkN HPN.out hc hs hla hal hx hro hb hrow' hg hw)
      have hcb : cur.length < 100000 := by omega
      have hgt : (0 : Int) < (cur.length : Int) := by omega
      have HX := Lib.hid hx
      have hkb : k < 100000 := by omega
      have HPL := Lib.hid hpl
      have HAP := Lib.hid hap
      clear hc hs hla haf hlst hx hpl hap hk
      go_wp2_with fail
      refine HL.out.mono ?_
      rintro e w1 ⟨rfl, hb1⟩
      have hbt := hb.trans (hb1.mono hb.size)
      have hrc1 := Row.later hrc hb1
      have hro1 := Row.later hro hb1
      obtain ⟨gc, cc', hcv, _, hgl, _, _, hcell, _⟩ := hrc1.form hpos
      simp only [Value.slice.injEq, true_and] at hcv
      obtain ⟨rfl, rfl⟩ := hcv
      have m0 := (hcell _ (by omega)).trans (tS_get hal).1
      have m1 := (hcell _ (by omega)).trans (tS_get hal).2
      rw [← HX.out] at m0 m1
      have hrok : Row w1 W.heap.size 26 2 (.slice oa k oc) k (tS (P.take k)) := by have h := hro1; unfold TRow at h; rw [HPL.out] at h; exact h
      have hz := hbt.size
      have HBT := Lib.hid hbt
      have HRO := Lib.hid hro1
      have HRC := Lib.hid hrc1
      clear hcell hb1 hb hbt hrc hro hro1 hrc1
      go_wp2_with (at_builtin; refine wpList_append_row _ rfl (.tmp 10) (.tmp 15) 28 rfl W.heap.size 26 i0 (.agg #[.int .i64 0, .int .i64 0]) 2 16 Try.underlying28 hi hz0 hz1 hz2 rfl (by decide) (.slice oa k oc) k (tS (P.take k)) rfl (Row.alloc hrok _) ⟨w1.heap.size, 0, none⟩ 1 1 (tS [x]) rfl rfl ?c1 tS_one ?c3 ?c4 ?c5 ?_)
      case c1 => exact cell_two_new _ _ _ _
      case c3 => unfold maxLen; omega
      case c4 => omega
      case c5 => rw [World.size_alloc]; omega
      intro v2 w2 hrow2 hg2 _ ho2
      have hrc2 : TRow w2 0 (.slice (some ⟨gc, 0, none⟩) cur.length cc) cur := by
        refine (Row.alloc HRC.out _).same fun q hq => hg2.block q ?_ fun e => HAP.out q e.symm hq
        have := (Row.lt HRC.out q hq).2
        rw [World.size_alloc]; omega
      have HR2 := Lib.hid hrow2
      have HG2 := Lib.hid hg2
      have HC2 := Lib.hid hrc2
      clear hrow2 hg2 hrc2 ho2 hrok m0 m1
      go_wp2_with fail
      refine (without_any w2 0 _ cur a HC2.out hal (by omega)).mono ?_
      rintro e w3 hw3
      obtain ⟨l3, rfl, h3a, h3b⟩ := hw3
      have HN := Lib.hid (HQ.out w1 w2 w3 v2 l3 HRO.out HBT.out HR2.out HG2.out ⟨l3, rfl, h3a, h3b⟩)
      have hsh := Row.shape h3a
      obtain ⟨sa, sc, hsv, _, _⟩ := hsh
      have hsl : (cur.eraseIdx a).length < cur.length := by rw [List.length_eraseIdx_of_lt hal]; omega
      rw [hsv] at HN ⊢
      clear h3a h3b hsv
      go_wp2_with fail
      go_roundw
      case rel => first | exact HN.out | ((repeat apply Exists.intro); exact ⟨HN.out, rfl⟩)
      case measure => exact hsl
    · have hkN' : k = N := by omega
      subst hkN'
      have hc0 : cur = [] := List.eq_nil_of_length_eq_zero (by omega)
      subst hc0
      have HF := Lib.hid (show tSortPost W P (.returned (.slice oa k oc)) wr from ⟨_, rfl, by rw [← HPN.out, List.take_length] at hro; rw [HPN.out] at hro; exact hro, hb⟩)
      clear hro hrc hb hap hc hs
      go_wp2_with fail
      go_ret
      exact HF.out

end Go.Proofs.Ytbigglcolfbglaa
