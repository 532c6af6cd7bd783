/- What is there while a law is walked: lists in memory. -/
import Derived.Test.YtmjaompepchieaaPkV
import Derived.Test.YtmjaompepchieaaRows
import Derived.Test.YtmjaompepchieaaChecked
set_option linter.unusedSimpArgs false
set_option linter.unusedVariables false
namespace Go.Proofs.Ytmjaompepchieaa
open Go.RowKit Go.ChangeShapes Go.WideShapes Go.Sort

/-- What is there while the examples are tried. -/
structure Kn (W V : World) (vs : List (Value × List Int)) : Prop where
  bel : Below W.heap.size W V
  live : ∀ q ∈ vs, Lst V q.1 q.2
theorem Kn.later {W V X : World} {vs : List (Value × List Int)} (h : Kn W V vs) (hb : Below V.heap.size V X) : Kn W X vs := ⟨h.bel.trans (hb.mono h.bel.size), fun q hq => (h.live q hq).later hb⟩
theorem Kn.more {W V : World} {vs : List (Value × List Int)} (h : Kn W V vs) {v : Value} {l : List Int} (hv : Lst V v l) : Kn W V ((v, l) :: vs) := ⟨h.bel, fun q hq => by
  rcases List.mem_cons.1 hq with rfl | hq
  · exact hv
  · exact h.live q hq⟩
theorem Kn.new {W V : World} {vs : List (Value × List Int)} (h : Kn W V vs) (o : Obj) : Kn W (V.alloc o) vs := h.later ((Below.refl _ _).alloc (Nat.le_refl _) _)
theorem Kn.drewN {W V : World} {vs : List (Value × List Int)} (h : Kn W V vs) (q : Nat) : Kn W (V.drewN q) vs := h.later ⟨rfl, rfl, rfl, Nat.le_refl _, fun _ _ => rfl⟩
theorem Kn.head {W V : World} {vs : List (Value × List Int)} {v : Value} {l : List Int} (h : Kn W V ((v, l) :: vs)) : Lst V v l := h.live (v, l) (.head _)
theorem Kn.tail {W V : World} {vs : List (Value × List Int)} {p : Value × List Int} (h : Kn W V (p :: vs)) : Kn W V vs := ⟨h.bel, fun q hq => h.live q (.tail _ hq)⟩
/-- A list and an error answered. -/
def LE (V : World) (l : List Int) (e : Int) (x : Ending) (X : World) : Prop := ∃ v, x = .returned (.tuple #[v, .int .i64 e]) ∧ Lst X v l ∧ Below V.heap.size V X
theorem LE.of {V V1 X : World} {x : Ending} {r s : List Int × Int} (h0 : Below V.heap.size V V1) (h : ∃ v, x = .returned (.tuple #[v, .int .i64 r.2]) ∧ Own V1.heap.size X v r.1 ∧ Below V1.heap.size V1 X) (hr : r = s) : LE V s.1 s.2 x X := by
  subst hr
  obtain ⟨v, h1, h2, h3⟩ := h
  exact ⟨v, h1, h2.1, h0.trans (h3.mono h0.size)⟩
/-- Two numbers answered. -/
def NE (V : World) (n e : Int) (x : Ending) (X : World) : Prop := x = .returned (.tuple #[.int .i64 n, .int .i64 e]) ∧ Below V.heap.size V X
theorem NE.of {V V1 X : World} {x : Ending} {r s : Int × Int} (h0 : Below V.heap.size V V1) (h : x = .returned (.tuple #[.int .i64 r.1, .int .i64 r.2]) ∧ Gr V1 X) (hr : r = s) : NE V s.1 s.2 x X := by
  subst hr
  exact ⟨h.1, h0.trans (h.2.below.mono h0.size)⟩
theorem al (V : World) (o : Obj) : Below V.heap.size V (V.alloc o) := (Below.refl _ _).alloc (Nat.le_refl _) _
def SE (V : World) (b : Bool) (x : Ending) (X : World) : Prop := x = .returned (.bool b) ∧ Below V.heap.size V X
theorem SE.of {V V1 X : World} {x : Ending} {b : Bool} (h0 : Below V.heap.size V V1) (h : x = .returned (.bool b) ∧ ∃ q, X = V1.drewN q) : SE V b x X := by
  obtain ⟨h1, q, rfl⟩ := h
  exact ⟨h1, h0.trans ⟨rfl, rfl, rfl, Nat.le_refl _, fun _ _ => rfl⟩⟩

end Go.Proofs.Ytmjaompepchieaa
