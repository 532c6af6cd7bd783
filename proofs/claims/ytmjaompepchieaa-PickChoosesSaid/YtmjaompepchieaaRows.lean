/-
  No cell of these rows narrows 'for every input' (looked for: loops, veiled, ifaces, maps, wideKeys, modest, calm, conditions, laid).
  DERIVED. THE GIVEN ROWS OF THIS SEAT. 6 by the template 'for every input the law returns true; each argument reads behind the call as it read before'; 0 by the template 'total and deterministic' (their statements: YtmjaompepchieaaTotals.lean).
  GIVEN WITH THE SEED: the statements are not yours to turn. If you find one false, say at which input.
  Laid BY PROGRAM, IN A SANDBOX (cutbox-rows.mjs): the forced cells as the released guide's own fill.sh prints them over the translation cfb4da3945402ef5… (all of the seat's roots in one cut). By AI agents, Wed Nov 11 2026. No macro, syntax, notation, axiom, sorry.
-/
import Derived.Test.YtmjaompepchieaaChecked
import GoSem.Claim
import GoSem.ClaimJoined
import GoSem.ClaimMapViews
import Derived.JoinedTies
import Derived.KernelRfl
namespace Go.Proofs.Ytmjaompepchieaa
/- THE CELL 'sum', in the pinned program and in every row, IS THE sha256 OF THE DUMP (.gsa) THAT YtmjaompepchieaaProg.lean LOADS. Nothing in Lean hashes anything: it is a label: what it is worth is what the hold of that sum in a sandbox is worth. -/
noncomputable def Try.pinned : Pinned := { name := "ytmjaompepchieaa", sum := "cfb4da3945402ef5dff56d6bc770e7a2d2cbada2d24bcfd37cea337c48a1659b", checked := Try.checked }
namespace Rows
def none {H : Type} : Left H := { results := [], args := [] }

/-- 'dandelionlaw12.PickChooses': WHATEVER THE INPUT: true; the input reads as it did. -/
def pickChoosesSpec : ChangeSpec := { name := "pickChooses", fn := fun _ => fun
  | [d1, d2, d3] => { results := [.lit (.bool true)], args := [d1, d2, d3] }
  | _ => none }
def pickChoosesRow : OpenClaim := { program := "ytmjaompepchieaa", sum := "cfb4da3945402ef5dff56d6bc770e7a2d2cbada2d24bcfd37cea337c48a1659b", func := "dandelion/dandelionlaw12.PickChooses", spec := "pickChooses", unfollowed := true, recurses := true, apart := false }
def PickChoosesSaid : Prop := pickChoosesRow.holds Try.pinned (OpenSpec.ofChange pickChoosesSpec)

/-- ITS FALSE NEIGHBOUR: 'it returns false'. Refute it at one input. -/
def pickChoosesWrong : ChangeSpec := { name := "pickChooses", fn := fun _ => fun
  | [d1, d2, d3] => { results := [.lit (.bool false)], args := [d1, d2, d3] }
  | _ => none }
def PickChoosesWrongFalsely : Prop := pickChoosesRow.holds Try.pinned (OpenSpec.ofChange pickChoosesWrong)

/-- 'dandelionlaw12.PickKeeps': WHATEVER THE INPUT: true; the input reads as it did. -/
def pickKeepsSpec : ChangeSpec := { name := "pickKeeps", fn := fun _ => fun
  | [d1, d2, d3] => { results := [.lit (.bool true)], args := [d1, d2, d3] }
  | _ => none }
def pickKeepsRow : OpenClaim := { program := "ytmjaompepchieaa", sum := "cfb4da3945402ef5dff56d6bc770e7a2d2cbada2d24bcfd37cea337c48a1659b", func := "dandelion/dandelionlaw12.PickKeeps", spec := "pickKeeps", unfollowed := true, recurses := true, apart := false }
def PickKeepsSaid : Prop := pickKeepsRow.holds Try.pinned (OpenSpec.ofChange pickKeepsSpec)

/-- ITS FALSE NEIGHBOUR: 'it returns false'. Refute it at one input. -/
def pickKeepsWrong : ChangeSpec := { name := "pickKeeps", fn := fun _ => fun
  | [d1, d2, d3] => { results := [.lit (.bool false)], args := [d1, d2, d3] }
  | _ => none }
def PickKeepsWrongFalsely : Prop := pickKeepsRow.holds Try.pinned (OpenSpec.ofChange pickKeepsWrong)

/-- 'dandelionlaw12.PickFalls': WHATEVER THE INPUT: true; the input reads as it did. -/
def pickFallsSpec : ChangeSpec := { name := "pickFalls", fn := fun _ => fun
  | [d1, d2] => { results := [.lit (.bool true)], args := [d1, d2] }
  | _ => none }
def pickFallsRow : OpenClaim := { program := "ytmjaompepchieaa", sum := "cfb4da3945402ef5dff56d6bc770e7a2d2cbada2d24bcfd37cea337c48a1659b", func := "dandelion/dandelionlaw12.PickFalls", spec := "pickFalls", unfollowed := true, recurses := true, apart := false }
def PickFallsSaid : Prop := pickFallsRow.holds Try.pinned (OpenSpec.ofChange pickFallsSpec)

/-- ITS FALSE NEIGHBOUR: 'it returns false'. Refute it at one input. -/
def pickFallsWrong : ChangeSpec := { name := "pickFalls", fn := fun _ => fun
  | [d1, d2] => { results := [.lit (.bool false)], args := [d1, d2] }
  | _ => none }
def PickFallsWrongFalsely : Prop := pickFallsRow.holds Try.pinned (OpenSpec.ofChange pickFallsWrong)

/-- 'dandelionlaw12.PickSpreads': WHATEVER THE INPUT: true; the input reads as it did. -/
def pickSpreadsSpec : ChangeSpec := { name := "pickSpreads", fn := fun _ => fun
  | [d1, d2] => { results := [.lit (.bool true)], args := [d1, d2] }
  | _ => none }
def pickSpreadsRow : OpenClaim := { program := "ytmjaompepchieaa", sum := "cfb4da3945402ef5dff56d6bc770e7a2d2cbada2d24bcfd37cea337c48a1659b", func := "dandelion/dandelionlaw12.PickSpreads", spec := "pickSpreads", unfollowed := true, recurses := true, apart := false }
def PickSpreadsSaid : Prop := pickSpreadsRow.holds Try.pinned (OpenSpec.ofChange pickSpreadsSpec)

/-- ITS FALSE NEIGHBOUR: 'it returns false'. Refute it at one input. -/
def pickSpreadsWrong : ChangeSpec := { name := "pickSpreads", fn := fun _ => fun
  | [d1, d2] => { results := [.lit (.bool false)], args := [d1, d2] }
  | _ => none }
def PickSpreadsWrongFalsely : Prop := pickSpreadsRow.holds Try.pinned (OpenSpec.ofChange pickSpreadsWrong)

/-- 'dandelionlaw12.PickWhole': WHATEVER THE INPUT: true; the input reads as it did. -/
def pickWholeSpec : ChangeSpec := { name := "pickWhole", fn := fun _ => fun
  | [d1, d2, d3] => { results := [.lit (.bool true)], args := [d1, d2, d3] }
  | _ => none }
def pickWholeRow : OpenClaim := { program := "ytmjaompepchieaa", sum := "cfb4da3945402ef5dff56d6bc770e7a2d2cbada2d24bcfd37cea337c48a1659b", func := "dandelion/dandelionlaw12.PickWhole", spec := "pickWhole", unfollowed := true, recurses := true, apart := false }
def PickWholeSaid : Prop := pickWholeRow.holds Try.pinned (OpenSpec.ofChange pickWholeSpec)

/-- ITS FALSE NEIGHBOUR: 'it returns false'. Refute it at one input. -/
def pickWholeWrong : ChangeSpec := { name := "pickWhole", fn := fun _ => fun
  | [d1, d2, d3] => { results := [.lit (.bool false)], args := [d1, d2, d3] }
  | _ => none }
def PickWholeWrongFalsely : Prop := pickWholeRow.holds Try.pinned (OpenSpec.ofChange pickWholeWrong)

/-- 'dandelionlaw12.PickKnown': WHATEVER THE INPUT: true; the input reads as it did. -/
def pickKnownSpec : ChangeSpec := { name := "pickKnown", fn := fun _ => fun
  | [] => { results := [.lit (.bool true)], args := [] }
  | _ => none }
def pickKnownRow : OpenClaim := { program := "ytmjaompepchieaa", sum := "cfb4da3945402ef5dff56d6bc770e7a2d2cbada2d24bcfd37cea337c48a1659b", func := "dandelion/dandelionlaw12.PickKnown", spec := "pickKnown", unfollowed := true, recurses := true, apart := false }
def PickKnownSaid : Prop := pickKnownRow.holds Try.pinned (OpenSpec.ofChange pickKnownSpec)

/-- ITS FALSE NEIGHBOUR: 'it returns false'. Refute it at one input. -/
def pickKnownWrong : ChangeSpec := { name := "pickKnown", fn := fun _ => fun
  | [] => { results := [.lit (.bool false)], args := [] }
  | _ => none }
def PickKnownWrongFalsely : Prop := pickKnownRow.holds Try.pinned (OpenSpec.ofChange pickKnownWrong)

/- THE SECOND FORM. 'bulk': how many values and letters a reading holds, each counted each time it is reached (what is shared counts as often as it is met; a slice's spare places count too). A statement '..UptoSaid' is the law's where the arguments, and the package variables that the reading takes, are together of bulk at most 1048576: NARROWER than '..Said'. Prove '..Said' where nothing that the law and all that it calls make is longer than what came in: it says more and counts as full. Else prove '..UptoSaid'. A law counts once. -/
mutual
def uptoBulk {H : Type} : DataW H → Nat
  | .lit (.string bytes) => bytes.length + 1
  | .lit _ => 1
  | .nil => 1
  | .ptr d => uptoBulk d + 1
  | .slice elems spare => uptoBulkAll elems + uptoBulkAll spare + 1
  | .agg parts => uptoBulkAll parts + 1
  | .iface _ d => uptoBulk d + 1
  | .map entries => uptoBulkEntries entries + 1
  | .held _ => 1
def uptoBulkAll {H : Type} : List (DataW H) → Nat
  | [] => 0
  | d :: r => uptoBulk d + uptoBulkAll r
def uptoBulkEntries {H : Type} : List (Lit × DataW H) → Nat
  | [] => 0
  | x :: r => uptoBulkEntry x + uptoBulkEntries r
def uptoBulkEntry {H : Type} : Lit × DataW H → Nat
  | (.string bytes, d) => bytes.length + uptoBulk d + 1
  | (_, d) => uptoBulk d + 1
 end
def uptoSmall : (H : Type) → List (DataW H) → Bool := fun _ ds => decide (uptoBulkAll ds ≤ 1048576)
def OpenSpec.upto (s : _root_.Go.ChangeSpec) : _root_.Go.OpenSpec := { _root_.Go.OpenSpec.ofChange s with cond := some uptoSmall }

/-- 'dandelionlaw12.PickChooses', WHERE WHAT IT READS IS OF BULK AT MOST 1048576: true; the input reads as it did. -/
def pickChoosesUptoRow : OpenClaim := { program := "ytmjaompepchieaa", sum := "cfb4da3945402ef5dff56d6bc770e7a2d2cbada2d24bcfd37cea337c48a1659b", func := "dandelion/dandelionlaw12.PickChooses", spec := "pickChooses", unfollowed := true, recurses := true, apart := false, narrowed := true }
def PickChoosesUptoSaid : Prop := pickChoosesUptoRow.holds Try.pinned (OpenSpec.upto pickChoosesSpec)

/-- 'dandelionlaw12.PickKeeps', WHERE WHAT IT READS IS OF BULK AT MOST 1048576: true; the input reads as it did. -/
def pickKeepsUptoRow : OpenClaim := { program := "ytmjaompepchieaa", sum := "cfb4da3945402ef5dff56d6bc770e7a2d2cbada2d24bcfd37cea337c48a1659b", func := "dandelion/dandelionlaw12.PickKeeps", spec := "pickKeeps", unfollowed := true, recurses := true, apart := false, narrowed := true }
def PickKeepsUptoSaid : Prop := pickKeepsUptoRow.holds Try.pinned (OpenSpec.upto pickKeepsSpec)

/-- 'dandelionlaw12.PickFalls', WHERE WHAT IT READS IS OF BULK AT MOST 1048576: true; the input reads as it did. -/
def pickFallsUptoRow : OpenClaim := { program := "ytmjaompepchieaa", sum := "cfb4da3945402ef5dff56d6bc770e7a2d2cbada2d24bcfd37cea337c48a1659b", func := "dandelion/dandelionlaw12.PickFalls", spec := "pickFalls", unfollowed := true, recurses := true, apart := false, narrowed := true }
def PickFallsUptoSaid : Prop := pickFallsUptoRow.holds Try.pinned (OpenSpec.upto pickFallsSpec)

/-- 'dandelionlaw12.PickSpreads', WHERE WHAT IT READS IS OF BULK AT MOST 1048576: true; the input reads as it did. -/
def pickSpreadsUptoRow : OpenClaim := { program := "ytmjaompepchieaa", sum := "cfb4da3945402ef5dff56d6bc770e7a2d2cbada2d24bcfd37cea337c48a1659b", func := "dandelion/dandelionlaw12.PickSpreads", spec := "pickSpreads", unfollowed := true, recurses := true, apart := false, narrowed := true }
def PickSpreadsUptoSaid : Prop := pickSpreadsUptoRow.holds Try.pinned (OpenSpec.upto pickSpreadsSpec)

/-- 'dandelionlaw12.PickWhole', WHERE WHAT IT READS IS OF BULK AT MOST 1048576: true; the input reads as it did. -/
def pickWholeUptoRow : OpenClaim := { program := "ytmjaompepchieaa", sum := "cfb4da3945402ef5dff56d6bc770e7a2d2cbada2d24bcfd37cea337c48a1659b", func := "dandelion/dandelionlaw12.PickWhole", spec := "pickWhole", unfollowed := true, recurses := true, apart := false, narrowed := true }
def PickWholeUptoSaid : Prop := pickWholeUptoRow.holds Try.pinned (OpenSpec.upto pickWholeSpec)

/-- 'dandelionlaw12.PickKnown', WHERE WHAT IT READS IS OF BULK AT MOST 1048576: true; the input reads as it did. -/
def pickKnownUptoRow : OpenClaim := { program := "ytmjaompepchieaa", sum := "cfb4da3945402ef5dff56d6bc770e7a2d2cbada2d24bcfd37cea337c48a1659b", func := "dandelion/dandelionlaw12.PickKnown", spec := "pickKnown", unfollowed := true, recurses := true, apart := false, narrowed := true }
def PickKnownUptoSaid : Prop := pickKnownUptoRow.holds Try.pinned (OpenSpec.upto pickKnownSpec)

end Rows
end Go.Proofs.Ytmjaompepchieaa
