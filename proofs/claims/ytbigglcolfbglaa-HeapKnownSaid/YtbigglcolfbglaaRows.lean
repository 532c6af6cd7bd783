/-
  No cell of these rows narrows 'for every input' (looked for: loops, veiled, ifaces, maps, wideKeys, modest, calm, conditions, laid).
  DERIVED. THE GIVEN ROWS OF THIS SEAT. 5 by the template 'for every input the law returns true; each argument reads behind the call as it read before'; 0 by the template 'total and deterministic' (their statements: YtbigglcolfbglaaTotals.lean).
  GIVEN WITH THE SEED: the statements are not yours to turn. If you find one false, say at which input.
  Laid BY PROGRAM, IN A SANDBOX (cutbox-rows.mjs): the forced cells as the released guide's own fill.sh prints them over the translation 3907b281fc5ff336… (all of the seat's roots in one cut). By AI agents, Wed Nov 11 2026. No macro, syntax, notation, axiom, sorry.
-/
import Derived.Test.YtbigglcolfbglaaChecked
import GoSem.Claim
import GoSem.ClaimJoined
import GoSem.ClaimMapViews
import Derived.JoinedTies
import Derived.KernelRfl
namespace Go.Proofs.Ytbigglcolfbglaa
/- THE CELL 'sum', in the pinned program and in every row, IS THE sha256 OF THE DUMP (.gsa) THAT YtbigglcolfbglaaProg.lean LOADS. Nothing in Lean hashes anything: it is a label: what it is worth is what the hold of that sum in a sandbox is worth. -/
noncomputable def Try.pinned : Pinned := { name := "ytbigglcolfbglaa", sum := "3907b281fc5ff336b40395818724a6265bdfa8bb489cbf7ab9a219fc7390676c", checked := Try.checked }
namespace Rows
def none {H : Type} : Left H := { results := [], args := [] }

/-- 'dandelionlaw05.HeapPlays': WHATEVER THE INPUT: true; the input reads as it did. -/
def heapPlaysSpec : ChangeSpec := { name := "heapPlays", fn := fun _ => fun
  | [d] => { results := [.lit (.bool true)], args := [d] }
  | _ => none }
def heapPlaysRow : OpenClaim := { program := "ytbigglcolfbglaa", sum := "3907b281fc5ff336b40395818724a6265bdfa8bb489cbf7ab9a219fc7390676c", func := "dandelion/dandelionlaw05.HeapPlays", spec := "heapPlays", unfollowed := true, recurses := true, apart := false }
def HeapPlaysSaid : Prop := heapPlaysRow.holds Try.pinned (OpenSpec.ofChange heapPlaysSpec)

/-- ITS FALSE NEIGHBOUR: 'it returns false'. Refute it at one input. -/
def heapPlaysWrong : ChangeSpec := { name := "heapPlays", fn := fun _ => fun
  | [d] => { results := [.lit (.bool false)], args := [d] }
  | _ => none }
def HeapPlaysWrongFalsely : Prop := heapPlaysRow.holds Try.pinned (OpenSpec.ofChange heapPlaysWrong)

/-- 'dandelionlaw05.HeapSorts': WHATEVER THE INPUT: true; the input reads as it did. -/
def heapSortsSpec : ChangeSpec := { name := "heapSorts", fn := fun _ => fun
  | [d] => { results := [.lit (.bool true)], args := [d] }
  | _ => none }
def heapSortsRow : OpenClaim := { program := "ytbigglcolfbglaa", sum := "3907b281fc5ff336b40395818724a6265bdfa8bb489cbf7ab9a219fc7390676c", func := "dandelion/dandelionlaw05.HeapSorts", spec := "heapSorts", unfollowed := true, recurses := true, apart := false }
def HeapSortsSaid : Prop := heapSortsRow.holds Try.pinned (OpenSpec.ofChange heapSortsSpec)

/-- ITS FALSE NEIGHBOUR: 'it returns false'. Refute it at one input. -/
def heapSortsWrong : ChangeSpec := { name := "heapSorts", fn := fun _ => fun
  | [d] => { results := [.lit (.bool false)], args := [d] }
  | _ => none }
def HeapSortsWrongFalsely : Prop := heapSortsRow.holds Try.pinned (OpenSpec.ofChange heapSortsWrong)

/-- 'dandelionlaw05.HeapEmpties': WHATEVER THE INPUT: true; the input reads as it did. -/
def heapEmptiesSpec : ChangeSpec := { name := "heapEmpties", fn := fun _ => fun
  | [d] => { results := [.lit (.bool true)], args := [d] }
  | _ => none }
def heapEmptiesRow : OpenClaim := { program := "ytbigglcolfbglaa", sum := "3907b281fc5ff336b40395818724a6265bdfa8bb489cbf7ab9a219fc7390676c", func := "dandelion/dandelionlaw05.HeapEmpties", spec := "heapEmpties", unfollowed := true, recurses := true, apart := false }
def HeapEmptiesSaid : Prop := heapEmptiesRow.holds Try.pinned (OpenSpec.ofChange heapEmptiesSpec)

/-- ITS FALSE NEIGHBOUR: 'it returns false'. Refute it at one input. -/
def heapEmptiesWrong : ChangeSpec := { name := "heapEmpties", fn := fun _ => fun
  | [d] => { results := [.lit (.bool false)], args := [d] }
  | _ => none }
def HeapEmptiesWrongFalsely : Prop := heapEmptiesRow.holds Try.pinned (OpenSpec.ofChange heapEmptiesWrong)

/-- 'dandelionlaw05.HeapStrange': WHATEVER THE INPUT: true; the input reads as it did. -/
def heapStrangeSpec : ChangeSpec := { name := "heapStrange", fn := fun _ => fun
  | [d1, d2] => { results := [.lit (.bool true)], args := [d1, d2] }
  | _ => none }
def heapStrangeRow : OpenClaim := { program := "ytbigglcolfbglaa", sum := "3907b281fc5ff336b40395818724a6265bdfa8bb489cbf7ab9a219fc7390676c", func := "dandelion/dandelionlaw05.HeapStrange", spec := "heapStrange", unfollowed := true, recurses := true, apart := false }
def HeapStrangeSaid : Prop := heapStrangeRow.holds Try.pinned (OpenSpec.ofChange heapStrangeSpec)

/-- ITS FALSE NEIGHBOUR: 'it returns false'. Refute it at one input. -/
def heapStrangeWrong : ChangeSpec := { name := "heapStrange", fn := fun _ => fun
  | [d1, d2] => { results := [.lit (.bool false)], args := [d1, d2] }
  | _ => none }
def HeapStrangeWrongFalsely : Prop := heapStrangeRow.holds Try.pinned (OpenSpec.ofChange heapStrangeWrong)

/-- 'dandelionlaw05.HeapKnown': WHATEVER THE INPUT: true; the input reads as it did. -/
def heapKnownSpec : ChangeSpec := { name := "heapKnown", fn := fun _ => fun
  | [] => { results := [.lit (.bool true)], args := [] }
  | _ => none }
def heapKnownRow : OpenClaim := { program := "ytbigglcolfbglaa", sum := "3907b281fc5ff336b40395818724a6265bdfa8bb489cbf7ab9a219fc7390676c", func := "dandelion/dandelionlaw05.HeapKnown", spec := "heapKnown", unfollowed := true, recurses := true, apart := false }
def HeapKnownSaid : Prop := heapKnownRow.holds Try.pinned (OpenSpec.ofChange heapKnownSpec)

/-- ITS FALSE NEIGHBOUR: 'it returns false'. Refute it at one input. -/
def heapKnownWrong : ChangeSpec := { name := "heapKnown", fn := fun _ => fun
  | [] => { results := [.lit (.bool false)], args := [] }
  | _ => none }
def HeapKnownWrongFalsely : Prop := heapKnownRow.holds Try.pinned (OpenSpec.ofChange heapKnownWrong)

/- THE SECOND FORM. 'bulk': how many values and letters a reading holds, each counted each time it is reached (what is shared counts as often as it is met; a slice's spare places count too). A statement '..UptoSaid' is the law's where the arguments, and the package variables that the reading takes, are together of bulk at most 1048576: NARROWER than '..Said'. Prove '..Said' where nothing that the law and all that it calls make is longer than what came in: it says more and counts as full. Else prove '..UptoSaid'. A law counts once. -/
mutual
def uptoBulk {H : Type} : DataW H → Nat
  | .lit (.string bytes) => bytes.length + 1
  | .lit _ => 1
  | .nil => 1
  | .ptr d => uptoBulk d + 1
  | .slice elems spare => uptoBulkAll elems + uptoBulkAll spare + 1
  | .agg parts => uptoBulkAll parts + 1
  | .iface _ d => uptoBulk d + 1
  | .map entries => uptoBulkEntries entries + 1
  | .held _ => 1
def uptoBulkAll {H : Type} : List (DataW H) → Nat
  | [] => 0
  | d :: r => uptoBulk d + uptoBulkAll r
def uptoBulkEntries {H : Type} : List (Lit × DataW H) → Nat
  | [] => 0
  | x :: r => uptoBulkEntry x + uptoBulkEntries r
def uptoBulkEntry {H : Type} : Lit × DataW H → Nat
  | (.string bytes, d) => bytes.length + uptoBulk d + 1
  | (_, d) => uptoBulk d + 1
 end
def uptoSmall : (H : Type) → List (DataW H) → Bool := fun _ ds => decide (uptoBulkAll ds ≤ 1048576)
def OpenSpec.upto (s : _root_.Go.ChangeSpec) : _root_.Go.OpenSpec := { _root_.Go.OpenSpec.ofChange s with cond := some uptoSmall }

/-- 'dandelionlaw05.HeapPlays', WHERE WHAT IT READS IS OF BULK AT MOST 1048576: true; the input reads as it did. -/
def heapPlaysUptoRow : OpenClaim := { program := "ytbigglcolfbglaa", sum := "3907b281fc5ff336b40395818724a6265bdfa8bb489cbf7ab9a219fc7390676c", func := "dandelion/dandelionlaw05.HeapPlays", spec := "heapPlays", unfollowed := true, recurses := true, apart := false, narrowed := true }
def HeapPlaysUptoSaid : Prop := heapPlaysUptoRow.holds Try.pinned (OpenSpec.upto heapPlaysSpec)

/-- 'dandelionlaw05.HeapSorts', WHERE WHAT IT READS IS OF BULK AT MOST 1048576: true; the input reads as it did. -/
def heapSortsUptoRow : OpenClaim := { program := "ytbigglcolfbglaa", sum := "3907b281fc5ff336b40395818724a6265bdfa8bb489cbf7ab9a219fc7390676c", func := "dandelion/dandelionlaw05.HeapSorts", spec := "heapSorts", unfollowed := true, recurses := true, apart := false, narrowed := true }
def HeapSortsUptoSaid : Prop := heapSortsUptoRow.holds Try.pinned (OpenSpec.upto heapSortsSpec)

/-- 'dandelionlaw05.HeapEmpties', WHERE WHAT IT READS IS OF BULK AT MOST 1048576: true; the input reads as it did. -/
def heapEmptiesUptoRow : OpenClaim := { program := "ytbigglcolfbglaa", sum := "3907b281fc5ff336b40395818724a6265bdfa8bb489cbf7ab9a219fc7390676c", func := "dandelion/dandelionlaw05.HeapEmpties", spec := "heapEmpties", unfollowed := true, recurses := true, apart := false, narrowed := true }
def HeapEmptiesUptoSaid : Prop := heapEmptiesUptoRow.holds Try.pinned (OpenSpec.upto heapEmptiesSpec)

/-- 'dandelionlaw05.HeapStrange', WHERE WHAT IT READS IS OF BULK AT MOST 1048576: true; the input reads as it did. -/
def heapStrangeUptoRow : OpenClaim := { program := "ytbigglcolfbglaa", sum := "3907b281fc5ff336b40395818724a6265bdfa8bb489cbf7ab9a219fc7390676c", func := "dandelion/dandelionlaw05.HeapStrange", spec := "heapStrange", unfollowed := true, recurses := true, apart := false, narrowed := true }
def HeapStrangeUptoSaid : Prop := heapStrangeUptoRow.holds Try.pinned (OpenSpec.upto heapStrangeSpec)

/-- 'dandelionlaw05.HeapKnown', WHERE WHAT IT READS IS OF BULK AT MOST 1048576: true; the input reads as it did. -/
def heapKnownUptoRow : OpenClaim := { program := "ytbigglcolfbglaa", sum := "3907b281fc5ff336b40395818724a6265bdfa8bb489cbf7ab9a219fc7390676c", func := "dandelion/dandelionlaw05.HeapKnown", spec := "heapKnown", unfollowed := true, recurses := true, apart := false, narrowed := true }
def HeapKnownUptoSaid : Prop := heapKnownUptoRow.holds Try.pinned (OpenSpec.upto heapKnownSpec)

end Rows
end Go.Proofs.Ytbigglcolfbglaa
