/- Go's slices.MaxFunc and its insertion sort at this translation, laid off the kit's library. -/
import Derived.Test.YtmjaompepchieaaPkA
import Derived.Shelf.SlCmpFuncs.MinMaxFunc
import Derived.Shelf.SlSortCmp.Insertion1
import Derived.Shelf.Lay
import Derived.Shelf.SlGeneric
import Derived.Ground.SlsgProg
import Derived.Ground.SlsfProg
set_option linter.unusedSimpArgs false
set_option linter.unusedVariables false
namespace Go.Proofs
open Go.Shelf Go.RowKit Go.Lib Go.Sort
shelf_lay_g SlLaysG2.n12 Slsg 12 at Try 31 as Try.maxL
shelf_lay_g SlLaysF.n20 Slsf 20 at Try 38 as Try.insL
theorem Ytmjaompepchieaa.max_any (enc : Int → Value) (h1 : OneCell enc) (cf : Int → Int → Int) (g : Nat) (cb : Array Value) (blk off cap : Nat) (d : Array Int) (w0 : World)
    (eg : ∀ args w, (callFunc g args).run Try.prog w = .ok (.enter g args) w) (hcmp : CmpLays1 Try.prog g cb enc cf blk off d.size w0) (hH : Holds enc w0 blk off d) (hblk : blk < w0.heap.size) (hsz : d.size < 4611686018427387904) (h0 : 0 < d.size) :
    Calls Try.prog 31 #[.slice (some ⟨blk, off, none⟩) d.size cap, .func (.func g) #[] cb] w0 fun e w' => e = .returned (enc (Lib.pickBy (fun x m => decide (0 < cf x m)) d (d.size - 1))) ∧ SW enc w0 blk off d w' :=
  Any.slices_MaxFunc Try.maxL enc h1 cf g cb blk off cap d w0 eg hcmp hH hblk hsz h0
theorem Ytmjaompepchieaa.ins_any (enc : Int → Value) (cf : Int → Int → Int) (g : Nat) (cb : Array Value) (blk off cap a b : Nat) (d0 d : Array Int) (w0 w : World)
    (eg : ∀ args w, (callFunc g args).run Try.prog w = .ok (.enter g args) w) (hcmp : CmpLays1 Try.prog g cb enc cf blk off d0.size w0) (R : Row1 enc w0 blk off d0) (hs : d0.size = d.size) (S : SW enc w0 blk off d w) (hab : a ≤ b) (hb : b ≤ d.size) (hsz : d.size < 4611686018427387904) :
    Calls Try.prog 38 #[.slice (some ⟨blk, off, none⟩) d.size cap, .int .i64 a, .int .i64 b, .func (.func g) #[] cb] w fun e w' => e = .returned (.tuple #[]) ∧ SW enc w0 blk off (Sort.insertionSort (ltOf cf) d a b) w' :=
  Any.insertionSortCmpFunc_s Try.insL enc cf g cb blk off cap a b d0 d w0 w eg hcmp R hs S hab hb hsz

end Go.Proofs
