/- The closed law's calls, each at its literal. (Printed by mkmsy.py.) -/
import Derived.Test.YtickjmkkgcfkhaaMsTQ
import Derived.Test.YtickjmkkgcfkhaaMsS
set_option linter.unusedSimpArgs false
set_option linter.unusedVariables false
set_option maxRecDepth 100000
namespace Go.Proofs.Ytickjmkkgcfkhaa
open Go.RowKit Go.ChangeShapes Go.WideShapes

def stM : Ms := { Ms.zero with kd := 2, st := ⟨3, 1, 2⟩ }
def akM : Ms := { Ms.zero with kd := 5, dst := 2, hops := 15, ak := ⟨7, 1, 2, 1, 3⟩ }
theorem stM_ok : stM.ok := by simp [wishM, stM, akM, Ms.ok, Ms.zero, Rc.ok, Rc.zero, St.ok, Hd.ok, Hd.zero, Bt.ok, Bt.zero, Wi.ok, Wi.zero, Ak.ok, Ak.zero, I64]
theorem stM_chk : stM.chk = true := by decide +kernel
theorem stM_body : stM.body = [2, 3, 0, 0, 0, 1, 0, 0, 0, 2] := by decide +kernel
theorem stM_size : stM.enc.size = 12 := by
  have h := (menc_open stM).2.2
  have : stM.lay.length = 9 := by decide +kernel
  omega
theorem stM_front : stM.enc.extract 0 10 = ⟨#[2, 3, 0, 0, 0, 1, 0, 0, 0, 2]⟩ := by
  apply ByteArray.ext
  apply Array.toList_inj.1
  rw [ByteArray.data_extract, Array.toList_extract, List.extract]
  show ((stM.enc.data.toList.drop 0).take 10) = _
  unfold Ms.enc
  rw [sealB_list, bs_toList, stM_body]
  rfl
theorem stM_enc (W : World) : Calls Try.prog 9 #[.agg #[.int .i64 2, .int .i64 0, .int .u32 0, .int .u32 0, .int .i64 0, .bool false, .slice none 0 0, .int .i64 3, .int .u32 1, .int .u32 2, .int .i64 0, .int .i64 0, .int .u32 0, .int .i64 0, .int .i64 0, .int .i64 0, .int .u32 0, .int .u64 0, .int .u64 0, .int .u64 0, .int .u64 0, .int .i64 0, .int .i64 0, .int .i64 0, .int .u32 0, .int .u32 0, .int .u8 0, .int .i64 0, .int .u32 0, .int .i64 0, .int .u32 0, .int .u32 0]] W fun e W' => e = .returned (.tuple #[.string stM.enc, .int .i64 0]) ∧ Below W.heap.size W W' := by
  have h := mencode_any stM none 0 W stM_ok (adjs_nil W) (by simp [stM, Ms.zero, Rc.zero])
  unfold Ms.encS Ms.err at h
  rw [stM_chk, if_pos rfl, if_pos rfl] at h
  exact h
theorem akM_ok : akM.ok := by simp [wishM, stM, akM, Ms.ok, Ms.zero, Rc.ok, Rc.zero, St.ok, Hd.ok, Hd.zero, Bt.ok, Bt.zero, Wi.ok, Wi.zero, Ak.ok, Ak.zero, I64]
theorem akM_chk : akM.chk = true := by decide +kernel
theorem akM_body : akM.body = [5, 2, 15, 7, 0, 0, 0, 1, 2, 0, 0, 0, 1, 0, 0, 0, 3] := by decide +kernel
theorem akM_size : akM.enc.size = 19 := by
  have h := (menc_open akM).2.2
  have : akM.lay.length = 16 := by decide +kernel
  omega
theorem akM_front : akM.enc.extract 0 17 = ⟨#[5, 2, 15, 7, 0, 0, 0, 1, 2, 0, 0, 0, 1, 0, 0, 0, 3]⟩ := by
  apply ByteArray.ext
  apply Array.toList_inj.1
  rw [ByteArray.data_extract, Array.toList_extract, List.extract]
  show ((akM.enc.data.toList.drop 0).take 17) = _
  unfold Ms.enc
  rw [sealB_list, bs_toList, akM_body]
  rfl
theorem akM_enc (W : World) : Calls Try.prog 9 #[.agg #[.int .i64 5, .int .i64 0, .int .u32 0, .int .u32 0, .int .i64 0, .bool false, .slice none 0 0, .int .i64 0, .int .u32 0, .int .u32 0, .int .i64 0, .int .i64 0, .int .u32 0, .int .i64 0, .int .i64 0, .int .i64 0, .int .u32 0, .int .u64 0, .int .u64 0, .int .u64 0, .int .u64 0, .int .i64 2, .int .i64 15, .int .i64 0, .int .u32 0, .int .u32 0, .int .u8 0, .int .i64 7, .int .u32 1, .int .i64 2, .int .u32 1, .int .u32 3]] W fun e W' => e = .returned (.tuple #[.string akM.enc, .int .i64 0]) ∧ Below W.heap.size W W' := by
  have h := mencode_any akM none 0 W akM_ok (adjs_nil W) (by simp [akM, Ms.zero, Rc.zero])
  unfold Ms.encS Ms.err at h
  rw [akM_chk, if_pos rfl, if_pos rfl] at h
  exact h
theorem bad0_any (W : World) : Calls Try.prog 11 #[.agg #[.int .i64 4, .int .i64 0, .int .u32 0, .int .u32 0, .int .i64 0, .bool false, .slice none 0 0, .int .i64 3, .int .u32 1, .int .u32 2, .int .i64 0, .int .i64 0, .int .u32 0, .int .i64 0, .int .i64 0, .int .i64 0, .int .u32 0, .int .u64 0, .int .u64 0, .int .u64 0, .int .u64 0, .int .i64 7, .int .i64 15, .int .i64 2, .int .u32 1, .int .u32 3, .int .u8 129, .int .i64 0, .int .u32 0, .int .i64 0, .int .u32 0, .int .u32 0]] W fun e W' => e = .returned (.int .i64 2) ∧ Below W.heap.size W W' := by
  have h := mcheck_any ({ wishM with st := ⟨3, 1, 2⟩ }) none 0 W (by simp [wishM, stM, akM, Ms.ok, Ms.zero, Rc.ok, Rc.zero, St.ok, Hd.ok, Hd.zero, Bt.ok, Bt.zero, Wi.ok, Wi.zero, Ak.ok, Ak.zero, I64]) (adjs_nil W) (by simp [wishM, Ms.zero, Rc.zero])
  unfold Ms.err at h
  rw [show ({ wishM with st := ⟨3, 1, 2⟩ } : Ms).chk = false from by decide +kernel, if_neg (by decide)] at h
  exact h
theorem bad1_any (W : World) : Calls Try.prog 11 #[.agg #[.int .i64 4, .int .i64 0, .int .u32 0, .int .u32 0, .int .i64 0, .bool false, .slice none 0 0, .int .i64 0, .int .u32 0, .int .u32 0, .int .i64 0, .int .i64 0, .int .u32 0, .int .i64 0, .int .i64 0, .int .i64 0, .int .u32 0, .int .u64 0, .int .u64 0, .int .u64 0, .int .u64 0, .int .i64 25, .int .i64 15, .int .i64 2, .int .u32 1, .int .u32 3, .int .u8 129, .int .i64 0, .int .u32 0, .int .i64 0, .int .u32 0, .int .u32 0]] W fun e W' => e = .returned (.int .i64 2) ∧ Below W.heap.size W W' := by
  have h := mcheck_any ({ wishM with dst := 25 }) none 0 W (by simp [wishM, stM, akM, Ms.ok, Ms.zero, Rc.ok, Rc.zero, St.ok, Hd.ok, Hd.zero, Bt.ok, Bt.zero, Wi.ok, Wi.zero, Ak.ok, Ak.zero, I64]) (adjs_nil W) (by simp [wishM, Ms.zero, Rc.zero])
  unfold Ms.err at h
  rw [show ({ wishM with dst := 25 } : Ms).chk = false from by decide +kernel, if_neg (by decide)] at h
  exact h
theorem bad2_any (W : World) : Calls Try.prog 11 #[.agg #[.int .i64 4, .int .i64 0, .int .u32 0, .int .u32 0, .int .i64 0, .bool false, .slice none 0 0, .int .i64 0, .int .u32 0, .int .u32 0, .int .i64 0, .int .i64 0, .int .u32 0, .int .i64 0, .int .i64 0, .int .i64 0, .int .u32 0, .int .u64 0, .int .u64 0, .int .u64 0, .int .u64 0, .int .i64 7, .int .i64 25, .int .i64 2, .int .u32 1, .int .u32 3, .int .u8 129, .int .i64 0, .int .u32 0, .int .i64 0, .int .u32 0, .int .u32 0]] W fun e W' => e = .returned (.int .i64 2) ∧ Below W.heap.size W W' := by
  have h := mcheck_any ({ wishM with hops := 25 }) none 0 W (by simp [wishM, stM, akM, Ms.ok, Ms.zero, Rc.ok, Rc.zero, St.ok, Hd.ok, Hd.zero, Bt.ok, Bt.zero, Wi.ok, Wi.zero, Ak.ok, Ak.zero, I64]) (adjs_nil W) (by simp [wishM, Ms.zero, Rc.zero])
  unfold Ms.err at h
  rw [show ({ wishM with hops := 25 } : Ms).chk = false from by decide +kernel, if_neg (by decide)] at h
  exact h
theorem bad3_any (W : World) : Calls Try.prog 11 #[.agg #[.int .i64 4, .int .i64 0, .int .u32 0, .int .u32 0, .int .i64 0, .bool false, .slice none 0 0, .int .i64 0, .int .u32 0, .int .u32 0, .int .i64 0, .int .i64 0, .int .u32 0, .int .i64 0, .int .i64 0, .int .i64 0, .int .u32 0, .int .u64 0, .int .u64 0, .int .u64 0, .int .u64 0, .int .i64 7, .int .i64 15, .int .i64 2, .int .u32 1, .int .u32 0, .int .u8 129, .int .i64 0, .int .u32 0, .int .i64 0, .int .u32 0, .int .u32 0]] W fun e W' => e = .returned (.int .i64 2) ∧ Below W.heap.size W W' := by
  have h := mcheck_any ({ wishM with wi := ⟨2, 1, 0, 129⟩ }) none 0 W (by simp [wishM, stM, akM, Ms.ok, Ms.zero, Rc.ok, Rc.zero, St.ok, Hd.ok, Hd.zero, Bt.ok, Bt.zero, Wi.ok, Wi.zero, Ak.ok, Ak.zero, I64]) (adjs_nil W) (by simp [wishM, Ms.zero, Rc.zero])
  unfold Ms.err at h
  rw [show ({ wishM with wi := ⟨2, 1, 0, 129⟩ } : Ms).chk = false from by decide +kernel, if_neg (by decide)] at h
  exact h
theorem bad4_any (W : World) : Calls Try.prog 11 #[.agg #[.int .i64 6, .int .i64 0, .int .u32 0, .int .u32 0, .int .i64 0, .bool false, .slice none 0 0, .int .i64 0, .int .u32 0, .int .u32 0, .int .i64 0, .int .i64 0, .int .u32 0, .int .i64 0, .int .i64 0, .int .i64 0, .int .u32 0, .int .u64 0, .int .u64 0, .int .u64 0, .int .u64 0, .int .i64 7, .int .i64 15, .int .i64 2, .int .u32 1, .int .u32 3, .int .u8 129, .int .i64 0, .int .u32 0, .int .i64 0, .int .u32 0, .int .u32 0]] W fun e W' => e = .returned (.int .i64 2) ∧ Below W.heap.size W W' := by
  have h := mcheck_any ({ wishM with kd := 6 }) none 0 W (by simp [wishM, stM, akM, Ms.ok, Ms.zero, Rc.ok, Rc.zero, St.ok, Hd.ok, Hd.zero, Bt.ok, Bt.zero, Wi.ok, Wi.zero, Ak.ok, Ak.zero, I64]) (adjs_nil W) (by simp [wishM, Ms.zero, Rc.zero])
  unfold Ms.err at h
  rw [show ({ wishM with kd := 6 } : Ms).chk = false from by decide +kernel, if_neg (by decide)] at h
  exact h
theorem bad5_any (W : World) : Calls Try.prog 11 #[.agg #[.int .i64 4, .int .i64 0, .int .u32 0, .int .u32 0, .int .i64 0, .bool false, .slice none 0 0, .int .i64 0, .int .u32 0, .int .u32 0, .int .i64 0, .int .i64 0, .int .u32 0, .int .i64 0, .int .i64 0, .int .i64 0, .int .u32 0, .int .u64 0, .int .u64 0, .int .u64 0, .int .u64 0, .int .i64 7, .int .i64 15, .int .i64 0, .int .u32 1, .int .u32 3, .int .u8 129, .int .i64 0, .int .u32 0, .int .i64 0, .int .u32 0, .int .u32 0]] W fun e W' => e = .returned (.int .i64 2) ∧ Below W.heap.size W W' := by
  have h := mcheck_any ({ wishM with wi := ⟨0, 1, 3, 129⟩ }) none 0 W (by simp [wishM, stM, akM, Ms.ok, Ms.zero, Rc.ok, Rc.zero, St.ok, Hd.ok, Hd.zero, Bt.ok, Bt.zero, Wi.ok, Wi.zero, Ak.ok, Ak.zero, I64]) (adjs_nil W) (by simp [wishM, Ms.zero, Rc.zero])
  unfold Ms.err at h
  rw [show ({ wishM with wi := ⟨0, 1, 3, 129⟩ } : Ms).chk = false from by decide +kernel, if_neg (by decide)] at h
  exact h
theorem bad6_any (W : World) : Calls Try.prog 11 #[.agg #[.int .i64 0, .int .i64 0, .int .u32 0, .int .u32 0, .int .i64 0, .bool false, .slice none 0 0, .int .i64 0, .int .u32 0, .int .u32 0, .int .i64 0, .int .i64 0, .int .u32 0, .int .i64 0, .int .i64 0, .int .i64 0, .int .u32 0, .int .u64 0, .int .u64 0, .int .u64 0, .int .u64 0, .int .i64 0, .int .i64 0, .int .i64 0, .int .u32 0, .int .u32 0, .int .u8 0, .int .i64 0, .int .u32 0, .int .i64 0, .int .u32 0, .int .u32 0]] W fun e W' => e = .returned (.int .i64 2) ∧ Below W.heap.size W W' := by
  have h := mcheck_any (Ms.zero) none 0 W (by simp [wishM, stM, akM, Ms.ok, Ms.zero, Rc.ok, Rc.zero, St.ok, Hd.ok, Hd.zero, Bt.ok, Bt.zero, Wi.ok, Wi.zero, Ak.ok, Ak.zero, I64]) (adjs_nil W) (by simp [wishM, Ms.zero, Rc.zero])
  unfold Ms.err at h
  rw [show (Ms.zero : Ms).chk = false from by decide +kernel, if_neg (by decide)] at h
  exact h
theorem dec_nil : decME ⟨#[]⟩ = 4 := by decide +kernel
theorem dec_two : decME ⟨#[255, 255]⟩ = 4 := by decide +kernel
theorem dec_great {s : ByteArray} (h : s.size = 513) : decME s = 3 := by unfold decME; rw [if_pos (by omega)]
theorem dec_none : decME (sealB (bs [4, 0, 15, 2, 0, 0, 0, 1, 0, 0, 0, 3, 129])) = 4 := by
  obtain ⟨h1, h2⟩ := sealB_open (bs [4, 0, 15, 2, 0, 0, 0, 1, 0, 0, 0, 3, 129])
  have hs := sealB_size (bs [4, 0, 15, 2, 0, 0, 0, 1, 0, 0, 0, 3, 129])
  rw [bs_size] at hs
  unfold decME
  rw [if_neg (by rw [hs]; decide), if_neg (by rw [hs]; decide), if_pos h1, h2, bs_toList]
  decide +kernel
theorem wish_at : wishM.enc.data.toList.getD 5 0 = 0 := by
  unfold Ms.enc
  rw [sealB_list, bs_toList, wish_body]
  rfl
theorem wish_turned : turnB wishM.enc 5 9 = bs (wishM.enc.data.toList.set 5 9) := by
  unfold turnB
  rw [wish_at]
  rfl
theorem dec_nine : decME (bs (wishM.enc.data.toList.set 5 9)) = 5 ∧ decM (bs (wishM.enc.data.toList.set 5 9)) = Ms.zero := by
  rw [← wish_turned]
  exact dec_turned wish_chk (by rw [wish_size]; decide) (by decide)

end Go.Proofs.Ytickjmkkgcfkhaa
