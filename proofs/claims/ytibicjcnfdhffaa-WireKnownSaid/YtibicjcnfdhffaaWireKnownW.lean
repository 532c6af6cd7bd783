/- The walk of the closed law WireKnown: each call by its contract, what it answers reckoned. -/
import Derived.Test.YtibicjcnfdhffaaWireUnhex
import Derived.Test.YtibicjcnfdhffaaWireOpen
import Derived.Test.YtibicjcnfdhffaaWireTakeVar
import Derived.Test.YtibicjcnfdhffaaWireWorks
set_option linter.unusedSimpArgs false
set_option linter.unusedVariables false
namespace Go.Proofs.Ytibicjcnfdhffaa
open Go.RowKit

theorem known_put1 (w : World) : Calls Try.prog 12 #[.string ⟨#[]⟩, .int .u64 258, .int .i64 1] w fun e w' => e = .returned (.tuple #[.string (bs []), .int .i64 3]) ∧ Below w.heap.size w w' := by
  have h := put_any ⟨#[]⟩ 258 1 w (by decide) (by decide) (by decide)
  rw [show putS ⟨#[]⟩ 258 1 = bs [] from by decide +kernel, show putE 258 1 = 3 from by decide +kernel] at h
  exact h
theorem known_put2 (w : World) : Calls Try.prog 12 #[.string ⟨#[]⟩, .int .u64 1, .int .i64 3] w fun e w' => e = .returned (.tuple #[.string (bs []), .int .i64 2]) ∧ Below w.heap.size w w' := by
  have h := put_any ⟨#[]⟩ 1 3 w (by decide) (by decide) (by decide)
  rw [show putS ⟨#[]⟩ 1 3 = bs [] from by decide +kernel, show putE 1 3 = 2 from by decide +kernel] at h
  exact h
theorem known_take1 (w : World) : Calls Try.prog 23 #[.string ⟨#[1, 2, 3]⟩, .int .i64 1, .int .i64 2] w fun e w' => e = .returned (.tuple #[.int .u64 515, .int .i64 0]) ∧ w = w' := by
  have h := take_any ⟨#[1, 2, 3]⟩ 1 2 w (by decide) (by decide)
  rw [show takeV ⟨#[1, 2, 3]⟩ 1 2 = 515 from by decide +kernel, show takeE ⟨#[1, 2, 3]⟩ 1 2 = 0 from by decide +kernel] at h
  exact h
theorem known_take2 (w : World) : Calls Try.prog 23 #[.string ⟨#[1]⟩, .int .i64 0, .int .i64 2] w fun e w' => e = .returned (.tuple #[.int .u64 0, .int .i64 4]) ∧ w = w' := by
  have h := take_any ⟨#[1]⟩ 0 2 w (by decide) (by decide)
  rw [show takeV ⟨#[1]⟩ 0 2 = 0 from by decide +kernel, show takeE ⟨#[1]⟩ 0 2 = 4 from by decide +kernel] at h
  exact h
theorem known_take3 (w : World) : Calls Try.prog 23 #[.string ⟨#[1]⟩, .int .i64 (-1), .int .i64 1] w fun e w' => e = .returned (.tuple #[.int .u64 0, .int .i64 4]) ∧ w = w' := by
  have h := take_any ⟨#[1]⟩ (-1) 1 w (by decide) (by decide)
  rw [show takeV ⟨#[1]⟩ (-1) 1 = 0 from by decide +kernel, show takeE ⟨#[1]⟩ (-1) 1 = 4 from by decide +kernel] at h
  exact h
theorem known_take4 (w : World) : Calls Try.prog 23 #[.string ⟨#[1]⟩, .int .i64 4611686018427387904, .int .i64 1] w fun e w' => e = .returned (.tuple #[.int .u64 0, .int .i64 4]) ∧ w = w' := by
  have h := take_any ⟨#[1]⟩ 4611686018427387904 1 w (by decide) (by decide)
  rw [show takeV ⟨#[1]⟩ 4611686018427387904 1 = 0 from by decide +kernel, show takeE ⟨#[1]⟩ 4611686018427387904 1 = 4 from by decide +kernel] at h
  exact h
theorem known_tv1 (w : World) : Calls Try.prog 25 #[.string ⟨#[255, 255, 255, 255, 255, 255, 255, 255, 255, 1]⟩, .int .i64 0] w fun e w' => e = .returned (.tuple #[.int .u64 18446744073709551615, .int .i64 10, .int .i64 0]) ∧ w = w' := by
  have h := takevar_any ⟨#[255, 255, 255, 255, 255, 255, 255, 255, 255, 1]⟩ 0 w (by decide)
  rw [show tvV ⟨#[255, 255, 255, 255, 255, 255, 255, 255, 255, 1]⟩ 0 = 18446744073709551615 from by decide +kernel, show tvN ⟨#[255, 255, 255, 255, 255, 255, 255, 255, 255, 1]⟩ 0 = 10 from by decide +kernel, show tvE ⟨#[255, 255, 255, 255, 255, 255, 255, 255, 255, 1]⟩ 0 = 0 from by decide +kernel] at h
  exact h
theorem known_tv2 (w : World) : Calls Try.prog 25 #[.string ⟨#[128, 0]⟩, .int .i64 0] w fun e w' => e = .returned (.tuple #[.int .u64 0, .int .i64 0, .int .i64 4]) ∧ w = w' := by
  have h := takevar_any ⟨#[128, 0]⟩ 0 w (by decide)
  rw [show tvV ⟨#[128, 0]⟩ 0 = 0 from by decide +kernel, show tvN ⟨#[128, 0]⟩ 0 = 0 from by decide +kernel, show tvE ⟨#[128, 0]⟩ 0 = 4 from by decide +kernel] at h
  exact h
theorem known_tv3 (w : World) : Calls Try.prog 25 #[.string ⟨#[128]⟩, .int .i64 0] w fun e w' => e = .returned (.tuple #[.int .u64 0, .int .i64 0, .int .i64 4]) ∧ w = w' := by
  have h := takevar_any ⟨#[128]⟩ 0 w (by decide)
  rw [show tvV ⟨#[128]⟩ 0 = 0 from by decide +kernel, show tvN ⟨#[128]⟩ 0 = 0 from by decide +kernel, show tvE ⟨#[128]⟩ 0 = 4 from by decide +kernel] at h
  exact h
theorem known_tv4 (w : World) : Calls Try.prog 25 #[.string ⟨#[255, 255, 255, 255, 255, 255, 255, 255, 255, 255, 1]⟩, .int .i64 0] w fun e w' => e = .returned (.tuple #[.int .u64 0, .int .i64 0, .int .i64 4]) ∧ w = w' := by
  have h := takevar_any ⟨#[255, 255, 255, 255, 255, 255, 255, 255, 255, 255, 1]⟩ 0 w (by decide)
  rw [show tvV ⟨#[255, 255, 255, 255, 255, 255, 255, 255, 255, 255, 1]⟩ 0 = 0 from by decide +kernel, show tvN ⟨#[255, 255, 255, 255, 255, 255, 255, 255, 255, 255, 1]⟩ 0 = 0 from by decide +kernel, show tvE ⟨#[255, 255, 255, 255, 255, 255, 255, 255, 255, 255, 1]⟩ 0 = 4 from by decide +kernel] at h
  exact h
theorem known_tv5 (w : World) : Calls Try.prog 25 #[.string ⟨#[255, 255, 255, 255, 255, 255, 255, 255, 255, 2]⟩, .int .i64 0] w fun e w' => e = .returned (.tuple #[.int .u64 0, .int .i64 0, .int .i64 4]) ∧ w = w' := by
  have h := takevar_any ⟨#[255, 255, 255, 255, 255, 255, 255, 255, 255, 2]⟩ 0 w (by decide)
  rw [show tvV ⟨#[255, 255, 255, 255, 255, 255, 255, 255, 255, 2]⟩ 0 = 0 from by decide +kernel, show tvN ⟨#[255, 255, 255, 255, 255, 255, 255, 255, 255, 2]⟩ 0 = 0 from by decide +kernel, show tvE ⟨#[255, 255, 255, 255, 255, 255, 255, 255, 255, 2]⟩ 0 = 4 from by decide +kernel] at h
  exact h
theorem known_open1 (w : World) : Calls Try.prog 19 #[.string ⟨#[255, 255]⟩] w fun e w' => e = .returned (.tuple #[.string ⟨#[]⟩, .int .i64 0]) ∧ Below w.heap.size w w' := by
  have h := open_any ⟨#[255, 255]⟩ w (by decide)
  rw [show openS ⟨#[255, 255]⟩ = ⟨#[]⟩ from by decide +kernel, show openE ⟨#[255, 255]⟩ = 0 from by decide +kernel] at h
  exact h
theorem known_open2 (w : World) : Calls Try.prog 19 #[.string ⟨#[255]⟩] w fun e w' => e = .returned (.tuple #[.string ⟨#[]⟩, .int .i64 4]) ∧ Below w.heap.size w w' := by
  have h := open_any ⟨#[255]⟩ w (by decide)
  rw [show openS ⟨#[255]⟩ = ⟨#[]⟩ from by decide +kernel, show openE ⟨#[255]⟩ = 4 from by decide +kernel] at h
  exact h
theorem known_open3 (w : World) : Calls Try.prog 19 #[.string ⟨#[0, 255, 255]⟩] w fun e w' => e = .returned (.tuple #[.string ⟨#[]⟩, .int .i64 5]) ∧ Below w.heap.size w w' := by
  have h := open_any ⟨#[0, 255, 255]⟩ w (by decide)
  rw [show openS ⟨#[0, 255, 255]⟩ = ⟨#[]⟩ from by decide +kernel, show openE ⟨#[0, 255, 255]⟩ = 5 from by decide +kernel] at h
  exact h
theorem known_unhex1 (w : World) : Calls Try.prog 27 #[.string ⟨#[54, 49, 55, 97]⟩] w fun e w' => e = .returned (.tuple #[.string ⟨#[97, 122]⟩, .int .i64 0]) ∧ Below w.heap.size w w' := by
  have h := unhex_any ⟨#[54, 49, 55, 97]⟩ w (by decide)
  rw [show unhS ⟨#[54, 49, 55, 97]⟩ = ⟨#[97, 122]⟩ from by decide +kernel, show unhE ⟨#[54, 49, 55, 97]⟩ = 0 from by decide +kernel] at h
  exact h
theorem known_unhex2 (w : World) : Calls Try.prog 27 #[.string ⟨#[54]⟩] w fun e w' => e = .returned (.tuple #[.string ⟨#[]⟩, .int .i64 4]) ∧ Below w.heap.size w w' := by
  have h := unhex_any ⟨#[54]⟩ w (by decide)
  rw [show unhS ⟨#[54]⟩ = ⟨#[]⟩ from by decide +kernel, show unhE ⟨#[54]⟩ = 4 from by decide +kernel] at h
  exact h
theorem known_unhex3 (w : World) : Calls Try.prog 27 #[.string ⟨#[54, 65]⟩] w fun e w' => e = .returned (.tuple #[.string ⟨#[]⟩, .int .i64 4]) ∧ Below w.heap.size w w' := by
  have h := unhex_any ⟨#[54, 65]⟩ w (by decide)
  rw [show unhS ⟨#[54, 65]⟩ = ⟨#[]⟩ from by decide +kernel, show unhE ⟨#[54, 65]⟩ = 4 from by decide +kernel] at h
  exact h
theorem known_putvar1 (w : World) : Calls Try.prog 15 #[.string ⟨#[]⟩, .int .u64 18446744073709551615] w fun e w' => e = .returned (.string ⟨#[255, 255, 255, 255, 255, 255, 255, 255, 255, 1]⟩) ∧ Below w.heap.size w w' := by
  have h := putvar_any ⟨#[]⟩ 18446744073709551615 w (by decide) (by decide)
  have e : uvarL 18446744073709551615 = [255, 255, 255, 255, 255, 255, 255, 255, 255, 1] := by
    iterate 9 rw [uvarL_more (by decide)]
    rw [uvarL_last (by decide)]
    decide
  rw [e] at h
  exact h
theorem known_putvar2 (w : World) : Calls Try.prog 15 #[.string ⟨#[]⟩, .int .u64 0] w fun e w' => e = .returned (.string ⟨#[0]⟩) ∧ Below w.heap.size w w' := by
  have h := putvar_any ⟨#[]⟩ 0 w (by decide) (by decide)
  have e : uvarL 0 = [0] := by rw [uvarL_last (by decide)]; rfl
  rw [e] at h
  exact h
theorem known_sum (w : World) : Calls Try.prog 17 #[.slice none 0 0] w fun e w' => e = .returned (.int .u16 65535) ∧ w = w' :=
  sum_any none 0 [] w (by decide) (by intro k hk; exact absurd hk (Nat.not_lt_zero k)) (by intro s hs; cases hs)
theorem known_seal (w : World) : Calls Try.prog 21 #[.string ⟨#[]⟩] w fun e w' => e = .returned (.string ⟨#[255, 255]⟩) ∧ Below w.heap.size w w' := by
  have h := seal_any ⟨#[]⟩ w (by decide)
  rw [show sealB ⟨#[]⟩ = ⟨#[255, 255]⟩ from by decide +kernel] at h
  exact h
theorem known_hex (w : World) : Calls Try.prog 29 #[.string ⟨#[97, 122]⟩] w fun e w' => e = .returned (.string ⟨#[54, 49, 55, 97]⟩) ∧ Below w.heap.size w w' := hex_any ⟨#[97, 122]⟩ w (by decide)

set_option maxHeartbeats 800000 in
set_option maxRecDepth 100000 in
theorem wireKnown_walk (w : World) :
    Calls Try.prog 11 #[] w fun e w' => e = .returned (.bool true) ∧ Below w.heap.size w w' := by
  have hx1 : (⟨#[255]⟩ : ByteArray) ++ ⟨#[255, 255, 255, 255, 255, 255, 255, 255, 255, 1]⟩ = ⟨#[255, 255, 255, 255, 255, 255, 255, 255, 255, 255, 1]⟩ := rfl
  have hx2 : (⟨#[255, 255, 255, 255, 255, 255, 255, 255, 255, 1]⟩ : ByteArray).extract 0 9 = ⟨#[255, 255, 255, 255, 255, 255, 255, 255, 255]⟩ := rfl
  have hx3 : (⟨#[255, 255, 255, 255, 255, 255, 255, 255, 255]⟩ : ByteArray) ++ ⟨#[2]⟩ = ⟨#[255, 255, 255, 255, 255, 255, 255, 255, 255, 2]⟩ := rfl
  have hb := Below.refl w.heap.size w
  go_enter Try.func11, Try.ntmps11
  go_wp2_with fail
  refine (known_put1 _).mono ?_
  rintro e w1 ⟨rfl, b1⟩
  have hb := hb.trans (b1.mono hb.size)
  clear b1
  go_wp2_with fail
  refine (known_put2 _).mono ?_
  rintro e w2 ⟨rfl, b2⟩
  have hb := hb.trans (b2.mono hb.size)
  clear b2
  go_wp2_with fail
  refine (known_take1 _).mono ?_
  rintro e w' ⟨rfl, rfl⟩
  go_wp2_with fail
  refine (known_take2 _).mono ?_
  rintro e w' ⟨rfl, rfl⟩
  go_wp2_with fail
  refine (known_take3 _).mono ?_
  rintro e w' ⟨rfl, rfl⟩
  go_wp2_with fail
  refine (known_take4 _).mono ?_
  rintro e w' ⟨rfl, rfl⟩
  go_wp2_with fail
  refine (known_tv1 _).mono ?_
  rintro e w' ⟨rfl, rfl⟩
  go_wp2_with fail
  refine (known_tv2 _).mono ?_
  rintro e w' ⟨rfl, rfl⟩
  go_wp2_with fail
  refine (known_tv3 _).mono ?_
  rintro e w' ⟨rfl, rfl⟩
  go_wp2_with fail
  refine (known_tv4 _).mono ?_
  rintro e w' ⟨rfl, rfl⟩
  go_wp2_with fail
  refine (known_tv5 _).mono ?_
  rintro e w' ⟨rfl, rfl⟩
  go_wp2_with fail
  refine (known_putvar1 _).mono ?_
  rintro e w3 ⟨rfl, b3⟩
  have hb := hb.trans (b3.mono hb.size)
  clear b3
  go_wp2_with fail
  refine (known_putvar2 _).mono ?_
  rintro e w4 ⟨rfl, b4⟩
  have hb := hb.trans (b4.mono hb.size)
  clear b4
  go_wp2_with fail
  refine (known_open1 _).mono ?_
  rintro e w5 ⟨rfl, b5⟩
  have hb := hb.trans (b5.mono hb.size)
  clear b5
  go_wp2_with fail
  refine (known_open2 _).mono ?_
  rintro e w6 ⟨rfl, b6⟩
  have hb := hb.trans (b6.mono hb.size)
  clear b6
  go_wp2_with fail
  refine (known_open3 _).mono ?_
  rintro e w7 ⟨rfl, b7⟩
  have hb := hb.trans (b7.mono hb.size)
  clear b7
  go_wp2_with fail
  refine (known_unhex1 _).mono ?_
  rintro e w8 ⟨rfl, b8⟩
  have hb := hb.trans (b8.mono hb.size)
  clear b8
  go_wp2_with fail
  refine (known_unhex2 _).mono ?_
  rintro e w9 ⟨rfl, b9⟩
  have hb := hb.trans (b9.mono hb.size)
  clear b9
  go_wp2_with fail
  refine (known_unhex3 _).mono ?_
  rintro e w10 ⟨rfl, b10⟩
  have hb := hb.trans (b10.mono hb.size)
  clear b10
  go_wp2_with fail
  refine (works_any _).mono ?_
  rintro e w11 ⟨rfl, b11⟩
  have hb := hb.trans (b11.mono hb.size)
  clear b11
  go_wp2_with fail
  refine (known_sum _).mono ?_
  rintro e w' ⟨rfl, rfl⟩
  go_wp2_with fail
  refine (known_seal _).mono ?_
  rintro e w12 ⟨rfl, b12⟩
  have hb := hb.trans (b12.mono hb.size)
  clear b12
  go_wp2_with fail
  refine (known_hex _).mono ?_
  rintro e w13 ⟨rfl, b13⟩
  have hb := hb.trans (b13.mono hb.size)
  clear b13
  go_wp2_with fail
  go_ret
  exact ⟨rfl, hb⟩

end Go.Proofs.Ytibicjcnfdhffaa
