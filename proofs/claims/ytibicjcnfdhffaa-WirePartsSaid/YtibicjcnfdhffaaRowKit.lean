/- What the frames round the walks share. No program is in sight. -/
import Derived.ProofKit
import Derived.OpenShut
import Derived.ShutString
import Derived.ChangeOld
import Derived.Below
import Derived.SizedLaws
set_option linter.unusedSimpArgs false
set_option linter.unusedVariables false
namespace Go.Proofs.Ytibicjcnfdhffaa
open Go.ChangeShapes Go.WideShapes Go.ChangeAt Go.RowKit

theorem size_of_sized {s : ByteArray} (h : s.data.toList.length ≤ reachBytes) : s.size ≤ 140737488351232 := by
  have e : s.data.toList.length = s.size := by cases s; rfl
  rw [e] at h
  exact h

end Go.Proofs.Ytibicjcnfdhffaa
