/- PtrNames. -/
import Derived.Test.YtbhondhbonmilaaPtrA
set_option linter.unusedSimpArgs false
namespace Go.Proofs.Ytbhondhbonmilaa
open Go.RowKit

theorem ptrNames_walk (w : World) : Calls Try.prog 3 #[] w fun e w' => e = .returned (.bool true) ∧ Up w w' := by
  go_enter Try.func3, Try.ntmps3
  go_wp2_with fail
  refine (alive_any _).mono ?_
  rintro e w1 ⟨rfl, up1⟩
  go_wp2_with fail
  go_ret
  exact ⟨rfl, up1⟩
end Go.Proofs.Ytbhondhbonmilaa
