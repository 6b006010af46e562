/- SameNums; FieldWide. -/
import Derived.Test.YthbfhlphclgnaaaFieldA
namespace Go.Proofs.Ythbfhlphclgnaaa
open Go.RowKit

theorem drewN_zero (w : World) : w.drewN 0 = w := rfl
theorem drewN_add (w : World) (m n : Nat) : (w.drewN m).drewN n = w.drewN (m + n) := by simp [World.drewN, Nat.add_assoc]

def QuietBool (b : Bool) (w : World) (e : Ending) (w' : World) : Prop := e = .returned (.bool b) ∧ ∃ n, w' = w.drewN n

end Go.Proofs.Ythbfhlphclgnaaa
