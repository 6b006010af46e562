/- The example that every statement of layer 2 asks first; SameNums; FieldPuts. -/
import Derived.Test.YthbfhlphclgnaaaFieldJ
import Derived.Test.YthbfhlphclgnaaaFieldRP
import Derived.Lib.SlBytesConst
namespace Go.Proofs.Ythbfhlphclgnaaa
open Go.RowKit

theorem toStr (w : World) (v : Value) (l : List UInt8) (h : IsBytes w v l) : (convert 29 9 v).run Try.prog w = .ok (.string (strOf l)) w :=
  run_string_of_bytes (P := Try.prog) 29 5 Try.underlying29 Try.underlying5 9 Try.underlying9 w v l h

theorem ok_alive : okPut [2] [258] := by decide
theorem bytes_alive : putBytes [2] [258] = [2, 1] := by decide
theorem ok_alive2 : okJoin [[97, 98]] := by decide
theorem bytes_alive2 : joinBytes [[97, 98]] = [1, 0, 2, 0, 97, 98] := by decide

end Go.Proofs.Ythbfhlphclgnaaa
