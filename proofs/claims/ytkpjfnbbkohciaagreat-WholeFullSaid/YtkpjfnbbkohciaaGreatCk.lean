import Derived.Test.YtkpjfnbbkohciaaGreatRows
import Derived.Lib.Hide
import Derived.JoinedOf
import Derived.OpenShut
set_option maxRecDepth 100000
set_option maxHeartbeats 16000000
set_option linter.all false
namespace Go.Proofs.YtkpjfnbbkohciaaGreat
open Go.Proofs.Tryz Go.RowKit
theorem Rl:joinedFacts Tryz.pinned.checked.prog 5 Tryz.f5 Rows.wholeFullSpec Rows.wholeFullRow=true:=by kernel_rfl
end Go.Proofs.YtkpjfnbbkohciaaGreat
