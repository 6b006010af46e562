import Derived.Test.YtkpjfnbbkohciaaGreatRows
import Derived.Lib.Hide
import Derived.JoinedOf
import Derived.OpenShut
set_option maxRecDepth 100000
set_option maxHeartbeats 16000000
set_option linter.all false
namespace Go.Proofs.YtkpjfnbbkohciaaGreat
open Go.Proofs.Tryz Go.RowKit
theorem Sq:joinedFacts Tryz.pinned.checked.prog 3 Tryz.f3 Rows.wholeModelSpec Rows.wholeModelRow=true:=by kernel_rfl
end Go.Proofs.YtkpjfnbbkohciaaGreat
