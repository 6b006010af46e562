/- SumNames: the walk. -/
import Derived.Test.YtmaoejdlcnlkmaaSumW2
import Derived.Lib.SlBytesConst
namespace Go.Proofs.Ytmaoejdlcnlkmaa
open Go.RowKit

theorem names_cells (w : World) (fr : Nat × Nat) : IsBytes (w.alloc (.cells #[.int .u8 49, .int .u8 50, .int .u8 51, .int .u8 52, .int .u8 53, .int .u8 54, .int .u8 55, .int .u8 56, .int .u8 57] 5 fr))
    (.slice (some ⟨w.heap.size, 0, none⟩) 9 9) [49, 50, 51, 52, 53, 54, 55, 56, 57] :=
  IsOnes.lit w _ _ fr _ 9 rfl (by unfold maxLen; omega) rfl

theorem sumNames_walk (w : World) :
    Calls Try.prog 3 #[] w fun e w' => e = .returned (.bool true) ∧ Up w w' := by
  have kc := fun (w : World) (C : Array Value) (n c : Nat) => Lib.run_convert_bytes_const (P := Try.prog) w 24 5 C n c Try.underlying24 Try.underlying5
  go_enter Try.func3, Try.ntmps3
  go_wp2_with fail
  refine (of_any _ _ _ (names_cells w _)).mono ?_
  rintro e w' ⟨rfl, rfl⟩
  rw [crc_name]
  go_wp2_with fail
  refine (of_any _ _ _ (IsOnes.nil _ _)).mono ?_
  rintro e w' ⟨rfl, rfl⟩
  rw [crc_none]
  go_wp2_with fail
  go_ret
  exact ⟨rfl, up_alloc _ _⟩
end Go.Proofs.Ytmaoejdlcnlkmaa
