/- NodeNames. -/
import Derived.Test.YtkfdbhgalkgnkaaNodeA
set_option linter.unusedSimpArgs false
namespace Go.Proofs.Ytkfdbhgalkgnkaa
open Go.RowKit

set_option maxRecDepth 100000 in
set_option maxHeartbeats 4000000 in
theorem nodeNames_walk (w : World) : Calls Try.prog 3 #[] w fun e w' => e = .returned (.bool true) ∧ Up w w' := by
  have NB := Lib.hid (show ∀ W, Calls Try.prog 9 #[.agg (nodeC zero8)] W fun e w' => e = .returned (.tuple #[.agg (secC zeroS), .int .i64 0]) ∧ Up W w' from fun W => by
    have := nbytes_any W zero8 rfl (fun x hx => by rw [List.eq_of_mem_replicate hx]; simp [PtrD.wf, hole])
    unfold NBytes at this
    rw [nbytes_yes (show goodAll zero8 = true by decide), show bytesL zero8 = zeroS by decide] at this
    exact this)
  have NE := Lib.hid (show ∀ W, Calls Try.prog 11 #[.agg (nodeC zero8)] W fun e w' => BoolUp true W e w' from fun W => by
    have := empty_any W zero8 rfl
    rw [show emptyB zero8 = true by decide] at this
    exact this)
  have EQ := sec_eq zeroS zeroS rfl rfl
  rw [show decide (zeroS = zeroS) = true by simp] at EQ
  have NA := Lib.hid alive_any
  go_enter Try.func3, Try.ntmps3
  go_wp2_with (first
    | (refine wpList_build0 rfl 31 rfl (nodeC zero8) built_node ?_)
    | (refine wpList_alloc_blk rfl 23 rfl (secC zeroS) zero_sec ?_))
  refine (NB.out _).mono ?_
  rintro e w1 ⟨rfl, up1⟩
  go_wp2_with (first
    | (refine wpList_alloc_blk rfl 23 rfl (secC zeroS) zero_sec ?_)
    | (refine wpList_store_new (w := w1) rfl 23 (.tmp 1) (.tmp 6) rfl w1.heap.size rfl (secC zeroS) rfl rfl 23 (secC zeroS) info_sec rfl (secC_one _) ?_))
  have B2 := Blk.new w1 23 (secC zeroS)
  have up2 := up_alloc w1 (.cells (secC zeroS) 23)
  generalize hw2 : w1.alloc (.cells (secC zeroS) 23) = w2 at *
  clear hw2
  refine (NA.out _).mono ?_
  rintro e w3 ⟨rfl, up3⟩
  have U3 := Lib.hid (up1.trans (up2.trans up3))
  have B3 := Lib.hid (B2.up up3)
  clear up1 up2 up3 B2
  go_wp2_with (first
    | (refine wpList_load_blkG rfl 23 (.tmp 1) rfl w1.heap.size rfl 23 _ B3.out _ Try.underlying23 rfl info_sec ?_)
    | (refine wpList_build0 rfl 23 rfl (secC zeroS) built_sec ?_)
    | (refine wpList_build0 rfl 31 rfl (nodeC zero8) built_node ?_))
  refine (NE.out _).mono ?_
  rintro e w4 ⟨rfl, up4⟩
  go_wp2_with fail
  go_ret
  exact ⟨rfl, U3.out.trans up4⟩
end Go.Proofs.Ytkfdbhgalkgnkaa
