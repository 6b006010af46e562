/- The chapter's example. -/
import Derived.Test.YtkfdbhgalkgnkaaNodeC
import Derived.Test.YtkfdbhgalkgnkaaNodeS
set_option linter.unusedSimpArgs false
namespace Go.Proofs.Ytkfdbhgalkgnkaa
open Go.RowKit

def exN : List PtrD := [hole, hole, hole, hole, hole, hole, hole, ⟨9, 3, 1⟩]
def exS : List UInt8 := bytesL exN
theorem exN_wf : ∀ x ∈ exN, x.wf := by
  intro x hx
  simp [exN] at hx
  rcases hx with rfl | rfl
  · simp [PtrD.wf, hole]
  · simp [PtrD.wf]
theorem exN_bytes : nbytes exN = (exS, 0) := nbytes_yes (by decide)
theorem exS_length : exS.length = 128 := by unfold exS; rw [bytesL_length]; rfl
theorem exS_read : nread exS = (exN, 0) := by
  refine nread_some ?_
  exact readTo_bytes exN exN_wf (fun x hx => (goodAll_iff exN).1 (by decide) x hx) 8 (Nat.le_refl _)
theorem exS_at : exS = [0,0,0,0,0,0,0,0,0,0,0,0,0,0,0,0, 0,0,0,0,0,0,0,0,0,0,0,0,0,0,0,0, 0,0,0,0,0,0,0,0,0,0,0,0,0,0,0,0, 0,0,0,0,0,0,0,0,0,0,0,0,0,0,0,0, 0,0,0,0,0,0,0,0,0,0,0,0,0,0,0,0, 0,0,0,0,0,0,0,0,0,0,0,0,0,0,0,0, 0,0,0,0,0,0,0,0,0,0,0,0,0,0,0,0, 9,0,0,0,3,0,0,0,0,0,0,0,1,0,0,0] := by decide
theorem exN_newest : newestN exN = 3 := by decide
theorem exN_empty : emptyB exN = false := by decide
theorem built_ex : Try.prog.built 31 [(7, .agg #[.int .i64 9, .int .u64 3, .int .u32 1])] = some (nodeC exN) := by kernel_rfl

set_option maxRecDepth 100000 in
set_option maxHeartbeats 4000000 in
theorem alive_any (w : World) : Calls Try.prog 10 #[] w fun e w' => e = .returned (.bool true) ∧ Up w w' := by
  have NB := Lib.hid (show ∀ W, Calls Try.prog 9 #[.agg (nodeC exN)] W fun e w' => e = .returned (.tuple #[.agg (secC exS), .int .i64 0]) ∧ Up W w' from fun W => by
    have := nbytes_any W exN rfl exN_wf
    unfold NBytes at this
    rw [exN_bytes] at this
    exact this)
  have NR := Lib.hid (show ∀ W, Calls Try.prog 16 #[.agg (secC exS)] W fun e w' => e = .returned (.tuple #[.agg (nodeC exN), .int .i64 0]) ∧ Up W w' from fun W => by
    have := nread_any W exS exS_length
    unfold NRead at this
    rw [exS_read] at this
    exact this)
  have NE := Lib.hid (show ∀ W, Calls Try.prog 11 #[.agg (nodeC exN)] W fun e w' => BoolUp false W e w' from fun W => by
    have := empty_any W exN rfl
    rw [exN_empty] at this
    exact this)
  have NN := Lib.hid (show ∀ W, Calls Try.prog 14 #[.agg (nodeC exN)] W fun e w' => e = .returned (.int .u64 3) ∧ Up W w' from fun W => by
    have := newest_any W exN rfl
    rw [exN_newest] at this
    exact this)
  have EQ := node_eq exN exN rfl rfl
  rw [show decide (exN = exN) = true by simp] at EQ
  have SZN : (Try.prog.info? 31).map (·.size) = some (nodeC exN).size := by kernel_rfl
  have SZS : (Try.prog.info? 23).map (·.size) = some (secC exS).size := by rw [secC_size, exS_length]; exact info_sec
  have HN := Lib.hid SZN
  have HS := Lib.hid SZS
  have S0 := Lib.hid (show (secC zeroS).size = (secC exS).size by rw [secC_size, secC_size, exS_length]; rfl)
  have C0 := Lib.hid (show (nodeC zero8).size = (nodeC exN).size by rfl)
  clear SZN SZS
  go_enter Try.func10, Try.ntmps10
  go_wp2_with (first
    | (refine wpList_build rfl 31 #[(7, .tmp 6)] rfl (by kernel_rfl) ?_
       rw [show (Try.prog.built 31 ((#[(7, .tmp 6)] : Array (Nat × Operand)).map _).toList).getD #[] = nodeC exN from by kernel_rfl])
    | (refine wpList_alloc_blk rfl 31 rfl (nodeC zero8) zero_nodeV ?_)
    | (refine wpList_store_new (w := w) rfl 31 (.tmp 1) (.tmp 7) rfl w.heap.size rfl (nodeC exN) rfl rfl 31 (nodeC zero8) HN.out C0.out (nodeC_one _) ?_)
    | (refine wpList_load_blk rfl 31 (.tmp 1) rfl w.heap.size rfl 31 _ (Blk.new w _ _) _ Try.underlying31 rfl HN.out ?_))
  have B1 := Blk.new w 31 (nodeC exN)
  have up1 := up_alloc w (.cells (nodeC exN) 31)
  generalize hw1 : w.alloc (.cells (nodeC exN) 31) = w1 at *
  clear hw1
  refine (NB.out _).mono ?_
  rintro e w2 ⟨rfl, up2⟩
  have U2 := Lib.hid (up1.trans up2)
  have B2 := Lib.hid (B1.up up2)
  clear up1 up2 B1
  go_wp2_with (first
    | (refine wpList_alloc_blk rfl 23 rfl (secC zeroS) zero_sec ?_)
    | (refine wpList_store_new (w := w2) rfl 23 (.tmp 2) (.tmp 11) rfl w2.heap.size rfl (secC exS) rfl rfl 23 (secC zeroS) HS.out S0.out (secC_one _) ?_)
    | (refine wpList_load_blk rfl 23 (.tmp 2) rfl w2.heap.size rfl 23 _ (Blk.new w2 _ _) _ Try.underlying23 rfl HS.out ?_))
  have S3 := Blk.new w2 23 (secC exS)
  have up3 := up_alloc w2 (.cells (secC exS) 23)
  generalize hw3 : w2.alloc (.cells (secC exS) 23) = w3 at *
  clear hw3
  refine (NR.out _).mono ?_
  rintro e w4 ⟨rfl, up4⟩
  have U4 := Lib.hid (U2.out.trans (up3.trans up4))
  have B4 := Lib.hid (B2.out.up (up3.trans up4))
  have S4 := Lib.hid (S3.up up4)
  clear up3 up4 S3 B2 U2
  have c112 : (w4.alloc (.cells (nodeC exN) 31)).cell? ⟨w2.heap.size, 112, none⟩ = some (.int .u8 9) := (up_alloc _ _).cell (by rw [S4.out.cell]; unfold secC; rw [exS_at]; rfl)
  have c116 : (w4.alloc (.cells (nodeC exN) 31)).cell? ⟨w2.heap.size, 116, none⟩ = some (.int .u8 3) := (up_alloc _ _).cell (by rw [S4.out.cell]; unfold secC; rw [exS_at]; rfl)
  have c124 : (w4.alloc (.cells (nodeC exN) 31)).cell? ⟨w2.heap.size, 124, none⟩ = some (.int .u8 1) := (up_alloc _ _).cell (by rw [S4.out.cell]; unfold secC; rw [exS_at]; rfl)
  have B5 := Lib.hid (B4.out.up (up_alloc w4 (.cells (nodeC exN) 31)))
  go_wp2_with (first
    | (refine wpList_alloc_blk rfl 31 rfl (nodeC zero8) zero_nodeV ?_)
    | (refine wpList_store_new (w := w4) rfl 31 (.tmp 4) (.tmp 16) rfl w4.heap.size rfl (nodeC exN) rfl rfl 31 (nodeC zero8) HN.out C0.out (nodeC_one _) ?_)
    | (refine wpList_load_blkG rfl 31 (.tmp 4) rfl w4.heap.size rfl 31 _ (Blk.new w4 _ _) _ Try.underlying31 rfl HN.out ?_)
    | (refine wpList_load_blkG rfl 31 (.tmp 1) rfl w.heap.size rfl 31 _ B5.out _ Try.underlying31 rfl HN.out ?_))
  refine (NE.out _).mono ?_
  rintro e w6 ⟨rfl, up6⟩
  have U6 := Lib.hid ((U4.out.trans (up_alloc w4 (.cells (nodeC exN) 31))).trans up6)
  have B6 := Lib.hid (B5.out.up up6)
  clear up6 c112 c116 c124 U4 B5 B4 S4
  go_wp2_with (refine wpList_load_blkG rfl 31 (.tmp 1) rfl w.heap.size rfl 31 _ B6.out _ Try.underlying31 rfl HN.out ?_)
  refine (NN.out _).mono ?_
  rintro e w7 ⟨rfl, up7⟩
  go_wp2_with fail
  go_ret
  exact ⟨rfl, U6.out.trans up7⟩

end Go.Proofs.Ytkfdbhgalkgnkaa
