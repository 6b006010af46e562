/- The pointers of a sector: the document's walk. -/
import Derived.Test.YtkfdbhgalkgnkaaNodeR
set_option linter.unusedSimpArgs false
namespace Go.Proofs.Ytkfdbhgalkgnkaa
open Go.RowKit

set_option maxRecDepth 100000 in
set_option maxHeartbeats 4000000 in
theorem rnread_any (w : World) (s : List UInt8) (hs : s.length = 128) : Calls Try.prog 17 #[.agg (secC s)] w fun e w' => NRead s w e w' := by
  have HS := Lib.hid hs
  clear hs
  go_enter Try.func17, Try.ntmps17
  have b0 := Blk.new w 23 (secC s)
  have b1 := Blk.new (w.alloc (.cells (secC s) 23)) 31 (nodeC zero8)
  have b2 := Blk.new ((w.alloc (.cells (secC s) 23)).alloc (.cells (nodeC zero8) 31)) 31 (nodeC zero8)
  have B0 := Lib.hid ((b0.up (up_alloc _ (.cells (nodeC zero8) 31))).up (up_alloc _ (.cells (nodeC zero8) 31)))
  have SZZ := Lib.hid (fun (a b : Obj) => show w.heap.size + 1 + 1 = ((w.alloc a).alloc b).heap.size by simp)
  have B1 := Lib.hid (b1.up (up_alloc _ (.cells (nodeC zero8) 31)))
  have B2 := Lib.hid b2
  have up3 := Lib.hid (((up_alloc w (.cells (secC s) 23)).trans (up_alloc _ (.cells (nodeC zero8) 31))).trans (up_alloc _ (.cells (nodeC zero8) 31)))
  clear b0 b1 b2
  go_wp2_with (first
    | (refine wpList_alloc_blk rfl 31 rfl (nodeC zero8) zero_nodeV ?_)
    | (refine wpList_build rfl 31 #[] rfl (by kernel_rfl) ?_
       rw [show (Try.prog.built 31 ((#[] : Array (Nat × Operand)).map _).toList).getD #[] = nodeC zero8 from by kernel_rfl])
    | (refine wpList_store_new (w := (w.alloc (.cells (secC s) 23)).alloc (.cells (nodeC zero8) 31)) ?d1 31 (.tmp 4) (.tmp 8) ?d2 (w.heap.size + 1 + 1) (SZZ.out _ _) (nodeC zero8) ?c1 ?c2 31 (nodeC zero8) ?c3 ?c4 ?c5 ?_))
  case d1 => rfl
  case d2 => rfl


  case c3 => exact info_node
  case c4 => rfl
  case c5 => exact nodeC_one _
  generalize hw3 : ((w.alloc (.cells (secC s) 23)).alloc (.cells (nodeC zero8) 31)).alloc (.cells (nodeC zero8) 31) = w3 at *
  simp only [World.size_alloc] at B1 B2
  clear hw3
  go_loopw [5] (fun i wr => ∃ (k : Nat) (l : List PtrD), k ≤ 8 ∧ i = .int .i64 k ∧ readTo s k = some l ∧ Blk wr w.heap.size 23 (secC s) ∧ Blk wr (w.heap.size + 1) 31 (nodeC zero8) ∧ Blk wr (w.heap.size + 1 + 1) 31 (nodeC (nodeTo l)) ∧ Up w wr) (fun i _ => 8 - (intOf i).toNat)
  case atStart => exact ⟨0, [], Nat.zero_le _, rfl, rfl, B0.out, B1.out, B2.out, up3.out⟩
  case round =>
    obtain ⟨k, l, hk, rfl, hrd, hs, hz, hb, upr⟩ := hrel
    have HRD := Lib.hid hrd
    have HSB := Lib.hid hs
    have HZ := Lib.hid hz
    have HB := Lib.hid hb
    have HLK := Lib.hid (readTo_length hrd)
    clear hs hz hb B0 B1 B2 up3 hrd
    by_cases hlt : k < 8
    · have b2 : ((k : Int) < 8) = True := by simp; omega
      have SL : ∀ W, (Instr.sliceAt 23 (.pointer (some ⟨w.heap.size, 0, none⟩)) (some (.int .i64 (16 * (k : Int)))) (some (.int .i64 (16 * (k : Int) + 16))) none).run Try.prog W = .ok (.slice (some ⟨w.heap.size, 16 * k, none⟩) 16 (128 - 16 * k)) W := fun W => by
        have := slice_sec w.heap.size (16 * k) (16 * k + 16) (16 * (k : Int)) (16 * (k : Int) + 16) (by omega) (by omega) (by omega) (by omega) (by omega) W
        rwa [show 16 * k + 16 - 16 * k = 16 by omega] at this
      have hpc := sec_piece HSB.out HS.out k hlt
      have PL := Lib.hid (show (pieceB s k).length ≤ 16 by unfold pieceB; rw [List.length_take]; omega)
      go_wp2_with (at_builtin; refine wpList_fresh_ones byteCell byteCell_one rfl (.tmp 14) (.tmp 20) 44 rfl 5 (.int .u8 0) 1 Try.underlying44 info_u8 rfl rfl _ (pieceB s k) rfl hpc (by have := PL.out; omega) ?_)
      intro v4 w4 ho4 up4
      have RD := Lib.hid (refRead_any w4 v4 _ ho4.ones)
      unfold PRead at RD
      clear ho4 hpc SL
      go_wp2_with fail
      refine RD.out.mono ?_
      rintro e w5 (⟨p, hp, rfl, up5⟩ | ⟨hp, rfl, up5⟩)
      case inr =>
        have HN := Lib.hid (nread_none HRD.out hp hlt)
        clear hp
        unfold ptrV hole
        have hz5 := (HZ.out.up (up4.trans up5)).up (up_alloc w5 (.cells #[.int .i64 0, .int .u64 0, .int .u32 0] 30))
        have up6 := (upr.trans (up4.trans up5)).trans (up_alloc w5 (.cells #[.int .i64 0, .int .u64 0, .int .u32 0] 30))
        simp only [Int.ofNat_zero, Int.natCast_zero]
        go_wp2_with (first
          | (refine wpList_build rfl 31 #[] rfl (by kernel_rfl) ?_
             rw [show (Try.prog.built 31 ((#[] : Array (Nat × Operand)).map _).toList).getD #[] = nodeC zero8 from by kernel_rfl])
          | (refine wpList_store_blk rfl 31 (.tmp 2) (.tmp 27) rfl (w.heap.size + 1) (nodeC zero8) rfl rfl 31 (nodeC zero8) hz5 info_node rfl (nodeC_one _) ?_))
        intro w6 hz6 hg6
        have up7 : Up w w6 := up6.below_trans (below_grown hg6 (Nat.le_of_lt hz5.lt) (fun j hj => by cases hj; exact Nat.le_refl _)) (Nat.le_succ _)
        go_wp2_with fail
        (try simp only [Exit.inBlock, Exit.then])
        refine bodyPost_ret (v := .tuple #[.agg (nodeC zero8), .int .i64 51]) (results_blk rfl _ _ _ (w.heap.size + 1) 31 _ _ rfl rfl hz6 _ Try.underlying31 rfl info_node) rfl ⟨by rw [HN.out], up7⟩
      case inl =>
        have HX := Lib.hid (show readTo s (k + 1) = some (l ++ [p]) by rw [readTo_step HRD.out, hp]; rfl)
        clear hp
        obtain ⟨pl, pb, ps⟩ := p
        unfold ptrV
        simp only
        have upa := (up_alloc w5 (.cells #[.int .i64 pl, .int .u64 (pb : Int), .int .u32 (ps : Int)] 30))
        have hb5 := (HB.out.up (up4.trans up5)).up upa
        have hkl : k < (nodeTo l).length := by rw [nodeTo_length l (by rw [HLK.out]; omega)]; exact hlt
        have d0 := (node_cell hb5 k hkl).1
        have d1 := (node_cell hb5 k hkl).2.1
        have d2 := (node_cell hb5 k hkl).2.2
        have f0 := hb5.free (k * 3)
        have f1 := hb5.free (k * 3 + 1)
        have f2 := hb5.free (k * 3 + 2)
        have HB5 := Lib.hid hb5
        have HST := Lib.hid (show (nodeTo l).set k ⟨pl, pb, ps⟩ = nodeTo (l ++ [⟨pl, pb, ps⟩]) by
          have := nodeTo_step l (by rw [HLK.out]; exact hlt) ⟨pl, pb, ps⟩
          rwa [HLK.out] at this)
        have HKL := Lib.hid hkl
        have HSB5 := Lib.hid ((HSB.out.up (up4.trans up5)).up upa)
        have HZ5 := Lib.hid ((HZ.out.up (up4.trans up5)).up upa)
        have U5 := Lib.hid ((upr.trans (up4.trans up5)).trans upa)
        clear upa hb5
        generalize (nodeTo l)[k] = p0 at *
        clear hkl
        go_wp2_with fail
        go_roundw
        case rel =>
          have G := grownPtr HB5.out k ⟨pl, pb, ps⟩
          exact ⟨k + 1, l ++ [⟨pl, pb, ps⟩], by omega, by go_num, HX.out, HSB5.out.grown G (by simp; omega), HZ5.out.grown G (by simp), by rw [← HST.out]; exact HB5.out.setPtr k HKL.out ⟨pl, pb, ps⟩,
            U5.out.below_trans (below_grown G (Nat.le_of_lt HB5.out.lt) (fun j hj => by cases hj; exact Nat.le_refl _)) (by omega)⟩
        case measure => simp [intOf]; omega
    · obtain rfl : k = 8 := by omega
      have b2 : ((8 : Nat) : Int) = 8 := rfl
      have HN := Lib.hid (nread_some HRD.out)
      have hb := HB.out
      rw [nodeTo_end l HLK.out] at hb
      have HB8 := Lib.hid hb
      have bs : (nodeC l).size = 24 := by rw [nodeC_size, HLK.out]
      have SZ8 := Lib.hid (show (Try.prog.info? 31).map (·.size) = some (nodeC l).size by rw [bs]; exact info_node)
      have SS8 := Lib.hid (show (nodeC zero8).size = (nodeC l).size by rw [bs]; rfl)
      clear hb bs
      go_wp2_with (first
        | (refine wpList_load_blk rfl 31 (.tmp 4) rfl (w.heap.size + 1 + 1) rfl 31 _ HB8.out _ Try.underlying31 rfl SZ8.out ?_)
        | (refine wpList_store_blk rfl 31 (.tmp 2) (.tmp 31) rfl (w.heap.size + 1) (nodeC l) rfl rfl 31 (nodeC zero8) HZ.out SZ8.out SS8.out (nodeC_one _) ?_))
      intro w6 hz6 hg6
      have up6 : Up w w6 := upr.below_trans (below_grown hg6 (Nat.le_of_lt HZ.out.lt) (fun j hj => by cases hj; exact Nat.le_refl _)) (Nat.le_succ _)
      go_wp2_with fail
      (try simp only [Exit.inBlock, Exit.then])
      refine bodyPost_ret (v := .tuple #[.agg (nodeC l), .int .i64 0]) (results_blk rfl _ _ _ (w.heap.size + 1) 31 _ _ rfl rfl hz6 _ Try.underlying31 rfl SZ8.out) rfl ⟨by rw [HN.out], up6⟩
end Go.Proofs.Ytkfdbhgalkgnkaa
