/- NodeBytes, NodeReads. -/
import Derived.Test.YtkfdbhgalkgnkaaNodeA
import Derived.Test.YtkfdbhgalkgnkaaNodeO
set_option linter.unusedSimpArgs false
namespace Go.Proofs.Ytkfdbhgalkgnkaa
open Go.RowKit Go.Sort

theorem nbytes_length (l : List PtrD) (hl : l.length = 8) : (nbytes l).1.length = 128 := by
  unfold nbytes
  split
  · show (bytesL l).length = 128; rw [bytesL_length, hl]
  · rfl

set_option maxRecDepth 100000 in
set_option maxHeartbeats 4000000 in
theorem nodeReads_walk (w : World) (s : List UInt8) (hs : s.length = 128) : Calls Try.prog 5 #[.agg (secC s)] w fun e w' => e = .returned (.bool true) ∧ Up w w' := by
  have R1 := Lib.hid (fun W => nread_any W s hs)
  have R2 := Lib.hid (fun W => rnread_any W s hs)
  unfold NRead at R1 R2
  have NL := nread_length s
  generalize nread s = r at *
  obtain ⟨l, c⟩ := r
  simp only at R1 R2 NL
  have EQ := node_eq l l NL NL
  rw [show decide (l = l) = true by simp] at EQ
  have HN := Lib.hid (show (Try.prog.info? 31).map (·.size) = some (nodeC l).size by rw [nodeC_size, NL]; exact info_node)
  have C0 := Lib.hid (show (nodeC zero8).size = (nodeC l).size by rw [nodeC_size, nodeC_size, NL]; rfl)
  have HS := Lib.hid (show (Try.prog.info? 23).map (·.size) = some (secC s).size by rw [secC_size, hs]; exact info_sec)
  have cc : (c == c) = true := by simp
  have AL := Lib.hid alive_any
  clear hs NL
  go_enter Try.func5, Try.ntmps5
  go_wp2_with (refine wpList_load_blk rfl 23 (.tmp 1) rfl w.heap.size rfl 23 _ (Blk.new w _ _) _ Try.underlying23 rfl HS.out ?_)
  have B1 := Blk.new w 23 (secC s)
  have up1 := up_alloc w (.cells (secC s) 23)
  generalize hw1 : w.alloc (.cells (secC s) 23) = w1 at *
  clear hw1
  refine (R1.out _).mono ?_
  rintro e w2 ⟨rfl, up2⟩
  have U2 := Lib.hid (up1.trans up2)
  have B2 := Lib.hid ((B1.up up2).up (up_alloc w2 (.cells (nodeC l) 31)))
  clear up1 up2 B1
  go_wp2_with (first
    | (refine wpList_alloc_blk rfl 31 rfl (nodeC zero8) zero_nodeV ?_)
    | (refine wpList_store_new (w := w2) rfl 31 (.tmp 3) (.tmp 10) rfl w2.heap.size rfl (nodeC l) rfl rfl 31 (nodeC zero8) HN.out C0.out (nodeC_one _) ?_)
    | (refine wpList_load_blk rfl 23 (.tmp 1) rfl w.heap.size rfl 23 _ B2.out _ Try.underlying23 rfl HS.out ?_))
  have N3 := Blk.new w2 31 (nodeC l)
  have up3 := up_alloc w2 (.cells (nodeC l) 31)
  generalize hw3 : w2.alloc (.cells (nodeC l) 31) = w3 at *
  clear hw3
  refine (R2.out _).mono ?_
  rintro e w4 ⟨rfl, up4⟩
  have U4 := Lib.hid (U2.out.trans (up3.trans up4))
  have N4 := Lib.hid ((N3.up up4).up (up_alloc w4 (.cells (nodeC l) 31)))
  clear up3 up4 N3 U2 B2
  go_wp2_with (first
    | (refine wpList_alloc_blk rfl 31 rfl (nodeC zero8) zero_nodeV ?_)
    | (refine wpList_store_new (w := w4) rfl 31 (.tmp 5) (.tmp 15) rfl w4.heap.size rfl (nodeC l) rfl rfl 31 (nodeC zero8) HN.out C0.out (nodeC_one _) ?_))
  have M5 := Blk.new w4 31 (nodeC l)
  have up5 := up_alloc w4 (.cells (nodeC l) 31)
  generalize hw5 : w4.alloc (.cells (nodeC l) 31) = w5 at *
  clear hw5
  refine (AL.out _).mono ?_
  rintro e w6 ⟨rfl, up6⟩
  have U6 := Lib.hid (U4.out.trans (up5.trans up6))
  have N6 := Lib.hid (N4.out.up up6)
  have M6 := Lib.hid (M5.up up6)
  clear up5 up6 M5 N4 U4
  go_wp2_with (first
    | (refine wpList_load_blkG rfl 31 (.tmp 3) rfl w2.heap.size rfl 31 _ N6.out _ Try.underlying31 rfl HN.out ?_)
    | (refine wpList_load_blkG rfl 31 (.tmp 5) rfl w4.heap.size rfl 31 _ M6.out _ Try.underlying31 rfl HN.out ?_))
  go_ret
  exact ⟨rfl, U6.out⟩

set_option maxRecDepth 100000 in
set_option maxHeartbeats 4000000 in
theorem nodeBytes_walk (w : World) (l : List PtrD) (hl : l.length = 8) (hw : ∀ x ∈ l, x.wf) : Calls Try.prog 4 #[.agg (nodeC l)] w fun e w' => e = .returned (.bool true) ∧ Up w w' := by
  have R1 := Lib.hid (fun W => nbytes_any W l hl hw)
  have R2 := Lib.hid (fun W => rnbytes_any W l hl hw)
  have E1 := Lib.hid (fun W => empty_any W l hl)
  have E2 := Lib.hid (fun W => rempty_any W l hl)
  have N1 := Lib.hid (fun W => newest_any W l hl)
  have N2 := Lib.hid (fun W => rnewest_any W l hl)
  unfold NBytes at R1 R2
  have SL := nbytes_length l hl
  generalize nbytes l = r at *
  obtain ⟨s, c⟩ := r
  simp only at R1 R2 SL
  have EQ := sec_eq s s SL SL
  rw [show decide (s = s) = true by simp] at EQ
  have HN := Lib.hid (show (Try.prog.info? 31).map (·.size) = some (nodeC l).size by rw [nodeC_size, hl]; exact info_node)
  have C0 := Lib.hid (show (secC zeroS).size = (secC s).size by rw [secC_size, secC_size, SL]; rfl)
  have HS := Lib.hid (show (Try.prog.info? 23).map (·.size) = some (secC s).size by rw [secC_size, SL]; exact info_sec)
  have cc : (c == c) = true := by simp
  generalize emptyB l = eb at *
  generalize newestN l = nn at *
  have ee : (eb == eb) = true := by simp
  have nnn : ((nn : Int) == (nn : Int)) = true := by simp
  have AL := Lib.hid alive_any
  clear hl SL hw
  go_enter Try.func4, Try.ntmps4
  go_wp2_with (refine wpList_load_blk rfl 31 (.tmp 1) rfl w.heap.size rfl 31 _ (Blk.new w _ _) _ Try.underlying31 rfl HN.out ?_)
  have B1 := Blk.new w 31 (nodeC l)
  have up1 := up_alloc w (.cells (nodeC l) 31)
  generalize hw1 : w.alloc (.cells (nodeC l) 31) = w1 at *
  clear hw1
  refine (R1.out _).mono ?_
  rintro e w2 ⟨rfl, up2⟩
  have U2 := Lib.hid (up1.trans up2)
  have B2 := Lib.hid ((B1.up up2).up (up_alloc w2 (.cells (secC s) 23)))
  clear up1 up2 B1
  go_wp2_with (first
    | (refine wpList_alloc_blk rfl 23 rfl (secC zeroS) zero_sec ?_)
    | (refine wpList_store_new (w := w2) rfl 23 (.tmp 3) (.tmp 10) rfl w2.heap.size rfl (secC s) rfl rfl 23 (secC zeroS) HS.out C0.out (secC_one _) ?_)
    | (refine wpList_load_blk rfl 31 (.tmp 1) rfl w.heap.size rfl 31 _ B2.out _ Try.underlying31 rfl HN.out ?_))
  have S3 := Blk.new w2 23 (secC s)
  have up3 := up_alloc w2 (.cells (secC s) 23)
  generalize hw3 : w2.alloc (.cells (secC s) 23) = w3 at *
  clear hw3
  refine (R2.out _).mono ?_
  rintro e w4 ⟨rfl, up4⟩
  have U4 := Lib.hid ((U2.out.trans (up3.trans up4)).trans (up_alloc w4 (.cells (secC s) 23)))
  have S4 := Lib.hid ((S3.up up4).up (up_alloc w4 (.cells (secC s) 23)))
  have B4 := Lib.hid ((B2.out.up up4).up (up_alloc w4 (.cells (secC s) 23)))
  clear up3 up4 S3 U2 B2
  go_wp2_with (first
    | (refine wpList_alloc_blk rfl 23 rfl (secC zeroS) zero_sec ?_)
    | (refine wpList_store_new (w := w4) rfl 23 (.tmp 5) (.tmp 15) rfl w4.heap.size rfl (secC s) rfl rfl 23 (secC zeroS) HS.out C0.out (secC_one _) ?_))
  have T4 := Lib.hid (Blk.new w4 23 (secC s))
  generalize hw5 : w4.alloc (.cells (secC s) 23) = w5 at *
  clear hw5
  refine wp_region_quiet_below (by kernel_rfl) (by kernel_rfl) ?_
  repeat (first
    | (go_big_quiet_want; refine quiet_load_blk 23 (.tmp 3) rfl w2.heap.size rfl 23 _ S4.out.cls _ Try.underlying23 rfl HS.out ?_; go_big_quiet_on; go_simp)
    | (go_big_quiet_want; refine quiet_load_blk 23 (.tmp 5) rfl w4.heap.size rfl 23 _ T4.out.cls _ Try.underlying23 rfl HS.out ?_; go_big_quiet_on; go_simp)
    | (go_big_quiet_want; refine quiet_load_blk 31 (.tmp 1) rfl w.heap.size rfl 31 _ B4.out.cls _ Try.underlying31 rfl HN.out ?_; go_big_quiet_on; go_simp)
    | (go_big_quiet_step (first | (go_at_call 10; exact Calls.regrown_of (AL.out _)) | (go_at_call 11; exact Calls.regrown_of (E1.out _)) | (go_at_call 13; exact Calls.regrown_of (E2.out _)) | (go_at_call 14; exact Calls.regrown_of (N1.out _)) | (go_at_call 15; exact Calls.regrown_of (N2.out _)))))
  refine wpQuiet_nil ?_
  intro p
  obtain ⟨w6, hw6⟩ : ∃ x, x = grow (redrawn w5 p.d) p.os := ⟨_, rfl⟩
  rw [← hw6]
  have up6 : Up w5 w6 := by rw [hw6]; exact below_regrown _ _ _
  clear hw6
  go_wp2_with fail
  go_ret
  exact ⟨rfl, U4.out.trans up6⟩
end Go.Proofs.Ytkfdbhgalkgnkaa
