/- Eight pointers as a sector: the document's walk. -/
import Derived.Test.YtkfdbhgalkgnkaaNodeB
set_option linter.unusedSimpArgs false
namespace Go.Proofs.Ytkfdbhgalkgnkaa
open Go.RowKit

set_option maxRecDepth 100000 in
set_option maxHeartbeats 4000000 in
theorem rnbytes_any (w : World) (l : List PtrD) (hl : l.length = 8) (hw : ∀ x ∈ l, x.wf) : Calls Try.prog 12 #[.agg (nodeC l)] w fun e w' => NBytes l w e w' := by
  have ZS := zero_sec
  have HL := Lib.hid hl
  have HW := Lib.hid hw
  clear hl hw
  go_enter Try.func12, Try.ntmps12
  have b0 := Blk.new w 31 (nodeC l)
  have b1 := Blk.new (w.alloc (.cells (nodeC l) 31)) 23 (secC zeroS)
  have B0 := Lib.hid (b0.up (up_alloc _ (.cells (secC zeroS) 23)))
  have B1 := Lib.hid b1
  have up2 := Lib.hid ((up_alloc w (.cells (nodeC l) 31)).trans (up_alloc _ (.cells (secC zeroS) 23)))
  clear b0 b1
  go_wp2_with fail
  generalize hw2 : (w.alloc (.cells (nodeC l) 31)).alloc (.cells (secC zeroS) 23) = w2 at *
  simp only [World.size_alloc] at B1
  have S2 := Lib.hid (show w2.heap.size = w.heap.size + 1 + 1 by rw [← hw2]; simp)
  clear hw2 ZS
  have own0 : Own byteCell 5 (w2.alloc (.cells #[] 5)) (w.heap.size + 1 + 1) (.slice (some ⟨w.heap.size + 1 + 1, 0, none⟩) 0 0) (bytesL (l.take 0)) := by
    have := Own.made byteCell 5 w2 w2.heap.size (Nat.le_refl _)
    rw [S2.out] at this
    exact this
  go_loopw [4, 5] (fun u i wr => ∃ k : Nat, k ≤ 8 ∧ i = .int .i64 k ∧ (∀ j (h : j < l.length), j < k → goodB l[j] = true) ∧ Own byteCell 5 wr (w.heap.size + 1 + 1) u (bytesL (l.take k)) ∧ Up w2 wr) (fun _ i _ => 8 - (intOf i).toNat)
  case atStart => exact ⟨0, Nat.zero_le _, rfl, fun j h h0 => by omega, own0, up_alloc _ _⟩
  case round =>
    obtain ⟨k, hk, rfl, hall, hown, upr⟩ := hrel
    have HA := Lib.hid hall
    have HO := Lib.hid hown
    clear hall hown own0
    by_cases hlt : k < 8
    · have hkl : k < l.length := by rw [HL.out]; exact hlt
      have b2 : ((k : Int) < 8) = True := by simp; omega
      have hc0 := (node_cell (B0.out.up upr) k hkl).1
      have hc1 := (node_cell (B0.out.up upr) k hkl).2.1
      have hc2 := (node_cell (B0.out.up upr) k hkl).2.2
      have PB := Lib.hid (fun W => refBytes_any W l[k] (HW.out _ (List.getElem_mem hkl)))
      have GN := Lib.hid (fun h => nbytes_no hkl h)
      have GY := Lib.hid (show goodB l[k] = true → ∀ j (h : j < l.length), j < k + 1 → goodB l[j] = true from fun h j hj hjk => by
        by_cases e : j = k
        · subst e; exact h
        · exact HA.out j hj (by omega))
      have SN := Lib.hid (bytesL_snoc l k hkl)
      have LE := Lib.hid (show (bytesL (l.take k)).length ≤ 128 by rw [bytesL_length, List.length_take]; omega)
      have PL := Lib.hid (ptrBytes_len l[k])
      generalize l[k] = p at *
      obtain ⟨pl, pb, ps⟩ := p
      unfold ptrV PBytes at PB
      simp only at PB hc0 hc1 hc2
      go_wp2_with fail
      refine (PB.out _).mono ?_
      rintro e w5 (⟨hg, v5, rfl, ho5, up5⟩ | ⟨hg, rfl, up5⟩)
      case inr =>
        have HN := Lib.hid (GN.out hg)
        clear hg
        have hz5 := B1.out.up (upr.trans up5)
        go_wp2_with (first
          | (refine wpList_build rfl 23 #[] rfl (by kernel_rfl) ?_
             rw [show (Try.prog.built 23 ((#[] : Array (Nat × Operand)).map _).toList).getD #[] = secC zeroS from by kernel_rfl])
          | (refine wpList_store_blk rfl 23 (.tmp 2) (.tmp 24) rfl (w.heap.size + 1) (secC zeroS) rfl rfl 23 (secC zeroS) hz5 info_sec rfl (secC_one _) ?_))
        intro w6 hz6 hg6
        have up6 : Up w w6 := (up2.out.trans (upr.trans up5)).below_trans (below_grown hg6 (Nat.le_of_lt hz5.lt) (fun j hj => by cases hj; exact Nat.le_refl _)) (Nat.le_succ _)
        go_wp2_with fail
        (try simp only [Exit.inBlock, Exit.then])
        refine bodyPost_ret (v := .tuple #[.agg (secC zeroS), .int .i64 51]) (results_blk rfl _ _ _ (w.heap.size + 1) 23 _ _ rfl rfl hz6 _ Try.underlying23 rfl info_sec) rfl ⟨by rw [HN.out], up6⟩
      case inl =>
        have HY := Lib.hid (GY.out hg)
        clear hg
        have V5 := Lib.hid ho5.ones
        clear ho5
        have o5 := HO.out.up up5
        have s5 : w.heap.size + 1 + 1 ≤ w5.heap.size := by rw [← S2.out]; exact (upr.trans up5).size
        generalize ptrBytes ⟨pl, pb, ps⟩ = pbs at *
        generalize bytesL (l.take k) = acc at *
        go_wp2_with (at_builtin; refine wpList_append_ones byteCell byteCell_one rfl (.tmp 25) (.tmp 26) 44 rfl (w.heap.size + 1 + 1) 5 (.int .u8 0) 1 Try.underlying44 info_u8 rfl _ acc rfl o5 v5 pbs rfl V5.out (by have := LE.out; have := PL.out; omega) (by have := LE.out; have := PL.out; omega) s5 ?_)
        intro v' w6 hown6 _ hb6
        go_wp2_with fail
        go_roundw
        case rel => exact ⟨k + 1, by omega, by go_num, HY.out, by rw [SN.out]; exact hown6, (upr.trans up5).below_trans hb6 (by rw [S2.out]; exact Nat.le_refl _)⟩
        case measure => simp [intOf]; omega
    · obtain rfl : k = 8 := by omega
      have HN := Lib.hid (nbytes_yes ((goodAll_iff l).2 (fun x hx => by
        obtain ⟨j, hj, rfl⟩ := List.getElem_of_mem hx
        exact HA.out j hj (by rw [HL.out] at hj; exact hj))))
      have hown := HO.out
      rw [List.take_of_length_le (by rw [HL.out]; exact Nat.le_refl _)] at hown
      have HOO := Lib.hid hown
      have hbl : (bytesL l).length = 128 := by rw [bytesL_length, HL.out]
      have HBL := Lib.hid hbl
      have UL := Lib.hid (secTo_length _ hbl)
      have US := Lib.hid (secTo_step _ hbl)
      have UE := Lib.hid (secTo_end _ hbl)
      clear hown HA HO
      generalize bytesL l = bs at *
      obtain ⟨bg, bc, rfl, hg1, hg2, hcell, _, _⟩ := HOO.out.row (by omega)
      have HC := Lib.hid hcell
      have ZS := zero_sec
      rw [HBL.out] at HOO ⊢
      clear hcell hbl
      go_wp2_with (first
        | (refine wpList_build rfl 23 #[] rfl (by kernel_rfl) ?_
           rw [show (Try.prog.built 23 ((#[] : Array (Nat × Operand)).map _).toList).getD #[] = secC zeroS from by kernel_rfl])
        | (refine wpList_store_new rfl 23 (.tmp 8) (.tmp 28) rfl wr.heap.size rfl (secC zeroS) rfl rfl 23 (secC zeroS) info_sec rfl (secC_one _) ?_))
      have B8 := Lib.hid (Blk.new wr 23 (secC zeroS))
      obtain ⟨w8, hw8⟩ : ∃ x, x = wr := ⟨_, rfl⟩
      subst hw8
      clear ZS
      go_loopw [9] (fun i wr => ∃ k : Nat, k ≤ 128 ∧ i = .int .i64 k ∧ Blk wr w8.heap.size 23 (secC (secTo bs k)) ∧ Up w8 wr) (fun i _ => 128 - (intOf i).toNat)
      case atStart => exact ⟨0, Nat.zero_le _, rfl, B8.out, up_alloc _ _⟩
      case round =>
        obtain ⟨k, hk, rfl, hb, up8⟩ := hrel
        have HB := Lib.hid hb
        clear hb
        by_cases hlt : k < 128
        · have hkl : k < bs.length := by rw [HBL.out]; exact hlt
          have b2 : ((k : Int) < 128) = True := by simp; omega
          have d0 := up8.cell (HC.out k hkl)
          have d1 := sec_cell HB.out k (by rw [UL.out k hk]; exact hlt)
          have d2 := HB.out.free k
          have ST := Lib.hid (US.out k hkl)
          generalize bs[k] = c at *
          generalize (secTo bs k)[k]'_ = c0 at *
          unfold byteCell at d0 d1
          go_wp2_with fail
          go_roundw
          case rel => exact ⟨k + 1, by omega, by go_num, by rw [← ST.out]; exact HB.out.setCell k (byteCell c), up8.below_trans (below_grown (grown_setCell HB.out k (byteCell c)) (Nat.le_of_lt HB.out.lt) (fun j hj => by cases hj; exact Nat.le_refl _)) (Nat.le_refl _)⟩
          case measure => simp [intOf]; omega
        · obtain rfl : k = 128 := by omega
          have b2 : ((128 : Nat) : Int) = 128 := rfl
          have hb := HB.out
          rw [UE.out] at hb
          have HB8 := Lib.hid hb
          have bss : (secC bs).size = 128 := by rw [secC_size, HBL.out]
          have SZ8 := Lib.hid (show (Try.prog.info? 23).map (·.size) = some (secC bs).size by rw [bss]; exact info_sec)
          have SS8 := Lib.hid (show (secC zeroS).size = (secC bs).size by rw [bss]; rfl)
          have HZ := Lib.hid (B1.out.up (upr.trans up8))
          clear hb bss
          go_wp2_with (first
            | (refine wpList_load_blk rfl 23 (.tmp 8) rfl w8.heap.size rfl 23 _ HB8.out _ Try.underlying23 rfl SZ8.out ?_)
            | (refine wpList_store_blk rfl 23 (.tmp 2) (.tmp 39) rfl (w.heap.size + 1) (secC bs) rfl rfl 23 (secC zeroS) HZ.out SZ8.out SS8.out (secC_one _) ?_))
          intro w6 hz6 hg6
          have up6 : Up w w6 := (up2.out.trans (upr.trans up8)).below_trans (below_grown hg6 (Nat.le_of_lt HZ.out.lt) (fun j hj => by cases hj; exact Nat.le_refl _)) (Nat.le_succ _)
          go_wp2_with fail
          (try simp only [Exit.inBlock, Exit.then])
          refine bodyPost_ret (v := .tuple #[.agg (secC bs), .int .i64 0]) (results_blk rfl _ _ _ (w.heap.size + 1) 23 _ _ rfl rfl hz6 _ Try.underlying23 rfl SZ8.out) rfl ⟨by rw [HN.out], up6⟩
end Go.Proofs.Ytkfdbhgalkgnkaa
