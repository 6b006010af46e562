/- Eight pointers as a sector: the walks of both sides. -/
import Derived.Test.YtkfdbhgalkgnkaaNode
import Derived.Test.YtkfdbhgalkgnkaaPl
set_option linter.unusedSimpArgs false
namespace Go.Proofs.Ytkfdbhgalkgnkaa
open Go.RowKit

def goodAll (l : List PtrD) : Bool := l.all goodB
theorem goodAll_iff (l : List PtrD) : goodAll l = true ↔ ∀ x ∈ l, goodB x = true := by simp [goodAll]
/-- What the sector's first 16 k bytes are, zeros behind. -/
def upTo (l : List PtrD) (k : Nat) : List UInt8 := bytesL (l.take k) ++ List.replicate (128 - 16 * k) 0
theorem upTo_length (l : List PtrD) (hl : l.length = 8) (k : Nat) (hk : k ≤ 8) : (upTo l k).length = 128 := by
  unfold upTo; rw [List.length_append, bytesL_length, List.length_take, List.length_replicate]; omega
theorem upTo_step (l : List PtrD) (hl : l.length = 8) (k : Nat) (hk : k < l.length) : (splice (secC (upTo l k)).toList (16 * k) ((ptrBytes l[k]).map byteCell)).toArray = secC (upTo l (k + 1)) := by
  have h1 : (bytesL (l.take k)).length = 16 * k := by rw [bytesL_length, List.length_take]; omega
  rw [secC_list]
  unfold splice secC
  rw [List.length_map, ptrBytes_len, ← List.map_take, ← List.map_drop, ← List.map_append, ← List.map_append]
  congr 2
  unfold upTo
  rw [bytesL_snoc l k (by omega), List.take_left' h1, List.drop_append, h1]
  rw [List.drop_of_length_le (by omega), List.nil_append, List.drop_replicate, List.append_assoc]
  congr 3
  omega
def nbytes (l : List PtrD) : List UInt8 × Int := if goodAll l = true then (bytesL l, 0) else (zeroS, 51)
def NBytes (l : List PtrD) (w : World) (e : Ending) (w' : World) : Prop := e = .returned (.tuple #[.agg (secC (nbytes l).1), .int .i64 (nbytes l).2]) ∧ Up w w'
theorem nbytes_yes {l : List PtrD} (h : goodAll l = true) : nbytes l = (bytesL l, 0) := if_pos h
theorem nbytes_no {l : List PtrD} {k : Nat} (hk : k < l.length) (h : goodB l[k] = false) : nbytes l = (zeroS, 51) := if_neg (fun hh => by
  rw [(goodAll_iff l).1 hh _ (List.getElem_mem hk)] at h; cases h)

set_option maxRecDepth 100000 in
set_option maxHeartbeats 4000000 in
theorem nbytes_any (w : World) (l : List PtrD) (hl : l.length = 8) (hw : ∀ x ∈ l, x.wf) : Calls Try.prog 9 #[.agg (nodeC l)] w fun e w' => NBytes l w e w' := by
  have ZS := zero_sec
  have SZ := Lib.hid (show (Try.prog.info? 31).map (·.size) = some (nodeC l).size by rw [nodeC_size, hl]; exact info_node)
  have HL := Lib.hid hl
  have HW := Lib.hid hw
  have IXX := Lib.hid (fun k h W => index_node l hl k h W)
  have UL := Lib.hid (upTo_length l hl)
  have US := Lib.hid (upTo_step l hl)
  clear hl hw
  go_enter Try.func9, Try.ntmps9
  have b0 := Blk.new w 31 (nodeC l)
  have b1 := Blk.new (w.alloc (.cells (nodeC l) 31)) 23 (secC zeroS)
  have b2 := Blk.new ((w.alloc (.cells (nodeC l) 31)).alloc (.cells (secC zeroS) 23)) 23 (secC zeroS)
  have B0 := Lib.hid ((b0.up (up_alloc _ (.cells (secC zeroS) 23))).up (up_alloc _ (.cells (secC zeroS) 23)))
  have B1 := Lib.hid (b1.up (up_alloc _ (.cells (secC zeroS) 23)))
  have B2 := Lib.hid b2
  have up3 := Lib.hid (((up_alloc w (.cells (nodeC l) 31)).trans (up_alloc _ (.cells (secC zeroS) 23))).trans (up_alloc _ (.cells (secC zeroS) 23)))
  clear b0 b1 b2
  go_wp2_with (refine wpList_load_blk rfl 31 (.tmp 1) rfl w.heap.size rfl 31 (nodeC l) B0.out _ Try.underlying31 rfl SZ.out ?_)
  generalize hw3 : ((w.alloc (.cells (nodeC l) 31)).alloc (.cells (secC zeroS) 23)).alloc (.cells (secC zeroS) 23) = w3 at *
  simp only [World.size_alloc] at B1 B2
  clear hw3 ZS B0
  go_loopw [10] (fun i wr => ∃ k : Nat, k ≤ 8 ∧ i = .int .i64 k ∧ (∀ j (h : j < l.length), j < k → goodB l[j] = true) ∧ Blk wr (w.heap.size + 1) 23 (secC zeroS) ∧ Blk wr (w.heap.size + 1 + 1) 23 (secC (upTo l k)) ∧ Up w wr) (fun i _ => 8 - (intOf i).toNat)
  case atStart => exact ⟨0, Nat.zero_le _, rfl, fun j h h0 => by omega, B1.out, B2.out, up3.out⟩
  case round =>
    obtain ⟨k, hk, rfl, hall, hz, hb, upr⟩ := hrel
    have HA := Lib.hid hall
    have HZ := Lib.hid hz
    have HB := Lib.hid hb
    clear hall hz hb B1 B2 up3
    by_cases hlt : k < 8
    · have hkl : k < l.length := by rw [HL.out]; exact hlt
      have b2 : ((k : Int) < 8) = True := by simp; omega
      have IX := IXX.out k hkl
      have PB := Lib.hid (fun W => bytes_any W l[k] (HW.out _ (List.getElem_mem hkl)))
      have ST := Lib.hid (US.out k hkl)
      have GN := Lib.hid (fun h => nbytes_no hkl h)
      have GY := Lib.hid (show goodB l[k] = true → ∀ j (h : j < l.length), j < k + 1 → goodB l[j] = true from fun h j hj hjk => by
        by_cases e : j = k
        · subst e; exact h
        · exact HA.out j hj (by omega))
      have SL : ∀ W, (Instr.sliceAt 23 (.pointer (some ⟨w.heap.size + 1 + 1, 0, none⟩)) (some (.int .i64 ((k : Int) * 16))) (some (.int .i64 (((k : Int) + 1) * 16))) none).run Try.prog W = .ok (.slice (some ⟨w.heap.size + 1 + 1, 16 * k, none⟩) 16 (128 - 16 * k)) W := fun W => by
        have := slice_sec (w.heap.size + 1 + 1) (16 * k) (16 * k + 16) ((k : Int) * 16) (((k : Int) + 1) * 16) (by omega) (by omega) (by omega) (by omega) (by omega) W
        rwa [show 16 * k + 16 - 16 * k = 16 by omega] at this
      have sz : (secC (upTo l k)).size = 128 := by rw [secC_size]; exact UL.out k hk
      have SC := Lib.hid sz
      have PL := Lib.hid (ptrBytes_len l[k])
      clear sz
      generalize l[k] = p at *
      obtain ⟨pl, pb, ps⟩ := p
      unfold pcA at IX
      unfold ptrV PBytes at PB
      simp only at IX PB
      go_wp2_with fail
      refine (PB.out _).mono ?_
      rintro e w5 (⟨hg, v5, rfl, ho5, up5⟩ | ⟨hg, rfl, up5⟩)
      case inr =>
        have HN := Lib.hid (GN.out hg)
        clear hg
        have hz5 := HZ.out.up ((up_alloc wr (.cells #[.int .i64 pl, .int .u64 (pb : Int), .int .u32 (ps : Int)] 30)).trans up5)
        go_wp2_with (first
          | (refine wpList_build rfl 23 #[] rfl (by kernel_rfl) ?_
             rw [show (Try.prog.built 23 ((#[] : Array (Nat × Operand)).map _).toList).getD #[] = secC zeroS from by kernel_rfl])
          | (refine wpList_store_blk rfl 23 (.tmp 2) (.tmp 21) rfl (w.heap.size + 1) (secC zeroS) rfl rfl 23 (secC zeroS) hz5 info_sec rfl (secC_one _) ?_))
        intro w6 hz6 hg6
        have up6 : Up w w6 := (upr.trans ((up_alloc wr _).trans up5)).below_trans (below_grown hg6 (Nat.le_of_lt hz5.lt) (fun j hj => by cases hj; exact Nat.le_refl _)) (Nat.le_succ _)
        go_wp2_with fail
        (try simp only [Exit.inBlock, Exit.then])
        refine bodyPost_ret (v := .tuple #[.agg (secC zeroS), .int .i64 51]) (results_blk rfl _ _ _ (w.heap.size + 1) 23 _ _ rfl rfl hz6 _ Try.underlying23 rfl info_sec) rfl ⟨by rw [HN.out], up6⟩
      case inl =>
        have HY := Lib.hid (GY.out hg)
        clear hg
        have V5 := Lib.hid ho5.ones
        clear ho5
        obtain ⟨va, vc, rfl⟩ := V5.out.slice
        have up05 := (up_alloc wr (.cells #[.int .i64 pl, .int .u64 (pb : Int), .int .u32 (ps : Int)] 30)).trans up5
        have hb5 := HB.out.up up05
        go_wp2_with (refine wpList_copy_blk rfl (.tmp 27) (.tmp 28) 44 44 rfl 5 Try.underlying44 (by kernel_rfl) byteCell byteCell_one (w.heap.size + 1 + 1) (16 * k) 16 (128 - 16 * k) rfl _ _ rfl V5.out (by rw [PL.out]; omega) 23 _ hb5 (by rw [PL.out, SC.out]; omega) ?_)
        intro w6 hb6 hbel6 hg6
        rw [ST.out] at hb6
        have up6 : Up w w6 := (upr.trans up05).below_trans hbel6 (by omega)
        have hz6 := (HZ.out.up up05).grown hg6 (by simp)
        have hnb := Lib.hid hb6
        have hnz := Lib.hid hz6
        clear hb6 hz6 hg6 hbel6 SL
        go_wp2_with fail
        go_roundw
        case rel => exact ⟨k + 1, by omega, by go_num, HY.out, hnz.out, hnb.out, up6⟩
        case measure => simp [intOf]; omega
    · obtain rfl : k = 8 := by omega
      have b2 : ((8 : Nat) : Int) = 8 := rfl
      have HN := Lib.hid (nbytes_yes ((goodAll_iff l).2 (fun x hx => by
        obtain ⟨j, hj, rfl⟩ := List.getElem_of_mem hx
        exact HA.out j hj (by rw [HL.out] at hj; exact hj))))
      have HU := Lib.hid (show upTo l 8 = bytesL l by
        unfold upTo
        rw [List.take_of_length_le (by rw [HL.out]; exact Nat.le_refl _)]
        simp)
      have hb := HB.out
      rw [HU.out] at hb
      have HB8 := Lib.hid hb
      have bs : (secC (bytesL l)).size = 128 := by rw [secC_size, bytesL_length, HL.out]
      have SZ8 := Lib.hid (show (Try.prog.info? 23).map (·.size) = some (secC (bytesL l)).size by rw [bs]; exact info_sec)
      have SS8 := Lib.hid (show (secC zeroS).size = (secC (bytesL l)).size by rw [bs]; rfl)
      clear hb bs
      go_wp2_with (first
        | (refine wpList_load_blk rfl 23 (.tmp 4) rfl (w.heap.size + 1 + 1) rfl 23 _ HB8.out _ Try.underlying23 rfl SZ8.out ?_)
        | (refine wpList_store_blk rfl 23 (.tmp 2) (.tmp 31) rfl (w.heap.size + 1) (secC (bytesL l)) rfl rfl 23 (secC zeroS) HZ.out SZ8.out SS8.out (secC_one _) ?_))
      intro w6 hz6 hg6
      have up6 : Up w w6 := upr.below_trans (below_grown hg6 (Nat.le_of_lt HZ.out.lt) (fun j hj => by cases hj; exact Nat.le_refl _)) (Nat.le_succ _)
      go_wp2_with fail
      (try simp only [Exit.inBlock, Exit.then])
      refine bodyPost_ret (v := .tuple #[.agg (secC (bytesL l)), .int .i64 0]) (results_blk rfl _ _ _ (w.heap.size + 1) 23 _ _ rfl rfl hz6 _ Try.underlying23 rfl SZ8.out) rfl ⟨by rw [HN.out], up6⟩
end Go.Proofs.Ytkfdbhgalkgnkaa
