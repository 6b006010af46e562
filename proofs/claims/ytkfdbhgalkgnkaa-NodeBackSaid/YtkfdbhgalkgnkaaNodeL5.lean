/- NodeBack: the walk. -/
import Derived.Test.YtkfdbhgalkgnkaaNodeL3
set_option linter.unusedSimpArgs false
namespace Go.Proofs.Ytkfdbhgalkgnkaa
open Go.RowKit Go.Sort

theorem read_bytes {l : List PtrD} (hl : l.length = 8) (hw : ∀ x ∈ l, x.wf) (hg : goodAll l = true) : nread (bytesL l) = (l, 0) := by
  refine nread_some ?_
  have := readTo_bytes l hw ((goodAll_iff l).1 hg) 8 (by omega)
  rw [this, List.take_of_length_le (by omega)]
theorem pieces_back (s : List UInt8) (hs : s.length = 128) : ∀ k l, k ≤ 8 → readTo s k = some l → bytesL l = s.take (16 * k) ∧ (∀ x ∈ l, x.wf ∧ goodB x = true)
  | 0, l, _, h => by simp [readTo] at h; subst h; simp [bytesL]
  | k + 1, l, hk, h => by
    rw [readTo] at h
    cases h1 : readTo s k with
    | none => rw [h1] at h; cases h
    | some m =>
      rw [h1] at h
      simp only [Option.map_eq_some_iff] at h
      obtain ⟨p, hp, rfl⟩ := h
      obtain ⟨h2, h3⟩ := pieces_back s hs k m (by omega) h1
      obtain ⟨h4, h5, h6⟩ := bytes_ptrOf _ _ hp
      refine ⟨?_, fun x hx => ?_⟩
      · unfold bytesL at h2 ⊢
        rw [List.flatMap_append, h2]
        simp only [List.flatMap_cons, List.flatMap_nil, List.append_nil]
        rw [h6]
        unfold pieceB
        rw [← List.take_add, Nat.mul_succ]
      · rcases List.mem_append.1 hx with h | h
        · exact h3 x h
        · simp at h; subst h; exact ⟨h4, h5⟩
/-- What is read of a sector: nothing, or what is written as it. -/
theorem nread_back (s : List UInt8) (hs : s.length = 128) : nread s = (zero8, 51) ∨ ∃ l, nread s = (l, 0) ∧ l.length = 8 ∧ (∀ x ∈ l, x.wf) ∧ nbytes l = (s, 0) := by
  cases h : readTo s 8 with
  | none => left; unfold nread; rw [h]
  | some l =>
    right
    obtain ⟨h1, h2⟩ := pieces_back s hs 8 l (Nat.le_refl _) h
    refine ⟨l, nread_some h, readTo_length h, fun x hx => (h2 x hx).1, ?_⟩
    rw [nbytes_yes ((goodAll_iff l).2 (fun x hx => (h2 x hx).2)), h1, List.take_of_length_le (by omega)]
theorem good_take (l : List PtrD) (k : Nat) (h : k < l.length) : goodAll (l.take (k + 1)) = (goodAll (l.take k) && goodB l[k]) := by
  unfold goodAll; rw [List.take_succ_eq_append_getElem h, List.all_append]; simp
theorem since_newest (l : List PtrD) (k : Nat) (h : k < l.length) : sinceB l[k] (newestN l) = false := by
  have := newest_ge l _ (List.getElem_mem h)
  unfold sinceB
  simp
  intro _
  omega

set_option maxRecDepth 100000 in
set_option maxHeartbeats 8000000 in
theorem nodeBack_walk (w : World) (l : List PtrD) (hl : l.length = 8) (hw : ∀ x ∈ l, x.wf) (s : List UInt8) (hs : s.length = 128) :
    Calls Try.prog 8 #[.agg (nodeC l), .agg (secC s)] w fun e w' => e = .returned (.bool true) ∧ Up w w' := by
  have AL := Lib.hid alive_any
  have R1 := Lib.hid (fun W => nbytes_any W l hl hw)
  unfold NBytes at R1
  have NW := Lib.hid (fun W => newest_any W l hl)
  have RS := Lib.hid (fun W => nread_any W s hs)
  unfold NRead at RS
  have IXX := Lib.hid (fun k h W => index_node l hl k h W)
  have GT := Lib.hid (good_take l)
  have SN := Lib.hid (since_newest l)
  have HL := Lib.hid hl
  have HW := Lib.hid hw
  have HSL := Lib.hid hs
  have L1 := nbytes_length l hl
  have HN := Lib.hid (show (Try.prog.info? 31).map (·.size) = some (nodeC l).size by rw [nodeC_size, hl]; exact info_node)
  have HS := Lib.hid (show (Try.prog.info? 23).map (·.size) = some (secC s).size by rw [secC_size, hs]; exact info_sec)
  have S1 := Lib.hid (show (Try.prog.info? 23).map (·.size) = some (secC (nbytes l).1).size by rw [secC_size, L1]; exact info_sec)
  have Z1 := Lib.hid (show (secC zeroS).size = (secC (nbytes l).1).size by rw [secC_size, secC_size, L1]; rfl)
  have NR1 := Lib.hid (show ∀ W, Calls Try.prog 16 #[.agg (secC (nbytes l).1)] W fun e w' => NRead (nbytes l).1 W e w' from fun W => nread_any W _ L1)
  have GY := Lib.hid (show goodAll l = true → (nbytes l).2 = 0 ∧ nread (nbytes l).1 = (l, 0) from fun h => by rw [nbytes_yes h]; exact ⟨rfl, read_bytes hl hw h⟩)
  have GNO := Lib.hid (show goodAll l = false → (nbytes l).2 = 51 from fun h => by rw [show nbytes l = (zeroS, 51) from if_neg (by rw [h]; simp)])
  have EN := Lib.hid (show ∀ W, (Op.equalIn 10000 31 (.agg (nodeC l)) (.agg (nodeC l))).run Try.prog W = .ok true W from fun W => by
    have := node_eq l l hl hl W
    rwa [show decide (l = l) = true by simp] at this)
  have NB := Lib.hid (nread_back s hs)
  have E8 := Lib.hid (show ∀ W, Calls Try.prog 11 #[.agg (nodeC zero8)] W fun e w' => BoolUp true W e w' from fun W => by
    have := empty_any W zero8 rfl
    rwa [show emptyB zero8 = true by decide] at this)
  have SEQ := Lib.hid (show ∀ W, (Op.equalIn 10000 23 (.agg (secC s)) (.agg (secC s))).run Try.prog W = .ok true W from fun W => by
    have := sec_eq s s hs hs W
    rwa [show decide (s = s) = true by simp] at this)
  have TL := Lib.hid (show l.take 8 = l from List.take_of_length_le (by omega))
  clear hl hw hs L1
  go_enter Try.func8, Try.ntmps8
  have b0 := Blk.new w 31 (nodeC l)
  have B0 := Lib.hid (b0.up (up_alloc _ (.cells (secC s) 23)))
  have C0 := Lib.hid (Blk.new (w.alloc (.cells (nodeC l) 31)) 23 (secC s))
  have U0 := Lib.hid ((up_alloc w (.cells (nodeC l) 31)).trans (up_alloc _ (.cells (secC s) 23)))
  clear b0
  go_wp2_with fail
  simp only [World.size_alloc] at C0
  generalize hw1 : (w.alloc (.cells (nodeC l) 31)).alloc (.cells (secC s) 23) = w1 at *
  clear hw1
  refine (AL.out _).mono ?_
  rintro e w2 ⟨rfl, up2⟩
  have B2 := Lib.hid (B0.out.up up2)
  have C2 := Lib.hid (C0.out.up up2)
  have U2 := Lib.hid (U0.out.trans up2)
  clear up2 B0 C0 U0
  go_wp2_with (refine wpList_load_blk rfl 31 (.tmp 2) rfl w.heap.size rfl 31 _ B2.out _ Try.underlying31 rfl HN.out ?_)
  refine (R1.out _).mono ?_
  rintro e w3 ⟨rfl, up3⟩
  have upa := up3.trans (up_alloc w3 (.cells (secC (nbytes l).1) 23))
  have B3 := Lib.hid (B2.out.up upa)
  have C3 := Lib.hid (C2.out.up upa)
  have U3 := Lib.hid (U2.out.trans upa)
  have X3 := Lib.hid (Blk.new w3 23 (secC (nbytes l).1))
  clear up3 upa B2 C2 U2
  go_wp2_with (first
    | (refine wpList_alloc_blk rfl 23 rfl (secC zeroS) zero_sec ?_)
    | (refine wpList_store_new (w := w3) rfl 23 (.tmp 5) (.tmp 21) rfl w3.heap.size rfl (secC (nbytes l).1) rfl rfl 23 (secC zeroS) S1.out Z1.out (secC_one _) ?_)
    | (refine wpList_load_blk rfl 31 (.tmp 2) rfl w.heap.size rfl 31 _ B3.out _ Try.underlying31 rfl HN.out ?_))
  generalize hw4 : w3.alloc (.cells (secC (nbytes l).1) 23) = w4 at *
  clear hw4
  go_loopw [7, 24] (fun r i wr => ∃ k : Nat, k ≤ 8 ∧ i = .int .i64 k ∧ r = .bool (goodAll (l.take k)) ∧ Up w4 wr) (fun _ i _ => 8 - (intOf i).toNat)
  case atStart => exact ⟨0, Nat.zero_le _, rfl, rfl, Up.refl _⟩
  case round =>
    obtain ⟨k, hk, rfl, rfl, upr⟩ := hrel
    by_cases hlt : k < 8
    · have hkl : k < l.length := by rw [HL.out]; exact hlt
      have b2 : ((k : Int) < 8) = True := by simp; omega
      have IX := IXX.out k hkl
      have GTK := GT.out k hkl
      have RG := Lib.hid (fun W => right_any W l[k])
      have SI := Lib.hid (fun W => since_any W l[k] (newestN l))
      rw [SN.out k hkl] at SI
      have BB := Lib.hid (B3.out.up upr)
      generalize goodB l[k] = gk at *
      generalize l[k] = p at *
      generalize newestN l = nn at *
      generalize goodAll (l.take k) = g0 at *
      obtain ⟨pl, pb, ps⟩ := p
      unfold pcA at IX
      unfold ptrV at RG SI
      simp only at IX RG SI
      have upb := up_alloc wr (.cells #[.int .i64 pl, .int .u64 (pb : Int), .int .u32 (ps : Int)] 30)
      have y0 := cell_new wr #[.int .i64 pl, .int .u64 (pb : Int), .int .u32 (ps : Int)] 30 (0, 0) 0 _ rfl
      have y1 := cell_new wr #[.int .i64 pl, .int .u64 (pb : Int), .int .u32 (ps : Int)] 30 (0, 0) 1 _ rfl
      have y2 := cell_new wr #[.int .i64 pl, .int .u64 (pb : Int), .int .u32 (ps : Int)] 30 (0, 0) 2 _ rfl
      have BC := Lib.hid (BB.out.up upb)
      cases g0
      case false =>
        simp only [Bool.false_and] at GTK
        have HG := Lib.hid GTK
        clear GTK
        go_wp2_with fail
        have x0 := cell_regrown y0
        have x1 := cell_regrown y1
        have x2 := cell_regrown y2
        generalize hw5 : wr.alloc (.cells #[.int .i64 pl, .int .u64 (pb : Int), .int .u32 (ps : Int)] 30) = w5 at *
        clear hw5 y0 y1 y2
        refine wp_region_quiet_below (by kernel_rfl) (by kernel_rfl) ?_
        repeat (first
          | (go_big_quiet_want; refine quiet_load_blk 31 (.tmp 2) rfl w.heap.size rfl 31 _ BC.out.cls _ Try.underlying31 rfl HN.out ?_; go_big_quiet_on; go_simp)
          | (go_big_quiet_step (first | (go_at_call 14; exact Calls.regrown_of (NW.out _)) | (go_at_call 20; exact Calls.regrown_of (SI.out _)))))
        refine wpQuiet_nil ?_
        intro pp
        obtain ⟨w6, hw6⟩ : ∃ x, x = grow (redrawn w5 pp.d) pp.os := ⟨_, rfl⟩
        rw [← hw6]
        have up6 : Up w5 w6 := by rw [hw6]; exact below_regrown _ _ _
        clear hw6 x0 x1 x2
        go_wp2_with fail
        go_roundw
        case rel => exact ⟨k + 1, by omega, by go_num, by rw [HG.out], upr.trans (upb.trans up6)⟩
        case measure => simp [intOf]; omega
      case true =>
        simp only [Bool.true_and] at GTK
        have HG := Lib.hid GTK
        clear GTK
        go_wp2_with fail
        refine (RG.out _).mono ?_
        rintro e w5 ⟨rfl, up5⟩
        have x0 := cell_regrown (up5.cell y0)
        have x1 := cell_regrown (up5.cell y1)
        have x2 := cell_regrown (up5.cell y2)
        have BD := Lib.hid (BC.out.up up5)
        clear y0 y1 y2
        go_wp2_with fail
        refine wp_region_quiet_below (by kernel_rfl) (by kernel_rfl) ?_
        repeat (first
          | (go_big_quiet_want; refine quiet_load_blk 31 (.tmp 2) rfl w.heap.size rfl 31 _ BD.out.cls _ Try.underlying31 rfl HN.out ?_; go_big_quiet_on; go_simp)
          | (go_big_quiet_step (first | (go_at_call 14; exact Calls.regrown_of (NW.out _)) | (go_at_call 20; exact Calls.regrown_of (SI.out _)))))
        refine wpQuiet_nil ?_
        intro pp
        obtain ⟨w6, hw6⟩ : ∃ x, x = grow (redrawn w5 pp.d) pp.os := ⟨_, rfl⟩
        rw [← hw6]
        have up6 : Up w5 w6 := by rw [hw6]; exact below_regrown _ _ _
        clear hw6 x0 x1 x2
        go_wp2_with fail
        go_roundw
        case rel => exact ⟨k + 1, by omega, by go_num, by rw [HG.out], upr.trans (upb.trans (up5.trans up6))⟩
        case measure => simp [intOf]; omega
    · obtain rfl : k = 8 := by omega
      have b2 : ((8 : Nat) : Int) = 8 := rfl
      rw [TL.out]
      have C5 := Lib.hid (C3.out.up upr)
      have B5 := Lib.hid (B3.out.up upr)
      have X5 := Lib.hid (X3.out.up upr)
      have U5 := Lib.hid (U3.out.trans upr)
      clear C3 B3 X3 U3 upr
      have EN' := EN.out
      cases hg : goodAll l
      case false =>
        have hc := GNO.out hg
        rw [hc]
        clear hg hc EN'
        go_wp2_with (refine wpList_load_blk rfl 23 (.tmp 3) rfl (w.heap.size + 1) rfl 23 _ C5.out _ Try.underlying23 rfl HS.out ?_)
        have C6 := C5
        have U6 := U5
        clear C5 U5
        refine (RS.out _).mono ?_
        rintro e w7 ⟨rfl, up7⟩
        have U7 := Lib.hid (U6.out.trans up7)
        rcases NB.out with hr | ⟨l2, hr, hl2, hw2, hb2⟩
        · rw [hr]
          have SC := run_storeCells_new (P := Try.prog) w7 31 (nodeC zero8) (nodeC zero8) info_node rfl (nodeC_one _)
          have N8 := Lib.hid (Blk.new w7 31 (nodeC zero8))
          have up8 := up_alloc w7 (.cells (nodeC zero8) 31)
          clear hr up7
          go_wp2_with (first
            | (refine wpList_alloc_blk rfl 31 rfl (nodeC zero8) zero_nodeV ?_)
            | (refine wpList_load_blk rfl 31 (.tmp 12) rfl w7.heap.size rfl 31 _ N8.out _ Try.underlying31 rfl info_node ?_))
          refine (E8.out _).mono ?_
          rintro e w9 ⟨rfl, up9⟩
          go_wp2_with fail
          go_ret
          exact ⟨rfl, U7.out.trans (up8.trans up9)⟩
        · rw [hr]
          have C7 := Lib.hid ((C6.out.up up7).up (up_alloc w7 (.cells (nodeC l2) 31)))
          have N7 := Lib.hid (Blk.new w7 31 (nodeC l2))
          have H2 := Lib.hid (show (Try.prog.info? 31).map (·.size) = some (nodeC l2).size by rw [nodeC_size, hl2]; exact info_node)
          have Z2 := Lib.hid (show (nodeC zero8).size = (nodeC l2).size by rw [nodeC_size, nodeC_size, hl2]; rfl)
          have B2 := Lib.hid (show ∀ W, Calls Try.prog 9 #[.agg (nodeC l2)] W fun e w' => e = .returned (.tuple #[.agg (secC s), .int .i64 0]) ∧ Up W w' from fun W => by
            have := nbytes_any W l2 hl2 hw2
            unfold NBytes at this
            rw [hb2] at this
            exact this)
          have ZS := Lib.hid (show (secC zeroS).size = (secC s).size by rw [secC_size, secC_size, HSL.out]; rfl)
          clear hr hl2 hw2 hb2 up7
          go_wp2_with (first
            | (refine wpList_alloc_blk rfl 31 rfl (nodeC zero8) zero_nodeV ?_)
            | (refine wpList_store_new (w := w7) rfl 31 (.tmp 12) (.tmp 58) rfl w7.heap.size rfl (nodeC l2) rfl rfl 31 (nodeC zero8) H2.out Z2.out (nodeC_one _) ?_)
            | (refine wpList_load_blk rfl 31 (.tmp 12) rfl w7.heap.size rfl 31 _ N7.out _ Try.underlying31 rfl H2.out ?_))
          refine (B2.out _).mono ?_
          rintro e w9 ⟨rfl, up9⟩
          have C9 := Lib.hid ((C7.out.up up9).up (up_alloc w9 (.cells (secC s) 23)))
          have Y9 := Lib.hid (Blk.new w9 23 (secC s))
          have U9 := Lib.hid ((U7.out.trans (up_alloc w7 (.cells (nodeC l2) 31))).trans (up9.trans (up_alloc w9 (.cells (secC s) 23))))
          have SEQ' := SEQ.out
          clear up9 C7
          go_wp2_with (first
            | (refine wpList_alloc_blk rfl 23 rfl (secC zeroS) zero_sec ?_)
            | (refine wpList_store_new (w := w9) rfl 23 (.tmp 14) (.tmp 67) rfl w9.heap.size rfl (secC s) rfl rfl 23 (secC zeroS) HS.out ZS.out (secC_one _) ?_)
            | (refine wpList_load_blkG rfl 23 (.tmp 14) rfl w9.heap.size rfl 23 _ Y9.out _ Try.underlying23 rfl HS.out ?_)
            | (refine wpList_load_blkG rfl 23 (.tmp 3) rfl (w.heap.size + 1) rfl 23 _ C9.out _ Try.underlying23 rfl HS.out ?_))
          go_ret
          exact ⟨rfl, U9.out⟩
      case true =>
        obtain ⟨hc, hr⟩ := GY.out hg
        rw [hc]
        unfold NRead at NR1
        rw [hr] at NR1
        have SC := run_storeCells_new (P := Try.prog) w4 31 (nodeC zero8) (nodeC l) HN.out (by rw [nodeC_size, nodeC_size, HL.out]; rfl) (nodeC_one _)
        clear hg hc hr SC
        go_wp2_with (refine wpList_load_blk rfl 23 (.tmp 5) rfl w3.heap.size rfl 23 _ X5.out _ Try.underlying23 rfl S1.out ?_)
        refine (NR1.out _).mono ?_
        rintro e w6 ⟨rfl, up6⟩
        have upa := up6.trans (up_alloc w6 (.cells (nodeC l) 31))
        have B6 := Lib.hid (B5.out.up upa)
        have C6 := Lib.hid (C5.out.up upa)
        have N6 := Lib.hid (Blk.new w6 31 (nodeC l))
        have U6 := Lib.hid (U5.out.trans upa)
        have Z8 := Lib.hid (show (nodeC zero8).size = (nodeC l).size by rw [nodeC_size, nodeC_size, HL.out]; rfl)
        clear up6 upa B5 C5 U5 X5
        go_wp2_with (first
          | (refine wpList_alloc_blk rfl 31 rfl (nodeC zero8) zero_nodeV ?_)
          | (refine wpList_store_new (w := w6) rfl 31 (.tmp 10) (.tmp 46) rfl w6.heap.size rfl (nodeC l) rfl rfl 31 (nodeC zero8) HN.out Z8.out (nodeC_one _) ?_)
          | (refine wpList_load_blkG rfl 31 (.tmp 10) rfl w6.heap.size rfl 31 _ N6.out _ Try.underlying31 rfl HN.out ?_)
          | (refine wpList_load_blkG rfl 31 (.tmp 2) rfl w.heap.size rfl 31 _ B6.out _ Try.underlying31 rfl HN.out ?_)
          | (refine wpList_load_blk rfl 23 (.tmp 3) rfl (w.heap.size + 1) rfl 23 _ C6.out _ Try.underlying23 rfl HS.out ?_))
        refine (RS.out _).mono ?_
        rintro e w7 ⟨rfl, up7⟩
        have U7 := Lib.hid (U6.out.trans up7)
        rcases NB.out with hr | ⟨l2, hr, hl2, hw2, hb2⟩
        · rw [hr]
          have SC := run_storeCells_new (P := Try.prog) w7 31 (nodeC zero8) (nodeC zero8) info_node rfl (nodeC_one _)
          have N8 := Lib.hid (Blk.new w7 31 (nodeC zero8))
          have up8 := up_alloc w7 (.cells (nodeC zero8) 31)
          clear hr up7
          go_wp2_with (first
            | (refine wpList_alloc_blk rfl 31 rfl (nodeC zero8) zero_nodeV ?_)
            | (refine wpList_load_blk rfl 31 (.tmp 12) rfl w7.heap.size rfl 31 _ N8.out _ Try.underlying31 rfl info_node ?_))
          refine (E8.out _).mono ?_
          rintro e w9 ⟨rfl, up9⟩
          go_wp2_with fail
          go_ret
          exact ⟨rfl, U7.out.trans (up8.trans up9)⟩
        · rw [hr]
          have C7 := Lib.hid ((C6.out.up up7).up (up_alloc w7 (.cells (nodeC l2) 31)))
          have N7 := Lib.hid (Blk.new w7 31 (nodeC l2))
          have H2 := Lib.hid (show (Try.prog.info? 31).map (·.size) = some (nodeC l2).size by rw [nodeC_size, hl2]; exact info_node)
          have Z2 := Lib.hid (show (nodeC zero8).size = (nodeC l2).size by rw [nodeC_size, nodeC_size, hl2]; rfl)
          have B2 := Lib.hid (show ∀ W, Calls Try.prog 9 #[.agg (nodeC l2)] W fun e w' => e = .returned (.tuple #[.agg (secC s), .int .i64 0]) ∧ Up W w' from fun W => by
            have := nbytes_any W l2 hl2 hw2
            unfold NBytes at this
            rw [hb2] at this
            exact this)
          have ZS := Lib.hid (show (secC zeroS).size = (secC s).size by rw [secC_size, secC_size, HSL.out]; rfl)
          clear hr hl2 hw2 hb2 up7
          go_wp2_with (first
            | (refine wpList_alloc_blk rfl 31 rfl (nodeC zero8) zero_nodeV ?_)
            | (refine wpList_store_new (w := w7) rfl 31 (.tmp 12) (.tmp 58) rfl w7.heap.size rfl (nodeC l2) rfl rfl 31 (nodeC zero8) H2.out Z2.out (nodeC_one _) ?_)
            | (refine wpList_load_blk rfl 31 (.tmp 12) rfl w7.heap.size rfl 31 _ N7.out _ Try.underlying31 rfl H2.out ?_))
          refine (B2.out _).mono ?_
          rintro e w9 ⟨rfl, up9⟩
          have C9 := Lib.hid ((C7.out.up up9).up (up_alloc w9 (.cells (secC s) 23)))
          have Y9 := Lib.hid (Blk.new w9 23 (secC s))
          have U9 := Lib.hid ((U7.out.trans (up_alloc w7 (.cells (nodeC l2) 31))).trans (up9.trans (up_alloc w9 (.cells (secC s) 23))))
          have SEQ' := SEQ.out
          clear up9 C7
          go_wp2_with (first
            | (refine wpList_alloc_blk rfl 23 rfl (secC zeroS) zero_sec ?_)
            | (refine wpList_store_new (w := w9) rfl 23 (.tmp 14) (.tmp 67) rfl w9.heap.size rfl (secC s) rfl rfl 23 (secC zeroS) HS.out ZS.out (secC_one _) ?_)
            | (refine wpList_load_blkG rfl 23 (.tmp 14) rfl w9.heap.size rfl 23 _ Y9.out _ Try.underlying23 rfl HS.out ?_)
            | (refine wpList_load_blkG rfl 23 (.tmp 3) rfl (w.heap.size + 1) rfl 23 _ C9.out _ Try.underlying23 rfl HS.out ?_))
          go_ret
          exact ⟨rfl, U9.out⟩
end Go.Proofs.Ytkfdbhgalkgnkaa
