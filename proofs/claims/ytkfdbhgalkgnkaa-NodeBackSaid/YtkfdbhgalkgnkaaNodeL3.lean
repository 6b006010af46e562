/- NodeApart: the walk. -/
import Derived.Test.YtkfdbhgalkgnkaaNodeL2
set_option linter.unusedSimpArgs false
namespace Go.Proofs.Ytkfdbhgalkgnkaa
open Go.RowKit Go.Sort

theorem bytesL_inj {l m : List PtrD} (hl : l.length = m.length) (wl : ∀ x ∈ l, x.wf) (wm : ∀ x ∈ m, x.wf) (gl : goodAll l = true) (gm : goodAll m = true) (h : bytesL l = bytesL m) : l = m := by
  have h1 := readTo_bytes l wl ((goodAll_iff l).1 gl) l.length (Nat.le_refl _)
  have h2 := readTo_bytes m wm ((goodAll_iff m).1 gm) m.length (Nat.le_refl _)
  rw [h, hl, h2, ← hl] at h1
  simp [hl] at h1
  rw [List.take_of_length_le (by omega)] at h1
  exact h1.symm
theorem set_eq (l : List PtrD) (n : Nat) (hn : n < l.length) (q : PtrD) : l.set n q = l ↔ l[n] = q := by
  constructor
  · intro h
    have : (l.set n q)[n]'(by simpa using hn) = l[n] := by simp only [h]
    rw [List.getElem_set_self] at this
    exact this.symm
  · rintro rfl; simp
theorem newest_ge (l : List PtrD) : ∀ x ∈ l, x.birth ≤ newestN l := by
  have key : ∀ (l : List PtrD) (m : Nat), m ≤ l.foldl (fun m p => max m p.birth) m ∧ ∀ x ∈ l, x.birth ≤ l.foldl (fun m p => max m p.birth) m := by
    intro l
    induction l with
    | nil => intro m; simp
    | cons y l ih =>
      intro m
      have h := ih (max m y.birth)
      refine ⟨?_, ?_⟩
      · simp only [List.foldl_cons]; omega
      · intro x hx
        simp only [List.foldl_cons]
        rcases List.mem_cons.1 hx with rfl | hx
        · omega
        · exact h.2 x hx
  exact (key l 0).2
theorem node_set_wf {l : List PtrD} (hw : ∀ x ∈ l, x.wf) (n : Nat) {q : PtrD} (hq : q.wf) : ∀ x ∈ l.set n q, x.wf := fun x hx => by
  rcases List.mem_or_eq_of_mem_set hx with h | h
  · exact hw x h
  · rw [h]; exact hq

theorem node_splice (l : List PtrD) (k : Nat) (hk : k < l.length) (q : PtrD) : (splice (nodeC l).toList (k * 3) (pcA q).toList).toArray = nodeC (l.set k q) := by
  unfold nodeC splice
  simp only [List.toList_toArray]
  congr 1
  have h1 : l.set k q = l.take k ++ q :: l.drop (k + 1) := List.set_eq_take_append_cons_drop .. |>.trans (if_pos hk)
  have h2 : l.flatMap pcells = (l.take k).flatMap pcells ++ (pcells l[k] ++ (l.drop (k + 1)).flatMap pcells) := by
    rw [← List.flatMap_cons, ← List.drop_eq_getElem_cons hk, ← List.flatMap_append, List.take_append_drop]
  have h3 : ((l.take k).flatMap pcells).length = k * 3 := by rw [pw.flat, List.length_take]; omega
  rw [h1, List.flatMap_append, List.flatMap_cons, h2, List.take_left' h3, List.drop_append, h3]
  rw [List.drop_of_length_le (by rw [h3]; omega), List.nil_append]
  congr 2
  have h4 : k * 3 + (pcA q).toList.length - k * 3 = (pcells l[k]).length := by simp [pcA, pcells]
  rw [h4, List.drop_left]
theorem pcA_one (q : PtrD) : (pcA q).all (·.oneCell') = true := by simp [pcA, Value.oneCell']

set_option maxRecDepth 100000 in
set_option maxHeartbeats 8000000 in
theorem nodeApart_walk (w : World) (l : List PtrD) (hl : l.length = 8) (hw : ∀ x ∈ l, x.wf) (i : Int) (hi : -9223372036854775808 ≤ i ∧ i ≤ 9223372036854775807) (q : PtrD) (hq : q.wf) :
    Calls Try.prog 6 #[.agg (nodeC l), .int .i64 i, ptrV q] w fun e w' => e = .returned (.bool true) ∧ Up w w' := by
  have AL := Lib.hid alive_any
  have upw := (up_alloc w (.cells (nodeC l) 31)).trans (up_alloc _ (.cells #[.int .i64 q.loc, .int .u64 (q.birth : Int), .int .u32 (q.sum : Int)] 30))
  show Calls _ _ #[_, _, .agg #[.int .i64 q.loc, .int .u64 (q.birth : Int), .int .u32 (q.sum : Int)]] _ _
  by_cases h0 : i < 0
  · have t0 : decide (i < 0) = true := by simpa using h0
    clear hl hw hq
    go_enter Try.func6, Try.ntmps6
    go_wp2_with fail
    refine (AL.out _).mono ?_
    rintro e w1 ⟨rfl, up1⟩
    go_wp2_with fail
    go_ret
    exact ⟨rfl, upw.trans up1⟩
  have t0 : decide (i < 0) = false := by simpa using h0
  by_cases h7 : 7 < i
  · have t1 : decide (7 < i) = true := by simpa using h7
    clear hl hw hq
    go_enter Try.func6, Try.ntmps6
    go_wp2_with fail
    refine (AL.out _).mono ?_
    rintro e w1 ⟨rfl, up1⟩
    go_wp2_with fail
    go_ret
    exact ⟨rfl, upw.trans up1⟩
  have t1 : decide (7 < i) = false := by simpa using h7
  obtain ⟨n, rfl⟩ : ∃ n : Nat, i = n := ⟨i.toNat, by omega⟩
  have hn : n < 8 := by omega
  have hnl : n < l.length := by omega
  obtain ⟨m, hm⟩ : ∃ m, m = l.set n q := ⟨_, rfl⟩
  have hml : m.length = 8 := by rw [hm, List.length_set]; exact hl
  have hmw : ∀ x ∈ m, x.wf := by rw [hm]; exact node_set_wf hw n hq
  have hmn : q.birth ≤ newestN m := newest_ge m q (by rw [hm]; exact List.mem_set hnl q)
  have R1 := Lib.hid (fun W => nbytes_any W l hl hw)
  have R2 := Lib.hid (fun W => nbytes_any W m hml hmw)
  have N2 := Lib.hid (fun W => newest_any W m hml)
  unfold NBytes at R1 R2
  have L1 := nbytes_length l hl
  have L2 := nbytes_length m hml
  have HN := Lib.hid (show (Try.prog.info? 31).map (·.size) = some (nodeC l).size by rw [nodeC_size, hl]; exact info_node)
  have HM := Lib.hid (show (Try.prog.info? 31).map (·.size) = some (nodeC m).size by rw [nodeC_size, hml]; exact info_node)
  have C0 := Lib.hid (show (nodeC zero8).size = (nodeC l).size by rw [nodeC_size, nodeC_size, hl]; rfl)
  have S1 := Lib.hid (show (Try.prog.info? 23).map (·.size) = some (secC (nbytes l).1).size by rw [secC_size, L1]; exact info_sec)
  have S2 := Lib.hid (show (Try.prog.info? 23).map (·.size) = some (secC (nbytes m).1).size by rw [secC_size, L2]; exact info_sec)
  have Z1 := Lib.hid (show (secC zeroS).size = (secC (nbytes l).1).size by rw [secC_size, secC_size, L1]; rfl)
  have Z2 := Lib.hid (show (secC zeroS).size = (secC (nbytes m).1).size by rw [secC_size, secC_size, L2]; rfl)
  have EQ := Lib.hid (sec_eq (nbytes l).1 (nbytes m).1 L1 L2)
  have E1 := Lib.hid (sec_eq (nbytes l).1 zeroS L1 rfl)
  have E2 := Lib.hid (sec_eq (nbytes m).1 zeroS L2 rfl)
  have PE := Lib.hid (show ∀ W, (Op.equalIn 10000 30 (.agg #[.int .i64 l[n].loc, .int .u64 (l[n].birth : Int), .int .u32 (l[n].sum : Int)]) (.agg #[.int .i64 q.loc, .int .u64 (q.birth : Int), .int .u32 (q.sum : Int)])).run Try.prog W = .ok (decide (l[n] = q)) W from fun W => ptr_eqD 9998 l[n] q W)
  have GG := Lib.hid (show goodAll l = true → goodAll m = true → decide ((nbytes l).1 = (nbytes m).1) = decide (l[n] = q) from fun gl gm => by
    rw [nbytes_yes gl, nbytes_yes gm, Bool.eq_iff_iff, decide_eq_true_eq, decide_eq_true_eq, ← set_eq l n hnl q, ← hm]
    show bytesL l = bytesL m ↔ _
    constructor
    · exact fun h => (bytesL_inj (by omega) hw hmw gl gm h).symm
    · intro h; rw [h])
  have HL := Lib.hid hl
  have HNL := Lib.hid hnl
  have HMS := Lib.hid hm
  have GL1 := Lib.hid (show goodAll l = true → (nbytes l).2 = 0 from fun h => by rw [nbytes_yes h])
  have GL2 := Lib.hid (show goodAll l = false → nbytes l = (zeroS, 51) from fun h => if_neg (by rw [h]; simp))
  have GM1 := Lib.hid (show goodAll m = true → (nbytes m).2 = 0 from fun h => by rw [nbytes_yes h])
  have GM2 := Lib.hid (show goodAll m = false → nbytes m = (zeroS, 51) from fun h => if_neg (by rw [h]; simp))
  clear hw hmw hq L1 L2 hl hml hi h0 h7 hm
  generalize nbytes l = r1 at *
  generalize nbytes m = r2 at *
  obtain ⟨s1, c1⟩ := r1
  obtain ⟨s2, c2⟩ := r2
  simp only at R1 R2 S1 S2 Z1 Z2 EQ E1 E2 GG GL1 GL2 GM1 GM2
  go_enter Try.func6, Try.ntmps6
  have b0 := Blk.new w 31 (nodeC l)
  have B0 := Lib.hid (b0.up (up_alloc _ (.cells #[.int .i64 q.loc, .int .u64 (q.birth : Int), .int .u32 (q.sum : Int)] 30)))
  have d0 := cell_new (w.alloc (.cells (nodeC l) 31)) #[.int .i64 q.loc, .int .u64 (q.birth : Int), .int .u32 (q.sum : Int)] 30 (0, 0) 0 _ rfl
  have d1 := cell_new (w.alloc (.cells (nodeC l) 31)) #[.int .i64 q.loc, .int .u64 (q.birth : Int), .int .u32 (q.sum : Int)] 30 (0, 0) 1 _ rfl
  have d2 := cell_new (w.alloc (.cells (nodeC l) 31)) #[.int .i64 q.loc, .int .u64 (q.birth : Int), .int .u32 (q.sum : Int)] 30 (0, 0) 2 _ rfl
  simp only [World.size_alloc] at d0 d1 d2
  clear b0
  generalize hw1 : (w.alloc (.cells (nodeC l) 31)).alloc (.cells #[.int .i64 q.loc, .int .u64 (q.birth : Int), .int .u32 (q.sum : Int)] 30) = w1 at *
  go_wp2_with fail
  clear hw1
  refine (AL.out _).mono ?_
  rintro e w2 ⟨rfl, up2⟩
  have U2 := Lib.hid (upw.trans up2)
  have B2 := Lib.hid (B0.out.up up2)
  have s2 := B2.out.lt
  have s3 : w.heap.size + 1 < w2.heap.size := World.block_lt_of_cell? w2 _ (up2.cell d0)
  have d0 := (up_alloc w2 (.cells (nodeC l) 31)).cell (up2.cell d0)
  have d1 := (up_alloc w2 (.cells (nodeC l) 31)).cell (up2.cell d1)
  have d2 := (up_alloc w2 (.cells (nodeC l) 31)).cell (up2.cell d2)
  have N3 := Lib.hid (Blk.new w2 31 (nodeC l))
  have SP := Lib.hid (node_splice l n HNL.out q)
  have FT := Lib.hid (show n * 3 + (pcA q).size ≤ (nodeC l).size by rw [nodeC_size, HL.out]; show n * 3 + 3 ≤ _; omega)
  have IP := Lib.hid (show (Try.prog.info? 30).map (·.size) = some (pcA q).size by kernel_rfl)
  have b8 : ((n : Int) < 8) = True := by simp; omega
  clear up2 upw
  go_wp2_with (first
    | (refine wpList_load_blk rfl 31 (.tmp 3) rfl w.heap.size rfl 31 _ B2.out _ Try.underlying31 rfl HN.out ?_)
    | (refine wpList_alloc_blk rfl 31 rfl (nodeC zero8) zero_nodeV ?_)
    | (refine wpList_store_new (w := w2) rfl 31 (.tmp 7) (.tmp 20) rfl w2.heap.size rfl (nodeC l) rfl rfl 31 (nodeC zero8) HN.out C0.out (nodeC_one _) ?_)
    | (refine wpList_store_part rfl 30 (.tmp 23) (.tmp 22) rfl w2.heap.size (n * 3) (pcA q) rfl rfl 31 (nodeC l) N3.out IP.out FT.out (pcA_one q) ?_))
  intro w4 hb4 hg4
  rw [SP.out, ← HMS.out] at hb4
  have M4 := Lib.hid hb4
  have B4 := Lib.hid ((B2.out.up (up_alloc w2 (.cells (nodeC l) 31))).grown hg4 (by simp; omega))
  have U4 := Lib.hid (((U2.out.trans (up_alloc w2 (.cells (nodeC l) 31))).below_trans (below_grown hg4 (Nat.le_of_lt N3.out.lt) (fun j hj => by cases hj; exact Nat.le_refl _)) U2.out.size))
  have K4 := Lib.hid (show w4.cell? ⟨w.heap.size + 1, 0, none⟩ = some (.int .i64 q.loc) ∧ w4.cell? ⟨w.heap.size + 1, 1, none⟩ = some (.int .u64 (q.birth : Int)) ∧ w4.cell? ⟨w.heap.size + 1, 2, none⟩ = some (.int .u32 (q.sum : Int)) from
    ⟨hg4.cell d0 (by simp; omega), hg4.cell d1 (by simp; omega), hg4.cell d2 (by simp; omega)⟩)
  clear hb4 hg4 d0 d1 d2 s2 s3
  go_wp2_with (refine wpList_load_blk rfl 31 (.tmp 3) rfl w.heap.size rfl 31 _ B4.out _ Try.underlying31 rfl HN.out ?_)
  refine (R1.out _).mono ?_
  rintro e w5 ⟨rfl, up5⟩
  have upa := up5.trans (up_alloc w5 (.cells (secC s1) 23))
  have M5 := Lib.hid (M4.out.up upa)
  have B5 := Lib.hid (B4.out.up upa)
  have U5 := Lib.hid (U4.out.trans upa)
  have X5 := Lib.hid (Blk.new w5 23 (secC s1))
  have K5 := Lib.hid (show Up w4 (w5.alloc (.cells (secC s1) 23)) from upa)
  clear up5 upa M4 B4 U4
  go_wp2_with (first
    | (refine wpList_alloc_blk rfl 23 rfl (secC zeroS) zero_sec ?_)
    | (refine wpList_store_new (w := w5) rfl 23 (.tmp 8) (.tmp 27) rfl w5.heap.size rfl (secC s1) rfl rfl 23 (secC zeroS) S1.out Z1.out (secC_one _) ?_)
    | (refine wpList_load_blk rfl 31 (.tmp 7) rfl w2.heap.size rfl 31 _ M5.out _ Try.underlying31 rfl HM.out ?_))
  generalize hw6 : w5.alloc (.cells (secC s1) 23) = w6 at *
  clear hw6
  refine (R2.out _).mono ?_
  rintro e w7 ⟨rfl, up7⟩
  have upa := up7.trans (up_alloc w7 (.cells (secC s2) 23))
  have M7 := Lib.hid (M5.out.up upa)
  have B7 := Lib.hid (B5.out.up upa)
  have U7 := Lib.hid (U5.out.trans upa)
  have X7 := Lib.hid (X5.out.up upa)
  have Y7 := Lib.hid (Blk.new w7 23 (secC s2))
  have K7 := Lib.hid (K5.out.trans upa)
  clear up7 upa M5 B5 U5 X5 K5 R1 R2
  have zz : decide (zeroS = zeroS) = true := by simp
  cases g1 : goodAll l
  case false =>
    have hr := GL2.out g1
    simp only [Prod.mk.injEq] at hr
    obtain ⟨rfl, rfl⟩ := hr
    have EZ := E1.out
    rw [zz] at EZ
    cases g2 : goodAll m
    case false =>
      have hr2 := GM2.out g2
      simp only [Prod.mk.injEq] at hr2
      obtain ⟨rfl, rfl⟩ := hr2
      have SC := run_storeCells_new (P := Try.prog) w7 23 (secC zeroS) (secC zeroS) S2.out Z2.out (secC_one _)
      clear g1 g2 zz
      go_wp2_with  (first
    | (refine wpList_alloc_blk rfl 23 rfl (secC zeroS) zero_sec ?_)
    | (refine wpList_store_new (w := w7) rfl 23 (.tmp 10) (.tmp 32) rfl w7.heap.size rfl (secC zeroS) rfl rfl 23 (secC zeroS) S2.out Z2.out (secC_one _) ?_)
    | (refine wpList_load_blkG rfl 23 (.tmp 8) rfl w5.heap.size rfl 23 _ X7.out _ Try.underlying23 rfl S1.out ?_)
    | (refine wpList_load_blkG rfl 23 (.tmp 10) rfl w7.heap.size rfl 23 _ Y7.out _ Try.underlying23 rfl S2.out ?_)
    | (refine wpList_build0 rfl 23 rfl (secC zeroS) built_sec ?_))
      go_ret
      exact ⟨rfl, U7.out⟩
    case true =>
      have hc2 := GM1.out g2
      subst hc2
      clear g1 g2 zz
      go_wp2_with  (first
    | (refine wpList_alloc_blk rfl 23 rfl (secC zeroS) zero_sec ?_)
    | (refine wpList_store_new (w := w7) rfl 23 (.tmp 10) (.tmp 32) rfl w7.heap.size rfl (secC s2) rfl rfl 23 (secC zeroS) S2.out Z2.out (secC_one _) ?_)
    | (refine wpList_load_blkG rfl 23 (.tmp 8) rfl w5.heap.size rfl 23 _ X7.out _ Try.underlying23 rfl S1.out ?_)
    | (refine wpList_load_blkG rfl 23 (.tmp 10) rfl w7.heap.size rfl 23 _ Y7.out _ Try.underlying23 rfl S2.out ?_)
    | (refine wpList_build0 rfl 23 rfl (secC zeroS) built_sec ?_))
      go_ret
      exact ⟨rfl, U7.out⟩
  have hc1 := GL1.out g1
  subst hc1
  cases g2 : goodAll m
  case false =>
    have hr2 := GM2.out g2
    simp only [Prod.mk.injEq] at hr2
    obtain ⟨rfl, rfl⟩ := hr2
    have EZ := E2.out
    rw [zz] at EZ
    have SC := run_storeCells_new (P := Try.prog) w7 23 (secC zeroS) (secC zeroS) S2.out Z2.out (secC_one _)
    clear g1 g2 zz
    go_wp2_with  (first
    | (refine wpList_alloc_blk rfl 23 rfl (secC zeroS) zero_sec ?_)
    | (refine wpList_store_new (w := w7) rfl 23 (.tmp 10) (.tmp 32) rfl w7.heap.size rfl (secC zeroS) rfl rfl 23 (secC zeroS) S2.out Z2.out (secC_one _) ?_)
    | (refine wpList_load_blkG rfl 23 (.tmp 8) rfl w5.heap.size rfl 23 _ X7.out _ Try.underlying23 rfl S1.out ?_)
    | (refine wpList_load_blkG rfl 23 (.tmp 10) rfl w7.heap.size rfl 23 _ Y7.out _ Try.underlying23 rfl S2.out ?_)
    | (refine wpList_build0 rfl 23 rfl (secC zeroS) built_sec ?_))
    go_ret
    exact ⟨rfl, U7.out⟩
  have hc2 := GM1.out g2
  subst hc2
  have EQ' := EQ.out
  rw [GG.out g1 g2] at EQ'
  have PE' := PE.out
  obtain ⟨k0, k1, k2⟩ := K4.out
  have h0 := (node_cell B7.out n HNL.out).1
  have h1 := (node_cell B7.out n HNL.out).2.1
  have h2 := (node_cell B7.out n HNL.out).2.2
  generalize decide (l[n] = q) = d at *
  generalize l[n] = p at *
  have dd : (d == d) = true := by simp
  have ge : decide ((q.birth : Int) ≤ ((newestN m : Nat) : Int)) = true := by simp; omega
  have ge2 : decide (q.birth ≤ newestN m) = true := by simp; omega
  clear g1 g2 zz hmn
  generalize newestN m = nn at *
  go_wp2_with  (first
    | (refine wpList_alloc_blk rfl 23 rfl (secC zeroS) zero_sec ?_)
    | (refine wpList_store_new (w := w7) rfl 23 (.tmp 10) (.tmp 32) rfl w7.heap.size rfl (secC s2) rfl rfl 23 (secC zeroS) S2.out Z2.out (secC_one _) ?_)
    | (refine wpList_load_blkG rfl 23 (.tmp 8) rfl w5.heap.size rfl 23 _ X7.out _ Try.underlying23 rfl S1.out ?_)
    | (refine wpList_load_blkG rfl 23 (.tmp 10) rfl w7.heap.size rfl 23 _ Y7.out _ Try.underlying23 rfl S2.out ?_)
    | (refine wpList_build0 rfl 23 rfl (secC zeroS) built_sec ?_))
  have k0 := K7.out.cell k0
  have k1 := K7.out.cell k1
  have k2 := K7.out.cell k2
  generalize hw8 : w7.alloc (.cells (secC s2) 23) = w8 at *
  clear hw8
  have x0 := cell_regrown k0
  have x1 := cell_regrown k1
  have x2 := cell_regrown k2
  have y0 := cell_regrown h0
  have y1 := cell_regrown h1
  have y2 := cell_regrown h2
  clear k0 k1 k2 h0 h1 h2
  refine wp_region_quiet_below (by kernel_rfl) (by kernel_rfl) ?_
  repeat (first
    | (go_big_quiet_want; refine quiet_load_blk 23 (.tmp 8) rfl w5.heap.size rfl 23 _ X7.out.cls _ Try.underlying23 rfl S1.out ?_; go_big_quiet_on; go_simp)
    | (go_big_quiet_want; refine quiet_load_blk 23 (.tmp 10) rfl w7.heap.size rfl 23 _ Y7.out.cls _ Try.underlying23 rfl S2.out ?_; go_big_quiet_on; go_simp)
    | (go_big_quiet_want; refine quiet_load_blk 31 (.tmp 7) rfl w2.heap.size rfl 31 _ M7.out.cls _ Try.underlying31 rfl HM.out ?_; go_big_quiet_on; go_simp)
    | (go_big_quiet_step ((go_at_call 14; exact Calls.regrown_of (N2.out _)))))
  refine wpQuiet_nil ?_
  intro p
  obtain ⟨w9, hw9⟩ : ∃ x, x = grow (redrawn w8 p.d) p.os := ⟨_, rfl⟩
  rw [← hw9]
  have up9 : Up w8 w9 := by rw [hw9]; exact below_regrown _ _ _
  clear hw9 x0 x1 x2 y0 y1 y2
  go_wp2_with fail
  go_ret
  exact ⟨rfl, U7.out.trans up9⟩
end Go.Proofs.Ytkfdbhgalkgnkaa
