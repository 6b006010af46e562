/- NodeOnes: the walk. -/
import Derived.Test.YtkfdbhgalkgnkaaNodeL3
set_option linter.unusedSimpArgs false
namespace Go.Proofs.Ytkfdbhgalkgnkaa
open Go.RowKit Go.Sort

theorem index_sec (s : List UInt8) (hs : s.length = 128) (k : Nat) (h : k < s.length) (W : World) : (Instr.index 23 (.agg (secC s)) (.int .i64 (k : Int))).run Try.prog W = .ok (.int .u8 (s[k].toNat : Int)) W := by
  have h8 : (0 : Int) ≤ (k : Int) ∧ (k : Int) < ((128 : Nat) : Int) := by omega
  have hs1 : (sizeOf 5).run Try.prog W = .ok 1 W := by kernel_rfl
  have hg : (isAgg 5).run Try.prog W = .ok false W := by kernel_rfl
  have hc : (secC s)[k]? = some (.int .u8 (s[k].toNat : Int)) := by simp [secC, h, byteCell]
  simp [Instr.index, asIntOf, run_underlying (P := Try.prog) Try.underlying23, h8, hs1, part, hg, hc]
  omega
theorem hole_bytes : ptrBytes hole = List.replicate 16 0 := by decide
theorem hole_good : goodB hole = true := by decide
def oneN (n : Nat) (q : PtrD) : List PtrD := zero8.set n q
theorem oneN_length (n : Nat) (q : PtrD) : (oneN n q).length = 8 := by simp [oneN, zero8]
theorem oneN_wf (n : Nat) {q : PtrD} (hq : q.wf) : ∀ x ∈ oneN n q, x.wf := node_set_wf (fun x hx => by rw [List.eq_of_mem_replicate hx]; simp [PtrD.wf, hole]) n hq
theorem oneN_good (n : Nat) {q : PtrD} (hq : goodB q = true) : goodAll (oneN n q) = true := (goodAll_iff _).2 (fun x hx => by
  rcases List.mem_or_eq_of_mem_set hx with h | h
  · rw [List.eq_of_mem_replicate h]; exact hole_good
  · rw [h]; exact hq)
theorem oneN_empty (n : Nat) (hn : n < 8) (q : PtrD) : emptyB (oneN n q) = decide (q = hole) := by
  have h : n < zero8.length := by simpa [zero8] using hn
  unfold emptyB oneN
  have hz : zero8[n] = hole := List.getElem_replicate _
  rw [Bool.eq_iff_iff, decide_eq_true_eq, decide_eq_true_eq, set_eq zero8 n h q, hz]
  exact eq_comm
theorem bytesL_at (l : List PtrD) (i : Nat) (h : i < l.length) (j : Nat) (hj : j < 16) : (bytesL l)[16 * i + j]? = (ptrBytes l[i])[j]? := by
  have := piece_bytes l i h
  rw [← this]
  unfold pieceB
  rw [List.getElem?_take, if_pos hj, List.getElem?_drop]
theorem oneN_at (n : Nat) (hn : n < 8) (q : PtrD) (k : Nat) (hk : k < 128) (h : k < (bytesL (oneN n q)).length) : (bytesL (oneN n q))[k] = if k / 16 = n then (ptrBytes q)[k % 16]'(by rw [ptrBytes_len]; omega) else 0 := by
  have hz : (oneN n q).length = 8 := oneN_length n q
  have h1 := bytesL_at (oneN n q) (k / 16) (by omega) (k % 16) (by omega)
  rw [show 16 * (k / 16) + k % 16 = k by omega, List.getElem?_eq_getElem h] at h1
  by_cases e : k / 16 = n
  · rw [if_pos e]
    subst e
    have h2 : (oneN (k / 16) q)[k / 16]'(by omega) = q := by unfold oneN; rw [List.getElem_set_self]
    rw [h2, List.getElem?_eq_getElem (by rw [ptrBytes_len]; omega)] at h1
    exact Option.some.inj h1
  · rw [if_neg e]
    have h2 : (oneN n q)[k / 16]'(by omega) = hole := by
      unfold oneN
      rw [List.getElem_set_ne (fun h => e h.symm)]
      exact List.getElem_replicate _
    rw [h2, hole_bytes, List.getElem?_replicate, if_pos (by omega)] at h1
    exact Option.some.inj h1

set_option maxRecDepth 100000 in
set_option maxHeartbeats 8000000 in
theorem nodeOnes_walk (w : World) (i : Int) (hi : -9223372036854775808 ≤ i ∧ i ≤ 9223372036854775807) (q : PtrD) (hq : q.wf) :
    Calls Try.prog 7 #[.int .i64 i, ptrV q] w fun e w' => e = .returned (.bool true) ∧ Up w w' := by
  have AL := Lib.hid alive_any
  have RG := Lib.hid (fun W => right_any W q)
  have upw := up_alloc w (.cells #[.int .i64 q.loc, .int .u64 (q.birth : Int), .int .u32 (q.sum : Int)] 30)
  have d0 := cell_new w #[.int .i64 q.loc, .int .u64 (q.birth : Int), .int .u32 (q.sum : Int)] 30 (0, 0) 0 _ rfl
  have d1 := cell_new w #[.int .i64 q.loc, .int .u64 (q.birth : Int), .int .u32 (q.sum : Int)] 30 (0, 0) 1 _ rfl
  have d2 := cell_new w #[.int .i64 q.loc, .int .u64 (q.birth : Int), .int .u32 (q.sum : Int)] 30 (0, 0) 2 _ rfl
  show Calls _ _ #[_, .agg #[.int .i64 q.loc, .int .u64 (q.birth : Int), .int .u32 (q.sum : Int)]] _ _
  unfold ptrV at RG
  by_cases h0 : i < 0
  · have t0 : decide (i < 0) = true := by simpa using h0
    clear hq d0 d1 d2
    go_enter Try.func7, Try.ntmps7
    go_wp2_with fail
    refine (AL.out _).mono ?_
    rintro e w1 ⟨rfl, up1⟩
    go_wp2_with fail
    go_ret
    exact ⟨rfl, upw.trans up1⟩
  have t0 : decide (i < 0) = false := by simpa using h0
  by_cases h7 : 7 < i
  · have t1 : decide (7 < i) = true := by simpa using h7
    clear hq d0 d1 d2
    go_enter Try.func7, Try.ntmps7
    go_wp2_with fail
    refine (AL.out _).mono ?_
    rintro e w1 ⟨rfl, up1⟩
    go_wp2_with fail
    go_ret
    exact ⟨rfl, upw.trans up1⟩
  have t1 : decide (7 < i) = false := by simpa using h7
  cases hg : goodB q
  case false =>
    rw [hg] at RG
    clear hg hq
    go_enter Try.func7, Try.ntmps7
    go_wp2_with fail
    refine (AL.out _).mono ?_
    rintro e w1 ⟨rfl, up1⟩
    have d0 := up1.cell d0
    have d1 := up1.cell d1
    have d2 := up1.cell d2
    go_wp2_with fail
    refine (RG.out _).mono ?_
    rintro e w2 ⟨rfl, up2⟩
    go_wp2_with fail
    go_ret
    exact ⟨rfl, upw.trans (up1.trans up2)⟩
  rw [hg] at RG
  obtain ⟨n, rfl⟩ : ∃ n : Nat, i = n := ⟨i.toNat, by omega⟩
  have hn : n < 8 := by omega
  have hz : n < zero8.length := by simpa [zero8] using hn
  have R1 := Lib.hid (fun W => nbytes_any W (oneN n q) (oneN_length n q) (oneN_wf n hq))
  unfold NBytes at R1
  rw [nbytes_yes (oneN_good n hg)] at R1
  simp only at R1
  have PB := Lib.hid (fun W => bytes_any W q hq)
  unfold ptrV PBytes at PB
  rw [hg] at PB
  have EM := Lib.hid (fun W => empty_any W (oneN n q) (oneN_length n q))
  rw [oneN_empty n hn q] at EM
  have PE := Lib.hid (show ∀ W, (Op.equalIn 10000 30 (.agg #[.int .i64 q.loc, .int .u64 (q.birth : Int), .int .u32 (q.sum : Int)]) (.agg #[.int .i64 0, .int .u64 0, .int .u32 0])).run Try.prog W = .ok (decide (q = hole)) W from fun W => ptr_eqD 9998 q hole W)
  have SP := Lib.hid (node_splice zero8 n hz q)
  have HM := Lib.hid (show (Try.prog.info? 31).map (·.size) = some (nodeC (oneN n q)).size by rw [nodeC_size, oneN_length]; exact info_node)
  have FT := Lib.hid (show n * 3 + (pcA q).size ≤ (nodeC zero8).size by rw [nodeC_size]; show n * 3 + 3 ≤ 24; omega)
  have IP := Lib.hid (show (Try.prog.info? 30).map (·.size) = some (pcA q).size by kernel_rfl)
  have BL : (bytesL (oneN n q)).length = 128 := by rw [bytesL_length, oneN_length]
  have S1 := Lib.hid (show (Try.prog.info? 23).map (·.size) = some (secC (bytesL (oneN n q))).size by rw [secC_size, BL]; exact info_sec)
  have Z1 := Lib.hid (show (secC zeroS).size = (secC (bytesL (oneN n q))).size by rw [secC_size, secC_size, BL]; rfl)
  have IX := Lib.hid (fun k h W => index_sec (bytesL (oneN n q)) BL k h W)
  have OA := Lib.hid (fun k hk h => oneN_at n hn q k hk h)
  have HBL := Lib.hid BL
  have b8 : ((n : Int) < 8) = True := by simp; omega
  have PLN := Lib.hid (ptrBytes_len q)
  clear hg hq h0 h7 hi BL hz
  generalize hdd : decide (q = hole) = dh at *
  clear hdd
  have ddn : (dh != dh) = false := by simp
  go_enter Try.func7, Try.ntmps7
  go_wp2_with fail
  refine (AL.out _).mono ?_
  rintro e w1 ⟨rfl, up1⟩
  have d0 := up1.cell d0
  have d1 := up1.cell d1
  have d2 := up1.cell d2
  go_wp2_with fail
  refine (RG.out _).mono ?_
  rintro e w2 ⟨rfl, up2⟩
  have U2 := Lib.hid (upw.trans (up1.trans up2))
  have d0 := up2.cell d0
  have d1 := up2.cell d1
  have d2 := up2.cell d2
  have s2 : w.heap.size < w2.heap.size := World.block_lt_of_cell? w2 _ d0
  have N3 := Lib.hid (Blk.new w2 31 (nodeC zero8))
  have SC := run_storeCells_new (P := Try.prog) w2 31 (nodeC zero8) (nodeC zero8) info_node rfl (nodeC_one _)
  clear up1 up2 upw
  go_wp2_with (first
    | (refine wpList_build0 rfl 31 rfl (nodeC zero8) built_node ?_)
    | (refine wpList_alloc_blk rfl 31 rfl (nodeC zero8) zero_nodeV ?_)
    | (refine wpList_store_part rfl 30 (.tmp 29) (.tmp 28) rfl w2.heap.size (n * 3) (pcA q) rfl rfl 31 (nodeC zero8) N3.out IP.out FT.out (pcA_one q) ?_))
  intro w4 hb4 hg4
  rw [SP.out] at hb4
  have M4 := Lib.hid (show Blk w4 w2.heap.size 31 (nodeC (oneN n q)) from hb4)
  have U4 := Lib.hid (((U2.out.trans (up_alloc w2 (.cells (nodeC zero8) 31))).below_trans (below_grown hg4 (Nat.le_of_lt N3.out.lt) (fun j hj => by cases hj; exact Nat.le_refl _)) U2.out.size))
  have d0 := hg4.cell ((up_alloc w2 (.cells (nodeC zero8) 31)).cell d0) (by simp; omega)
  have d1 := hg4.cell ((up_alloc w2 (.cells (nodeC zero8) 31)).cell d1) (by simp; omega)
  have d2 := hg4.cell ((up_alloc w2 (.cells (nodeC zero8) 31)).cell d2) (by simp; omega)
  clear hb4 hg4 s2 SC SP FT IP N3 U2
  go_wp2_with (refine wpList_load_blk rfl 31 (.tmp 5) rfl w2.heap.size rfl 31 _ M4.out _ Try.underlying31 rfl HM.out ?_)
  refine (R1.out _).mono ?_
  rintro e w5 ⟨rfl, up5⟩
  have upa := up5.trans (up_alloc w5 (.cells (secC (bytesL (oneN n q))) 23))
  have M5 := Lib.hid (M4.out.up upa)
  have U5 := Lib.hid (U4.out.trans upa)
  have X5 := Lib.hid (Blk.new w5 23 (secC (bytesL (oneN n q))))
  have d0 := upa.cell d0
  have d1 := upa.cell d1
  have d2 := upa.cell d2
  clear up5 upa M4 U4
  go_wp2_with (first
    | (refine wpList_alloc_blk rfl 23 rfl (secC zeroS) zero_sec ?_)
    | (refine wpList_store_new (w := w5) rfl 23 (.tmp 6) (.tmp 33) rfl w5.heap.size rfl (secC (bytesL (oneN n q))) rfl rfl 23 (secC zeroS) S1.out Z1.out (secC_one _) ?_))
  refine (PB.out _).mono ?_
  rintro e w7 (⟨_, v7, rfl, ho7, up7⟩ | ⟨hno, _⟩)
  case inr => cases hno
  have M7 := Lib.hid (M5.out.up up7)
  have U7 := Lib.hid (U5.out.trans up7)
  have X7 := Lib.hid (X5.out.up up7)
  have d0 := up7.cell d0
  have d1 := up7.cell d1
  have d2 := up7.cell d2
  obtain ⟨g, cap, rfl, _, hgs, hcell, _, _⟩ := ho7.row (by rw [PLN.out]; omega)
  have HC := Lib.hid hcell
  have hp16 := PLN.out
  unfold ptrBytes at hp16
  clear up7 M5 U5 X5 ho7 hcell
  go_wp2_with fail
  have x0 := cell_regrown d0
  have x1 := cell_regrown d1
  have x2 := cell_regrown d2
  clear d0 d1 d2
  have PE' := PE.out
  refine wp_region_quiet_below (by kernel_rfl) (by kernel_rfl) ?_
  repeat (first
    | (go_big_quiet_want; refine quiet_load_blk 31 (.tmp 5) rfl w2.heap.size rfl 31 _ M7.out.cls _ Try.underlying31 rfl HM.out ?_; go_big_quiet_on; go_simp)
    | (go_big_quiet_step ((go_at_call 11; exact Calls.regrown_of (EM.out _)))))
  refine wpQuiet_nil ?_
  intro p
  obtain ⟨w8, hw8⟩ : ∃ x, x = grow (redrawn w7 p.d) p.os := ⟨_, rfl⟩
  rw [← hw8]
  have up8 : Up w7 w8 := by rw [hw8]; exact below_regrown _ _ _
  rw [PLN.out]
  have U8 := Lib.hid (U7.out.trans up8)
  have X8 := Lib.hid (X7.out.up up8)
  have C8 := Lib.hid (fun i (h : i < (ptrBytes q).length) => up8.cell (HC.out i h))
  clear hw8 x0 x1 x2 up8 X7 U7 HC M7 PE' hp16 hgs
  go_wp2_with (refine wpList_load_blk rfl 23 (.tmp 6) rfl w5.heap.size rfl 23 _ X8.out _ Try.underlying23 rfl S1.out ?_)
  go_loop [55] (fun i => ∃ k : Nat, k ≤ 128 ∧ i = .int .i64 k) (fun i => 128 - (intOf i).toNat)
  case atStart => exact ⟨0, Nat.zero_le _, rfl⟩
  case round =>
    obtain ⟨k, hk, rfl⟩ := hrel
    by_cases hlt : k < 128
    · have hkl : k < (bytesL (oneN n q)).length := by rw [HBL.out]; exact hlt
      have b2 : ((k : Int) < 128) = True := by simp; omega
      have IX' := IX.out k hkl
      have OK := OA.out k hlt hkl
      have hm16 : k % 16 < (ptrBytes q).length := by rw [PLN.out]; omega
      have h0 := C8.out (k % 16) hm16
      have dv : (k : Int) / 16 = ((k / 16 : Nat) : Int) := by omega
      have rm : (k : Int) % 16 = ((k % 16 : Nat) : Int) := by omega
      obtain ⟨r, hr⟩ : ∃ r, r = k % 16 := ⟨_, rfl⟩
      obtain ⟨d, hd⟩ : ∃ d, d = k / 16 := ⟨_, rfl⟩
      have hr16 : r < 16 := by omega
      rw [← hr] at rm
      rw [← hd] at dv
      by_cases e : d = n
      · rw [if_pos (by omega)] at OK
        rw [OK] at IX'
        simp only [← hr] at IX' h0
        have tt : (((d : Nat) : Int) == (n : Int)) = true := by simp; omega
        have OKh := Lib.hid OK
        generalize (ptrBytes q)[r]'_ = c at *
        have cc : (((c.toNat : Nat) : Int) != ((c.toNat : Nat) : Int)) = false := by simp
        unfold byteCell at h0
        clear OK hr hd e hm16
        go_wp2_with fail
        go_round
        case rel => exact ⟨k + 1, by omega, by go_num⟩
        case measure => simp [intOf]; omega
      · rw [if_neg (by omega)] at OK
        rw [OK] at IX'
        have tt : (((d : Nat) : Int) == (n : Int)) = false := by simp; omega
        have z0 : (((0 : UInt8).toNat : Nat) : Int) = 0 := rfl
        rw [z0] at IX'
        clear OK hr hd e hm16 h0 z0
        go_wp2_with fail
        go_round
        case rel => exact ⟨k + 1, by omega, by go_num⟩
        case measure => simp [intOf]; omega
    · obtain rfl : k = 128 := by omega
      have b2 : ((128 : Nat) : Int) = 128 := rfl
      go_wp2_with fail
      go_ret
      exact ⟨rfl, U8.out⟩
end Go.Proofs.Ytkfdbhgalkgnkaa
