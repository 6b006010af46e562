/- UberSpoils: the walk. -/
import Derived.Test.YtgmdhedabmkcoaaUbO
set_option linter.unusedSimpArgs false
set_option linter.unusedVariables false
namespace Go.Proofs.Ytgmdhedabmkcoaa
open Go.RowKit Go.Sort

set_option maxRecDepth 100000 in
set_option maxHeartbeats 16000000 in
theorem uberSpoils_walk (w : World) (l : List UbD) (hl : l.length = 4) (hwf : ∀ x ∈ l, x.wf) (i : Int) (hi : -9223372036854775808 ≤ i ∧ i ≤ 9223372036854775807) (s : List UInt8) (hs : s.length = 128) :
    Calls Try.prog 7 #[.agg (quadC l), .int .i64 i, .agg (secC s)] w fun e w' => e = .returned (.bool true) ∧ Up w w' := by
  have UA := up_alloc w (.cells (quadC l) 53)
  have UA2 := up_alloc (w.alloc (.cells (quadC l) 53)) (.cells (secC s) 34)
  have B3 := Lib.hid ((Blk.new w 53 (quadC l)).up UA2)
  have bs := Blk.new (w.alloc (.cells (quadC l) 53)) 34 (secC s)
  rw [sz_alloc] at bs
  have B5 := Lib.hid bs
  have UW := Lib.hid (UA.trans UA2)
  have HL := Lib.hid hl
  have HWF := Lib.hid hwf
  have HIQ := Lib.hid (info_quad l hl)
  have HIS := Lib.hid (show (Try.prog.info? 34).map (·.size) = some (secC s).size by rw [secC_size, hs]; exact info_sec)
  have AL := Lib.hid uberAlive_any
  have NW := Lib.hid (fun W => dnew_any W 4 (by omega))
  obtain ⟨S, hS⟩ : ∃ S : Sec, S.val = s := ⟨⟨s, hs⟩, rfl⟩
  have HSS := Lib.hid hS
  have HIB := Lib.hid hi
  have C3 := Lib.hid (fun W => uread_any W s hs)
  unfold URead at C3
  clear UA UA2 bs hl hwf hs hS hi
  go_enter Try.func7, Try.ntmps7
  go_wp2_with fail
  refine (AL.out _).mono ?_
  rintro e w2 ⟨rfl, U2⟩
  have B3 := Lib.hid (B3.out.up U2)
  have B5 := Lib.hid (B5.out.up U2)
  have UW := Lib.hid (UW.out.trans U2)
  have S2 := Lib.hid (show w.heap.size + 1 < w2.heap.size from B5.out.lt)
  clear U2 AL
  by_cases h0 : i < 0
  · have b1 : (i < 0) = True := by simp; omega
    go_wp2_with fail
    go_ret
    exact ⟨rfl, UW.out⟩
  have b1 : (i < 0) = False := by simp; omega
  by_cases h3 : 3 < i
  · have b2 : ((3 : Int) < i) = True := by simp; omega
    go_wp2_with fail
    go_ret
    exact ⟨rfl, UW.out⟩
  have b2 : ((3 : Int) < i) = False := by simp; omega
  obtain ⟨n, rfl⟩ := Int.eq_ofNat_of_zero_le (show 0 ≤ i by omega)
  have HN := Lib.hid (show n < 4 by omega)
  clear h0 h3
  go_wp2_with fail
  refine (NW.out _).mono ?_
  rintro e w3 ⟨h, rfl, D3, U3, F3⟩
  have A3 := Lib.hid (show DevAt w2 w3 h _ from ⟨D3, U3, F3⟩)
  clear D3 U3 F3 NW
  have B3' := Lib.hid (B3.out.up A3.out.up)
  go_wp2_with (first
    | ((with_reducible refine wg_load 53 (.tmp 3) ?_); refine wpList_load_blkG rfl 53 (.tmp 3) rfl w.heap.size rfl 53 _ B3'.out _ Try.underlying53 rfl HIQ.out ?_))
  go_loopw [34] (fun i wr => ∃ (k : Nat) (vp : Value) (v : DevD), k ≤ 4 ∧ i = .int .i64 k ∧ DevAt w2 wr { h with vp := vp } v ∧ Live4 v k) (fun i _ => 4 - (intOf i).toNat)
  case atStart => exact ⟨0, h.vp, _, by omega, rfl, A3.out, live_new⟩
  case round =>
    obtain ⟨k, vp, v, hk, rfl, ar, lv⟩ := hrel
    have AR := Lib.hid ar
    have LV := Lib.hid lv
    clear ar lv A3 B3'
    obtain ⟨h6, hh6⟩ : ∃ x : Hnd, x = { h with vp := vp } := ⟨_, rfl⟩
    have HD6 := Lib.hid (show h6.d = h.d by rw [hh6])
    have HH6 := Lib.hid hh6
    rw [← hh6] at AR
    clear hh6
    by_cases hlt : k < 4
    · have b3 : ((k : Int) < 4) = True := by simp; omega
      have hkl : k < l.length := by rw [HL.out]; exact hlt
      have IX := fun W => index_quad l HL.out k hkl W
      have C1 := Lib.hid (fun W => ubytes_any W l[k] (HWF.out _ (List.getElem_mem hkl)))
      have LW := Lib.hid (fun s => LV.out.write hlt s)
      generalize l[k] = x at *
      clear hkl
      have UX := up_alloc wr (.cells (uC x) 27)
      have BX := Lib.hid (Blk.new wr 27 (uC x))
      go_wp2_with (first
        | ((with_reducible refine wg_alloc 27 ?_); refine wpList_alloc_blk rfl 27 rfl (uC zUb) zero_ub ?_)
        | ((with_reducible refine wg_store 27 (.tmp 9) (.tmp 37) ?_); refine ws_new wr rfl 27 (.tmp 9) (.tmp 37) rfl (uC x) 27 (uC zUb) rfl rfl rfl (info_uV x) rfl (uC_one x) ?_)
        | ((with_reducible refine wg_load 27 (.tmp 9) ?_); refine wpList_load_blkG rfl 27 (.tmp 9) rfl wr.heap.size rfl 27 _ BX.out _ Try.underlying27 rfl (info_uV x) ?_))
      refine (C1.out _).mono ?_
      rintro e w5 ⟨rfl, U5⟩
      have HIX := Lib.hid (info_secU (ubV x))
      have HZX := Lib.hid (show (secC zeroS).size = (secC (ubV x).val).size by rw [secC_size, secC_size, (ubV x).property]; rfl)
      have UX := (UX.trans U5).trans (up_alloc w5 (.cells (secC (ubV x).val) 34))
      have A6 := Lib.hid (AR.out.upTo UX)
      have B6 := Lib.hid (Blk.new w5 34 (secC (ubV x).val))
      clear UX U5 C1 BX AR
      cases hr : rightU x
      · have HE : ubE x = 61 := by unfold ubE; rw [hr]; rfl
        rw [HE]
        clear HE hr
        generalize ubV x = X at *
        go_wp2_with (first
          | ((with_reducible refine wg_alloc 34 ?_); refine wpList_alloc_blk rfl 34 rfl (secC zeroS) zero_sec ?_)
          | ((with_reducible refine wg_store 34 (.tmp 10) (.tmp 41) ?_); refine ws_new w5 rfl 34 (.tmp 10) (.tmp 41) rfl (secC X.val) 34 (secC zeroS) rfl rfl rfl HIX.out HZX.out (secC_one X.val) ?_))
        go_roundw
        case rel => exact ⟨k + 1, vp, v, by omega, by go_num, by rw [← HH6.out]; exact A6.out, LV.out.mono (by omega)⟩
        case measure => simp [intOf]; omega
      · have HE : ubE x = 0 := by unfold ubE; rw [hr]; rfl
        rw [HE]
        clear HE hr
        generalize ubV x = X at *
        have DW := dwrite_any _ h6 v A6.out.dv (k : Int) (by omega) X (by have := LV.out.pend; omega)
        rw [HD6.out] at DW
        have DW := Lib.hid DW
        go_wp2_with (first
          | ((with_reducible refine wg_alloc 34 ?_); refine wpList_alloc_blk rfl 34 rfl (secC zeroS) zero_sec ?_)
          | ((with_reducible refine wg_store 34 (.tmp 10) (.tmp 41) ?_); refine ws_new w5 rfl 34 (.tmp 10) (.tmp 41) rfl (secC X.val) 34 (secC zeroS) rfl rfl rfl HIX.out HZX.out (secC_one X.val) ?_)
          | ((with_reducible refine wg_load 34 (.tmp 10) ?_); refine wpList_load_blkG rfl 34 (.tmp 10) rfl w5.heap.size rfl 34 _ B6.out _ Try.underlying34 rfl HIX.out ?_))
        refine DW.out.mono ?_
        rintro e w7 ⟨rfl, T7⟩
        obtain ⟨vp7, A7, _, _⟩ := dev_turned A6.out T7
        have A7 := Lib.hid A7
        have L7 := Lib.hid (LW.out X)
        clear T7 A6 DW
        generalize v.writeE (k : Int) = we at *
        go_wp2_with fail
        go_roundw
        case rel => exact ⟨k + 1, vp7, _, by omega, by go_num, by have := A7.out; rw [HH6.out] at this; exact this, L7.out⟩
        case measure => simp [intOf]; omega
    · obtain rfl : k = 4 := by omega
      have b3 : (((4 : Nat) : Int) < 4) = False := by simp
      have LC := list_any wr h6 v AR.out.dv
      rw [HD6.out] at LC
      unfold ListPost at LC
      have LC := Lib.hid LC
      clear hlt hk
      go_wp2_with fail
      refine LC.out.mono ?_
      rintro e w8 ⟨a8, n8, c8, rfl, R8, O8, D8, T8⟩
      have A8 := Lib.hid (AR.out.touch D8 T8)
      obtain ⟨a8', c8', e8⟩ := R8.slice
      simp only [Value.slice.injEq] at e8
      obtain ⟨rfl, rfl, rfl⟩ := e8
      have R8 := Lib.hid R8
      have O8 := Lib.hid (show ∀ b, Value.ownBlock (.slice a8 v.ringU.length c8) = some b → ¬ Foot h6 b from fun b hb hf => by
        have h1 := O8 b hb
        have h2 := AR.out.dv.foot_lt b hf
        omega)
      have L8 := Lib.hid (LV.out.counts 4)
      have KEEP := Lib.hid (fun u (hu : u ∈ v.ringU) (hne : u.txg % 4 ≠ n) => spoil_keep L8.out HN.out S (show u ∈ (v.counts 4).ringU by rw [counts_ring]; exact hu) hne)
      have SOME := Lib.hid (fun (u : UbD) h1 h2 => spoil_some L8.out HN.out S (u := u) h1 h2)
      have DR := drot_any w8 h6 _ A8.out.dv (n : Int) HIB.out S (by have := L8.out.pend; omega)
      rw [HD6.out, HSS.out, L8.out.rotE HN.out] at DR
      have DR := Lib.hid DR
      have B58 := Lib.hid (B5.out.up A8.out.up)
      clear D8 T8 AR LC
      have m1l := ring_length v
      generalize hm1 : v.ringU = m1 at *
      clear hm1
      generalize hr1 : (v.counts 4).rotted (n : Int) S = r1 at *
      clear hr1
      go_wp2_with (first
        | ((with_reducible refine wg_load 34 (.tmp 5) ?_); refine wpList_load_blkG rfl 34 (.tmp 5) rfl (w.heap.size + 1) rfl 34 _ B58.out _ Try.underlying34 rfl HIS.out ?_))
      refine DR.out.mono ?_
      rintro e w9 ⟨rfl, D9, T9⟩
      have A9 := Lib.hid (A8.out.touch D9 T9)
      have R9 := Lib.hid (R8.out.touch T9 O8.out)
      have LC := list_any w9 h6 _ A9.out.dv
      rw [HD6.out] at LC
      unfold ListPost at LC
      have LC := Lib.hid LC
      clear D9 T9 A8 R8 DR B58
      go_wp2_with fail
      refine LC.out.mono ?_
      rintro e w10 ⟨a2, n2, c2, rfl, R2, O2, D2, T2⟩
      have A10 := Lib.hid (A9.out.touch D2 T2)
      have R1 := Lib.hid (R9.out.touch T2 O8.out)
      obtain ⟨a2', c2', e2⟩ := R2.slice
      simp only [Value.slice.injEq] at e2
      obtain ⟨rfl, rfl, rfl⟩ := e2
      have R2 := Lib.hid R2
      have B510 := Lib.hid (B5.out.up A10.out.up)
      have UW := Lib.hid (UW.out.trans A10.out.up)
      have NONE := Lib.hid (fun h => spoil_none (v := r1) (s := S) h)
      clear D2 T2 A9 R9 LC O8 O2 A10 B5 B3 LV L8 HH6 HD6
      rw [HSS.out] at NONE SOME
      have RS := Lib.hid (show uread s = some ((uread s).getD zUb) ↔ (uread s).isSome = true from by cases uread s <;> simp)
      have RN := Lib.hid (show uread s = none ↔ (uread s).isSome = false from by cases uread s <;> simp)
      obtain ⟨u0, hu0⟩ : ∃ x, x = (uread s).getD zUb := ⟨_, rfl⟩
      obtain ⟨ok, hok⟩ : ∃ x, x = (uread s).isSome := ⟨_, rfl⟩
      rw [← hok] at RS RN C3
      rw [← hu0] at RS NONE C3
      have NONE := Lib.hid (fun h => NONE.out (RN.out.2 h))
      have SOME := Lib.hid (fun h h2 => SOME.out u0 (RS.out.2 h) h2)
      clear RS RN hu0 hok
      have m2l := ring_length r1
      generalize r1.ringU = m2 at *
      go_wp2_with fail
      go_loopw [61] (fun i wr => ∃ k : Nat, k ≤ m1.length ∧ i = .int .i64 k ∧ Up w10 wr) (fun i _ => m1.length - (intOf i).toNat)
      case atStart => exact ⟨0, Nat.zero_le _, rfl, Up.refl _⟩
      case round =>
        obtain ⟨k, hk, rfl, upr⟩ := hrel
        obtain ⟨w11, hw11⟩ : ∃ x, x = wr := ⟨_, rfl⟩
        subst hw11
        have UB1 := Lib.hid upr
        clear upr
        by_cases hlt : k < m1.length
        · have b4 : ((k : Int) < (m1.length : Int)) = True := by simp; omega
          obtain ⟨sb, so, rfl, _, sg⟩ := ubs_at R1.out (by omega)
          have RY := Lib.hid (show w11.rangeAt sb (so + k * 7) (uC m1[k]).toList from fun jj u hjj => UB1.out.cell (sg k hlt jj u hjj))
          have HY := Lib.hid (List.getElem_mem hlt)
          clear sg
          generalize m1[k] = y at *
          have BY := Lib.hid (Blk.new w11 27 (uC y))
          have UO := Lib.hid (UB1.out.trans (up_alloc w11 (.cells (uC y) 27)))
          have UB2 := Lib.hid UO.out
          go_wp2_with (first
            | ((with_reducible refine wg_load 27 (.tmp 63) ?_); refine wl_part rfl 27 (.tmp 63) rfl sb (so + k * 7) rfl (uC y) RY.out _ Try.underlying27 rfl (info_uV y) ?_)
            | ((with_reducible refine wg_alloc 27 ?_); refine wpList_alloc_blk rfl 27 rfl (uC zUb) zero_ub ?_)
            | ((with_reducible refine wg_store 27 (.tmp 15) (.tmp 64) ?_); refine ws_new w11 rfl 27 (.tmp 15) (.tmp 64) rfl (uC y) 27 (uC zUb) rfl rfl rfl (info_uV y) rfl (uC_one y) ?_))
          go_loopw [16, 67] (fun f i wr => ∃ j : Nat, j ≤ m2.length ∧ i = .int .i64 j ∧ f = .bool (decide (y ∈ m2.take j)) ∧ Up (w11.alloc (.cells (uC y) 27)) wr) (fun _ i _ => m2.length - (intOf i).toNat)
          case atStart => exact ⟨0, Nat.zero_le _, rfl, by simp, Up.refl _⟩
          case round =>
            obtain ⟨j, hj, rfl, rfl, upr⟩ := hrel
            have UI := Lib.hid upr
            clear upr
            by_cases hlt : j < m2.length
            · have b3 : ((j : Int) < (m2.length : Int)) = True := by simp; omega
              obtain ⟨eg, eo, rfl, _, rg⟩ := ubs_at R2.out (by omega)
              have RA := Lib.hid (fun jj u hjj => (UB2.out.trans UI.out).cell (rg j hlt jj u hjj))
              have RA : Hid (wr.rangeAt eg (eo + j * 7) (uC m2[j]).toList) := RA
              have TK := Lib.hid (take_mem (y := y) hlt)
              have M2 := Lib.hid (show m2[j] = m2[j] from rfl)
              clear rg M2
              generalize m2[j] = z at *
              have BZ := Lib.hid (Blk.new wr 27 (uC z))
              have UZ := up_alloc wr (.cells (uC z) 27)
              have BO := Lib.hid (BY.out.up (UI.out.trans UZ))
              have UN := Lib.hid (UI.out.trans UZ)
              clear UZ
              cases hin : decide (y ∈ m2.take j)
              · have EQ : ∀ W : World, (Op.equalIn 10000 27 (.agg (uC y)) (.agg (uC z))).run Try.prog W = .ok (decide (y = z)) W := fun W => by rw [ub_eq]
                rw [hin, Bool.false_or] at TK
                clear hin
                generalize decide (y = z) = bq at *
                go_wp2_with (first
                  | ((with_reducible refine wg_load 27 (.tmp 69) ?_); refine wl_part rfl 27 (.tmp 69) rfl eg (eo + j * 7) rfl (uC z) RA.out _ Try.underlying27 rfl (info_uV z) ?_)
                  | ((with_reducible refine wg_alloc 27 ?_); refine wpList_alloc_blk rfl 27 rfl (uC zUb) zero_ub ?_)
                  | ((with_reducible refine wg_store 27 (.tmp 18) (.tmp 70) ?_); refine ws_new wr rfl 27 (.tmp 18) (.tmp 70) rfl (uC z) 27 (uC zUb) rfl rfl rfl (info_uV z) rfl (uC_one z) ?_)
                  | ((with_reducible refine wg_loadD 73 27 (.tmp 15) ?_); refine wpList_load_blkG rfl 27 (.tmp 15) rfl w11.heap.size rfl 27 _ BO.out _ Try.underlying27 rfl (info_uV y) ?_)
                  | ((with_reducible refine wg_loadD 74 27 (.tmp 18) ?_); refine wpList_load_blkG rfl 27 (.tmp 18) rfl wr.heap.size rfl 27 _ BZ.out _ Try.underlying27 rfl (info_uV z) ?_))
                go_roundw
                case rel => exact ⟨j + 1, by omega, by go_num, by rw [TK.out], UN.out⟩
                case measure => simp [intOf]; omega
              · rw [hin, Bool.true_or] at TK
                clear hin
                go_wp2_with (first
                  | ((with_reducible refine wg_load 27 (.tmp 69) ?_); refine wl_part rfl 27 (.tmp 69) rfl eg (eo + j * 7) rfl (uC z) RA.out _ Try.underlying27 rfl (info_uV z) ?_)
                  | ((with_reducible refine wg_alloc 27 ?_); refine wpList_alloc_blk rfl 27 rfl (uC zUb) zero_ub ?_)
                  | ((with_reducible refine wg_store 27 (.tmp 18) (.tmp 70) ?_); refine ws_new wr rfl 27 (.tmp 18) (.tmp 70) rfl (uC z) 27 (uC zUb) rfl rfl rfl (info_uV z) rfl (uC_one z) ?_))
                go_roundw
                case rel => exact ⟨j + 1, by omega, by go_num, by rw [TK.out], UN.out⟩
                case measure => simp [intOf]; omega
            · obtain rfl : j = m2.length := by omega
              have b3 : ((m2.length : Int) < (m2.length : Int)) = False := by simp
              rw [List.take_of_length_le (Nat.le_refl _)]
              have BO := Lib.hid (BY.out.up UI.out)
              obtain ⟨c0, _, _, _, _, _⟩ := uC_at BO.out
              clear hlt hj
              have UE := Lib.hid (UO.out.trans UI.out)
              have HK := Lib.hid (KEEP.out y HY.out)
              have wq := wrap_i64_nat (y.txg % 4) (by omega)
              rw [show ((y.txg % 4 : Nat) : Int) = (y.txg : Int) % 4 by omega] at wq
              cases hin : decide (y ∈ m2)
              · have hm : y.txg % 4 = n := by
                  have := of_decide_eq_false hin
                  exact Classical.byContradiction fun h => this (HK.out h)
                have bn : ((y.txg : Int) % 4 != (n : Int)) = false := by simp; omega
                clear hin hm
                go_wp2_with fail
                go_roundw
                case rel => exact ⟨k + 1, by omega, by go_num, UE.out⟩
                case measure => simp [intOf]; omega
              · clear hin
                go_wp2_with fail
                go_roundw
                case rel => exact ⟨k + 1, by omega, by go_num, UE.out⟩
                case measure => simp [intOf]; omega
        · obtain rfl : k = m1.length := by omega
          have b4 : ((m1.length : Int) < (m1.length : Int)) = False := by simp
          have B511 := Lib.hid (B510.out.up UB1.out)
          go_wp2_with (first
            | ((with_reducible refine wg_load 34 (.tmp 5) ?_); refine wpList_load_blkG rfl 34 (.tmp 5) rfl (w.heap.size + 1) rfl 34 _ B511.out _ Try.underlying34 rfl HIS.out ?_))
          refine (C3.out _).mono ?_
          rintro e w12 ⟨rfl, U12⟩
          have UZ := UB1.out.trans (U12.trans (up_alloc w12 (.cells (uC u0) 27)))
          have BU := Lib.hid (Blk.new w12 27 (uC u0))
          have UB2 := Lib.hid UZ
          have UW := Lib.hid (UW.out.trans UZ)
          clear UZ U12 C3
          go_wp2_with (first
            | ((with_reducible refine wg_alloc 27 ?_); refine wpList_alloc_blk rfl 27 rfl (uC zUb) zero_ub ?_)
            | ((with_reducible refine wg_store 27 (.tmp 19) (.tmp 92) ?_); refine ws_new w12 rfl 27 (.tmp 19) (.tmp 92) rfl (uC u0) 27 (uC zUb) rfl rfl rfl (info_uV u0) rfl (uC_one u0) ?_))
          go_loopw [21, 96] (fun f i wr => ∃ j : Nat, j ≤ m2.length ∧ i = .int .i64 j ∧ f = .bool (decide (u0 ∈ m2.take j)) ∧ Up (w12.alloc (.cells (uC u0) 27)) wr) (fun _ i _ => m2.length - (intOf i).toNat)
          case atStart => exact ⟨0, Nat.zero_le _, rfl, by simp, Up.refl _⟩
          case round =>
            obtain ⟨j, hj, rfl, rfl, upr⟩ := hrel
            have UI := Lib.hid upr
            clear upr
            by_cases hlt : j < m2.length
            · have b3 : ((j : Int) < (m2.length : Int)) = True := by simp; omega
              obtain ⟨eg, eo, rfl, _, rg⟩ := ubs_at R2.out (by omega)
              have RA := Lib.hid (fun jj u hjj => (UB2.out.trans UI.out).cell (rg j hlt jj u hjj))
              have RA : Hid (wr.rangeAt eg (eo + j * 7) (uC m2[j]).toList) := RA
              have TK := Lib.hid (take_mem (y := u0) hlt)
              have M2 := Lib.hid (show m2[j] = m2[j] from rfl)
              clear rg M2
              generalize m2[j] = z at *
              have BZ := Lib.hid (Blk.new wr 27 (uC z))
              have UZ := up_alloc wr (.cells (uC z) 27)
              have BO := Lib.hid (BU.out.up (UI.out.trans UZ))
              have UN := Lib.hid (UI.out.trans UZ)
              clear UZ
              cases hin : decide (u0 ∈ m2.take j)
              · have EQ : ∀ W : World, (Op.equalIn 10000 27 (.agg (uC z)) (.agg (uC u0))).run Try.prog W = .ok (decide (u0 = z)) W := fun W => by rw [ub_eq]; congr 1; exact decide_eq_decide.2 eq_comm
                rw [hin, Bool.false_or] at TK
                clear hin
                generalize decide (u0 = z) = bq at *
                go_wp2_with (first
                  | ((with_reducible refine wg_load 27 (.tmp 98) ?_); refine wl_part rfl 27 (.tmp 98) rfl eg (eo + j * 7) rfl (uC z) RA.out _ Try.underlying27 rfl (info_uV z) ?_)
                  | ((with_reducible refine wg_alloc 27 ?_); refine wpList_alloc_blk rfl 27 rfl (uC zUb) zero_ub ?_)
                  | ((with_reducible refine wg_store 27 (.tmp 23) (.tmp 99) ?_); refine ws_new wr rfl 27 (.tmp 23) (.tmp 99) rfl (uC z) 27 (uC zUb) rfl rfl rfl (info_uV z) rfl (uC_one z) ?_)
                  | ((with_reducible refine wg_loadD 102 27 (.tmp 23) ?_); refine wpList_load_blkG rfl 27 (.tmp 23) rfl wr.heap.size rfl 27 _ BZ.out _ Try.underlying27 rfl (info_uV z) ?_)
                  | ((with_reducible refine wg_loadD 103 27 (.tmp 19) ?_); refine wpList_load_blkG rfl 27 (.tmp 19) rfl w12.heap.size rfl 27 _ BO.out _ Try.underlying27 rfl (info_uV u0) ?_))
                go_roundw
                case rel => exact ⟨j + 1, by omega, by go_num, by rw [TK.out], UN.out⟩
                case measure => simp [intOf]; omega
              · rw [hin, Bool.true_or] at TK
                clear hin
                go_wp2_with (first
                  | ((with_reducible refine wg_load 27 (.tmp 98) ?_); refine wl_part rfl 27 (.tmp 98) rfl eg (eo + j * 7) rfl (uC z) RA.out _ Try.underlying27 rfl (info_uV z) ?_)
                  | ((with_reducible refine wg_alloc 27 ?_); refine wpList_alloc_blk rfl 27 rfl (uC zUb) zero_ub ?_)
                  | ((with_reducible refine wg_store 27 (.tmp 23) (.tmp 99) ?_); refine ws_new wr rfl 27 (.tmp 23) (.tmp 99) rfl (uC z) 27 (uC zUb) rfl rfl rfl (info_uV z) rfl (uC_one z) ?_))
                go_roundw
                case rel => exact ⟨j + 1, by omega, by go_num, by rw [TK.out], UN.out⟩
                case measure => simp [intOf]; omega
            · obtain rfl : j = m2.length := by omega
              have b3 : ((m2.length : Int) < (m2.length : Int)) = False := by simp
              rw [List.take_of_length_le (Nat.le_refl _)]
              have BO := Lib.hid (BU.out.up UI.out)
              obtain ⟨c0, _, _, _, _, _⟩ := uC_at BO.out
              clear hlt hj
              have UE := Lib.hid (UW.out.trans UI.out)
              have wq := wrap_i64_nat (u0.txg % 4) (by omega)
              rw [show ((u0.txg % 4 : Nat) : Int) = (u0.txg : Int) % 4 by omega] at wq
              cases hok : ok
              · have hin : decide (u0 ∈ m2) = false := decide_eq_false (NONE.out hok)
                rw [hin]
                go_wp2_with fail
                go_ret
                exact ⟨rfl, UE.out⟩
              · by_cases hm : u0.txg % 4 = n
                · have hin : decide (u0 ∈ m2) = true := decide_eq_true (SOME.out hok hm)
                  have bq : ((u0.txg : Int) % 4 == (n : Int)) = true := by simp; omega
                  rw [hin]
                  clear hm
                  go_wp2_with fail
                  go_ret
                  exact ⟨rfl, UE.out⟩
                · have bq : ((u0.txg : Int) % 4 == (n : Int)) = false := by simp; omega
                  have bn : ((u0.txg : Int) % 4 != (n : Int)) = true := by simp; omega
                  clear hm
                  cases hin : decide (u0 ∈ m2)
                  · go_wp2_with fail
                    go_ret
                    exact ⟨rfl, UE.out⟩
                  · go_wp2_with fail
                    go_ret
                    exact ⟨rfl, UE.out⟩

end Go.Proofs.Ytgmdhedabmkcoaa
