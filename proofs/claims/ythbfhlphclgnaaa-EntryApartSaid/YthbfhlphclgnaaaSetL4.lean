/- EntryApart: the walk. -/
import Derived.Test.YthbfhlphclgnaaaSetHU
set_option linter.unusedSimpArgs false
set_option linter.unusedVariables false
namespace Go.Proofs.Ythbfhlphclgnaaa
open Go.RowKit Go.Sort

/-- A row of pointers of the call's own in which each sector's number may be written. -/
def Writable (w : World) (base : Nat) (a : Option Addr) (n : Nat) : Prop :=
  0 < n → ∃ g, a = some ⟨g, 0, none⟩ ∧ base ≤ g ∧ ∃ cur, Blk w g 41 cur ∧ ∀ i, i < n → ∃ z : Int, cur[i * 3]? = some (.int .i64 z)
theorem ptrs_writable {w : World} {base : Nat} {a : Option Addr} {n c : Nat} {l : List PtrD} (h : OwnPtrs w base (.slice a n c) l) : Writable w base a l.length := by
  intro h0
  have hr := OwnRow.row h pw
  obtain ⟨_, h2⟩ := h
  rcases h2 with ⟨hv, h3⟩ | ⟨g, cap, cur, hv, hg, hh, _⟩
  · omega
  · simp only [Value.slice.injEq] at hv
    obtain ⟨rfl, rfl, rfl⟩ := hv
    refine ⟨g, rfl, hg, cur, hh, fun i hi => ?_⟩
    obtain ⟨b, off, hb, _, _, hc⟩ := IsRow.get hr pw h0
    simp only [Option.some.injEq, Addr.mk.injEq, and_true] at hb
    obtain ⟨rfl, rfl⟩ := hb
    have := hc i hi 0 _ rfl
    rw [Blk.cell (t := 41) (C := cur) hh] at this
    exact ⟨_, by simpa using this⟩
theorem writable_set {w : World} {base : Nat} {g n : Nat} {cur : Array Value} (h : Writable w base (some ⟨g, 0, none⟩) n) (hb : Blk w g 41 cur) (_ : (0 : Nat) = 0) (j : Nat) (hj : j < n) (z : Int) : Writable (w.setCell ⟨g, j * 3, none⟩ (.int .i64 z)) base (some ⟨g, 0, none⟩) n := by
  intro h0
  obtain ⟨g', he, hg, cur', hb', hz⟩ := h h0
  simp only [Option.some.injEq, Addr.mk.injEq, and_true] at he
  subst he
  have hcc : cur' = cur := by
    have := hb'.symm.trans hb
    simp at this
    exact this
  subst hcc
  refine ⟨g, rfl, hg, _, hb.setCell (j * 3) _, fun i hi => ?_⟩
  by_cases hij : i = j
  · subst hij
    obtain ⟨y, hy⟩ := hz i hi
    have hlt : i * 3 < cur'.size := by
      rcases Nat.lt_or_ge (i * 3) cur'.size with h | h
      · exact h
      · rw [Array.getElem?_eq_none h] at hy; cases hy
    exact ⟨z, by rw [Array.getElem?_setIfInBounds_self_of_lt hlt]⟩
  · obtain ⟨y, hy⟩ := hz i hi
    exact ⟨y, by rw [Array.getElem?_setIfInBounds_ne (by omega)]; exact hy⟩

set_option maxRecDepth 100000 in
set_option maxHeartbeats 16000000 in
theorem entryApart_walk (w : World) (next : Nat) (hn : next < 18446744073709551616) (v : Value) (l : List SetD) (hv : IsSets w v l) (hwf : ∀ x ∈ l, x.wf) (hr : ∀ x ∈ l, x.dead.length * 24 ≤ 140737488351232)
    (u : Value) (m : List SetD) (hu : IsSets w u m) (hwf2 : ∀ x ∈ m, x.wf) (hr2 : ∀ x ∈ m, x.dead.length * 24 ≤ 140737488351232) :
    Calls Try.prog 7 #[.int .u64 (next : Int), v, u] w fun e w' => e = .returned (.bool true) ∧ Up w w' := by
  obtain ⟨la, lc, rfl⟩ := hv.slice
  obtain ⟨ma, mc, rfl⟩ := hu.slice
  have HV := Lib.hid hv
  have HU := Lib.hid hu
  have HWF := Lib.hid hwf
  have HWF2 := Lib.hid hwf2
  have HR := Lib.hid hr
  have AL := Lib.hid (entryAlive_any w)
  clear hv hwf hr hu hwf2 hr2
  by_cases h40 : 40 < l.length
  · have b1 : ((40 : Int) < (l.length : Int)) = True := by simp; omega
    go_enter Try.func7, Try.ntmps7
    go_wp2_with fail
    refine AL.out.mono ?_
    rintro e w2 ⟨rfl, U2⟩
    go_wp2_with fail
    go_ret
    exact ⟨rfl, U2⟩
  have b1 : ((40 : Int) < (l.length : Int)) = False := by simp; omega
  by_cases h41 : 40 < m.length
  · have b2 : ((40 : Int) < (m.length : Int)) = True := by simp; omega
    go_enter Try.func7, Try.ntmps7
    go_wp2_with fail
    refine AL.out.mono ?_
    rintro e w2 ⟨rfl, U2⟩
    go_wp2_with fail
    go_ret
    exact ⟨rfl, U2⟩
  have b2 : ((40 : Int) < (m.length : Int)) = False := by simp; omega
  go_enter Try.func7, Try.ntmps7
  go_wp2_with fail
  refine AL.out.mono ?_
  rintro e w2 ⟨rfl, U2⟩
  have U2 := Lib.hid U2
  have BS := Lib.hid (setsBytes_any w2 next hn _ l (HV.out.up U2.out) HWF.out)
  go_wp2_with fail
  refine BS.out.mono ?_
  rintro e w3 hb
  have SB := Lib.hid (fun W U => setsBytes_any W next hn _ m (HU.out.up U) HWF2.out)
  rcases hb with ⟨hno, rfl, U3⟩ | ⟨p, v5, hsome, rfl, O5, U3⟩
  · have U3 := Lib.hid (U2.out.trans U3)
    have SB3 := Lib.hid (SB.out w3 U3.out)
    clear BS hno SB
    go_wp2_with fail
    refine SB3.out.mono ?_
    rintro e w4 hb2
    rcases hb2 with ⟨_, rfl, U4⟩ | ⟨q, v6, _, rfl, O6, U4⟩
    · have U4 := Lib.hid (U3.out.trans U4)
      clear SB3
      go_wp2_with fail
      refine wp_region_quiet_below (by kernel_rfl) (by kernel_rfl) ?_
      repeat (go_big_quiet_step (fail))
      refine wpQuiet_nil ?_
      intro w5 hw'
      obtain ⟨⟨d, os⟩, hw5⟩ := hw'
      have up5 : Up w4 w5 := by rw [hw5]; exact below_regrown _ _ _
      clear hw5
      have U5 := Lib.hid (U4.out.trans up5)
      clear up5
      go_wp2_with fail
      go_loopw [57] (fun i wr => ∃ k : Nat, k ≤ l.length ∧ i = .int .i64 k ∧ Up w5 wr) (fun i _ => l.length - (intOf i).toNat)
      case atStart => exact ⟨0, Nat.zero_le _, rfl, Up.refl _⟩
      case round =>
        obtain ⟨k, hk, rfl, ur⟩ := hrel
        have UW := Lib.hid (U5.out.trans ur)
        have UR := Lib.hid ur
        clear ur
        by_cases hlt : k < l.length
        · have b3 : ((k : Int) < (l.length : Int)) = True := by simp; omega
          obtain ⟨sb, so, rfl, _, sg⟩ := sets_at (HV.out.up UW.out) (by omega)
          obtain ⟨da, dn, dc, rg, dp⟩ := sg k hlt
          have hdn : dn = l[k].dead.length := by obtain ⟨_, _, h⟩ := dp.slice; simp at h; exact h.2.1
          subst hdn
          have SG := Lib.hid rg
          have hdl := HR.out l[k] (List.getElem_mem hlt)
          have HRX := Lib.hid hdl
          clear sg rg
          generalize l[k] = x at *
          have HSI := Lib.hid (info_setV x (.slice da x.dead.length dc))
          have H1 := Lib.hid (setC_one x da x.dead.length dc)
          have HZ := Lib.hid (show zSetC.size = (setC x (.slice da x.dead.length dc)).size from rfl)
          have UX := up_alloc wr (.cells (setC x (.slice da x.dead.length dc)) 44)
          have BX := Lib.hid (Blk.new wr 44 (setC x (.slice da x.dead.length dc)))
          have UX2 := up_alloc (wr.alloc (.cells (setC x (.slice da x.dead.length dc)) 44)) (.cells (setC x (.slice da x.dead.length dc)) 44)
          have IS := Lib.hid (show IsSets ((wr.alloc (.cells (setC x (.slice da x.dead.length dc)) 44)).alloc (.cells (setC x (.slice da x.dead.length dc)) 44)) (.slice (some ⟨wr.heap.size + 1, 0, none⟩) 1 1) [x] from
            ⟨[(⟨x, da, x.dead.length, dc⟩ : SetV)], rfl, IsRow.litAt _ _ (by rw [sz_alloc]) (setC x (.slice da x.dead.length dc)) 44 (0, 0) [_] 1 rfl (by unfold maxLen; omega) (by simp [setcells, SetV.v]), fun y hy => by
              simp at hy
              subst hy
              exact IsRow.up dp (UX.trans UX2)⟩)
          have CP := Lib.hid (rcopy_any _ _ [x] IS.out (by simp) (fun y hy => by simp at hy; subst hy; have := HRX.out; omega))
          have U4 := Lib.hid (UR.out.trans (UX.trans UX2))
          have BX2 := Lib.hid (BX.out.up UX2)
          have DP2 := Lib.hid (IsRow.up dp (UX.trans UX2))
          clear UX UX2 dp IS
          go_wp2_with (first
            | ((with_reducible refine wg_load 44 (.tmp 59) ?_); refine wl_part rfl 44 (.tmp 59) rfl sb (so + k * 11) rfl (setC x (.slice da x.dead.length dc)) SG.out _ Try.underlying44 rfl HSI.out ?_)
            | ((with_reducible refine wg_alloc 44 ?_); refine wpList_alloc_blk rfl 44 rfl zSetC zero_set ?_)
            | ((with_reducible refine wg_store 44 (.tmp 12) (.tmp 60) ?_); refine ws_new wr rfl 44 (.tmp 12) (.tmp 60) rfl (setC x (.slice da x.dead.length dc)) 44 zSetC rfl rfl rfl HSI.out HZ.out H1.out ?_)
            | ((with_reducible refine wg_load 44 (.tmp 12) ?_); refine wpList_load_blkG rfl 44 (.tmp 12) rfl wr.heap.size rfl 44 _ BX.out _ Try.underlying44 rfl HSI.out ?_)
            | ((with_reducible refine wg_slice 23 1 _ ?_); refine wpList_buildSlice1X rfl 23 44 (.tmp 61) rfl _ 11 112 (setC x (.slice da x.dead.length dc)) rfl Try.underlying23 info_set3 (by omega) (by omega) rfl ?_))
          refine CP.out.mono ?_
          rintro e w5 ⟨vw, rfl, OW, U5⟩
          have OWH := Lib.hid OW.sets
          clear OW
          have U6 := Lib.hid (U4.out.trans U5)
          have BX5 := Lib.hid (BX2.out.up U5)
          have DP5 := Lib.hid (IsRow.up DP2.out U5)
          have SC := Lib.hid (scopy_any w5 x (.slice da x.dead.length dc) DP5.out (by have := HRX.out; omega))
          clear CP U4 BX BX2 DP2 U5
          go_wp2_with (first
            | ((with_reducible refine wg_load 44 (.tmp 12) ?_); refine wpList_load_blkG rfl 44 (.tmp 12) rfl wr.heap.size rfl 44 _ BX5.out _ Try.underlying44 rfl HSI.out ?_))
          refine SC.out.mono ?_
          rintro e w7 ⟨vc, rfl, OC, U7⟩
          obtain ⟨ca, cc, rfl⟩ := (OwnRow.row OC pw).slice
          have HSI2 := Lib.hid (info_setV x (.slice ca x.dead.length cc))
          have H12 := Lib.hid (setC_one x ca x.dead.length cc)
          have HZ2 := Lib.hid (show zSetC.size = (setC x (.slice ca x.dead.length cc)).size from rfl)
          have UC := up_alloc w7 (.cells (setC x (.slice ca x.dead.length cc)) 44)
          have BC := Lib.hid (Blk.new w7 44 (setC x (.slice ca x.dead.length cc)))
          have U8 := Lib.hid (U7.trans UC)
          have OC8 := Lib.hid (OwnRow.up OC UC)
          have c10 := BC.out.setAt.c10
          clear OC UC U7 SC
          go_wp2_with (first
            | ((with_reducible refine wg_alloc 44 ?_); refine wpList_alloc_blk rfl 44 rfl zSetC zero_set ?_)
            | ((with_reducible refine wg_store 44 (.tmp 14) (.tmp 65) ?_); refine ws_new w7 rfl 44 (.tmp 14) (.tmp 65) rfl (setC x (.slice ca x.dead.length cc)) 44 zSetC rfl rfl rfl HSI2.out HZ2.out H12.out ?_))
          generalize hw8 : w7.alloc (.cells (setC x (.slice ca x.dead.length cc)) 44) = w8 at *
          have HG := Lib.hid (ptrs_writable OC8.out)
          clear OC8 hw8
          obtain ⟨wo, hwo⟩ : ∃ y, y = wr := ⟨_, rfl⟩
          subst hwo
          go_loopw [69] (fun i wq => ∃ j : Nat, j ≤ x.dead.length ∧ i = .int .i64 j ∧ Up w5 wq ∧ Blk wq w7.heap.size 44 (setC x (.slice ca x.dead.length cc)) ∧ Writable wq w5.heap.size ca x.dead.length) (fun i _ => x.dead.length - (intOf i).toNat)
          case atStart => exact ⟨0, Nat.zero_le _, rfl, U8.out, BC.out, HG.out⟩
          case round =>
            obtain ⟨j, hj, rfl, uq, bq, wq'⟩ := hrel
            have UQ := Lib.hid uq
            have BQ := Lib.hid bq
            have WQ := Lib.hid wq'
            clear uq bq wq' c10
            have d10 := BQ.out.setAt.c10
            by_cases hjl : j < x.dead.length
            · have b4 : ((j : Int) < (x.dead.length : Int)) = True := by simp; omega
              obtain ⟨gd, rfl, hgd, cur, hcur, hz⟩ := WQ.out (by omega)
              obtain ⟨z, hz⟩ := hz j hjl
              have hc := hcur.cell (j * 3)
              rw [hz] at hc
              have hf := hcur.free (j * 3)
              have HCUR := Lib.hid hcur
              have HGD := Lib.hid hgd
              have BQ1 := BQ.out
              have hne : w7.heap.size ≠ gd := fun e => by
                subst e
                have := BQ1.symm.trans hcur
                simp at this
              have HNE := Lib.hid hne
              have HZJ := Lib.hid hz
              have KW := Lib.hid (fun i (hi : i < x.dead.length) => (WQ.out (by omega)))
              have WST := Lib.hid (writable_set WQ.out HCUR.out rfl j hjl)
              clear hcur hgd BQ1 hne hz
              go_wp2_with fail
              go_roundw
              case rel => exact ⟨j + 1, hjl, by go_num, UQ.out.setCell HGD.out _, (BQ.out.grown (grown_setCell HCUR.out _ _) (fun e => HNE.out (Option.some.inj e).symm)), WST.out _⟩
              case measure => simp [intOf]; omega
            · obtain rfl : j = x.dead.length := by omega
              have b4 : ((x.dead.length : Int) < (x.dead.length : Int)) = False := by simp
              have BX9 := Lib.hid (BX5.out.up UQ.out)
              have U9 := Lib.hid (U6.out.trans UQ.out)
              have UY := up_alloc wr (.cells (setC x (.slice da x.dead.length dc)) 44)
              have IS := Lib.hid (show IsSets (wr.alloc (.cells (setC x (.slice da x.dead.length dc)) 44)) (.slice (some ⟨wr.heap.size, 0, none⟩) 1 1) [x] from
                ⟨[(⟨x, da, x.dead.length, dc⟩ : SetV)], rfl, IsRow.litAt _ _ rfl (setC x (.slice da x.dead.length dc)) 44 (0, 0) [_] 1 rfl (by unfold maxLen; omega) (by simp [setcells, SetV.v]), fun y hy => by
                  simp at hy
                  subst hy
                  exact IsRow.up DP5.out (UQ.out.trans UY)⟩)
              have SL2 := Lib.hid (sameList_any _ _ _ [x] [x] IS.out (OWH.out.up (UQ.out.trans UY)))
              rw [decide_eq_true rfl] at SL2
              have U10 := Lib.hid (U9.out.trans UY)
              clear UY IS d10
              go_wp2_with (first
                | ((with_reducible refine wg_load 44 (.tmp 12) ?_); refine wpList_load_blkG rfl 44 (.tmp 12) rfl wo.heap.size rfl 44 _ BX9.out _ Try.underlying44 rfl HSI.out ?_)
                | ((with_reducible refine wg_slice 23 1 _ ?_); refine wpList_buildSlice1X rfl 23 44 (.tmp 82) rfl _ 11 112 (setC x (.slice da x.dead.length dc)) rfl Try.underlying23 info_set3 (by omega) (by omega) rfl ?_))
              refine SL2.out.mono ?_
              rintro e w9 ⟨rfl, U11⟩
              have U12 := Lib.hid (U10.out.trans U11)
              clear U11 SL2
              go_wp2_with fail
              refine ⟨⟨k + 1, hlt, by simp, U12.out⟩, ?_⟩
              simp only [intOf]
              omega
        · obtain rfl : k = l.length := by omega
          have b3 : ((l.length : Int) < (l.length : Int)) = False := by simp
          go_wp2_with fail
          go_ret
          exact ⟨rfl, UW.out⟩
    · have U4 := Lib.hid (U3.out.trans U4)
      clear SB3 O6
      go_wp2_with fail
      refine wp_region_quiet_below (by kernel_rfl) (by kernel_rfl) ?_
      repeat (go_big_quiet_step (fail))
      refine wpQuiet_nil ?_
      intro w5 hw'
      obtain ⟨⟨d, os⟩, hw5⟩ := hw'
      have up5 : Up w4 w5 := by rw [hw5]; exact below_regrown _ _ _
      clear hw5
      have U5 := Lib.hid (U4.out.trans up5)
      clear up5
      go_wp2_with fail
      go_loopw [57] (fun i wr => ∃ k : Nat, k ≤ l.length ∧ i = .int .i64 k ∧ Up w5 wr) (fun i _ => l.length - (intOf i).toNat)
      case atStart => exact ⟨0, Nat.zero_le _, rfl, Up.refl _⟩
      case round =>
        obtain ⟨k, hk, rfl, ur⟩ := hrel
        have UW := Lib.hid (U5.out.trans ur)
        have UR := Lib.hid ur
        clear ur
        by_cases hlt : k < l.length
        · have b3 : ((k : Int) < (l.length : Int)) = True := by simp; omega
          obtain ⟨sb, so, rfl, _, sg⟩ := sets_at (HV.out.up UW.out) (by omega)
          obtain ⟨da, dn, dc, rg, dp⟩ := sg k hlt
          have hdn : dn = l[k].dead.length := by obtain ⟨_, _, h⟩ := dp.slice; simp at h; exact h.2.1
          subst hdn
          have SG := Lib.hid rg
          have hdl := HR.out l[k] (List.getElem_mem hlt)
          have HRX := Lib.hid hdl
          clear sg rg
          generalize l[k] = x at *
          have HSI := Lib.hid (info_setV x (.slice da x.dead.length dc))
          have H1 := Lib.hid (setC_one x da x.dead.length dc)
          have HZ := Lib.hid (show zSetC.size = (setC x (.slice da x.dead.length dc)).size from rfl)
          have UX := up_alloc wr (.cells (setC x (.slice da x.dead.length dc)) 44)
          have BX := Lib.hid (Blk.new wr 44 (setC x (.slice da x.dead.length dc)))
          have UX2 := up_alloc (wr.alloc (.cells (setC x (.slice da x.dead.length dc)) 44)) (.cells (setC x (.slice da x.dead.length dc)) 44)
          have IS := Lib.hid (show IsSets ((wr.alloc (.cells (setC x (.slice da x.dead.length dc)) 44)).alloc (.cells (setC x (.slice da x.dead.length dc)) 44)) (.slice (some ⟨wr.heap.size + 1, 0, none⟩) 1 1) [x] from
            ⟨[(⟨x, da, x.dead.length, dc⟩ : SetV)], rfl, IsRow.litAt _ _ (by rw [sz_alloc]) (setC x (.slice da x.dead.length dc)) 44 (0, 0) [_] 1 rfl (by unfold maxLen; omega) (by simp [setcells, SetV.v]), fun y hy => by
              simp at hy
              subst hy
              exact IsRow.up dp (UX.trans UX2)⟩)
          have CP := Lib.hid (rcopy_any _ _ [x] IS.out (by simp) (fun y hy => by simp at hy; subst hy; have := HRX.out; omega))
          have U4 := Lib.hid (UR.out.trans (UX.trans UX2))
          have BX2 := Lib.hid (BX.out.up UX2)
          have DP2 := Lib.hid (IsRow.up dp (UX.trans UX2))
          clear UX UX2 dp IS
          go_wp2_with (first
            | ((with_reducible refine wg_load 44 (.tmp 59) ?_); refine wl_part rfl 44 (.tmp 59) rfl sb (so + k * 11) rfl (setC x (.slice da x.dead.length dc)) SG.out _ Try.underlying44 rfl HSI.out ?_)
            | ((with_reducible refine wg_alloc 44 ?_); refine wpList_alloc_blk rfl 44 rfl zSetC zero_set ?_)
            | ((with_reducible refine wg_store 44 (.tmp 12) (.tmp 60) ?_); refine ws_new wr rfl 44 (.tmp 12) (.tmp 60) rfl (setC x (.slice da x.dead.length dc)) 44 zSetC rfl rfl rfl HSI.out HZ.out H1.out ?_)
            | ((with_reducible refine wg_load 44 (.tmp 12) ?_); refine wpList_load_blkG rfl 44 (.tmp 12) rfl wr.heap.size rfl 44 _ BX.out _ Try.underlying44 rfl HSI.out ?_)
            | ((with_reducible refine wg_slice 23 1 _ ?_); refine wpList_buildSlice1X rfl 23 44 (.tmp 61) rfl _ 11 112 (setC x (.slice da x.dead.length dc)) rfl Try.underlying23 info_set3 (by omega) (by omega) rfl ?_))
          refine CP.out.mono ?_
          rintro e w5 ⟨vw, rfl, OW, U5⟩
          have OWH := Lib.hid OW.sets
          clear OW
          have U6 := Lib.hid (U4.out.trans U5)
          have BX5 := Lib.hid (BX2.out.up U5)
          have DP5 := Lib.hid (IsRow.up DP2.out U5)
          have SC := Lib.hid (scopy_any w5 x (.slice da x.dead.length dc) DP5.out (by have := HRX.out; omega))
          clear CP U4 BX BX2 DP2 U5
          go_wp2_with (first
            | ((with_reducible refine wg_load 44 (.tmp 12) ?_); refine wpList_load_blkG rfl 44 (.tmp 12) rfl wr.heap.size rfl 44 _ BX5.out _ Try.underlying44 rfl HSI.out ?_))
          refine SC.out.mono ?_
          rintro e w7 ⟨vc, rfl, OC, U7⟩
          obtain ⟨ca, cc, rfl⟩ := (OwnRow.row OC pw).slice
          have HSI2 := Lib.hid (info_setV x (.slice ca x.dead.length cc))
          have H12 := Lib.hid (setC_one x ca x.dead.length cc)
          have HZ2 := Lib.hid (show zSetC.size = (setC x (.slice ca x.dead.length cc)).size from rfl)
          have UC := up_alloc w7 (.cells (setC x (.slice ca x.dead.length cc)) 44)
          have BC := Lib.hid (Blk.new w7 44 (setC x (.slice ca x.dead.length cc)))
          have U8 := Lib.hid (U7.trans UC)
          have OC8 := Lib.hid (OwnRow.up OC UC)
          have c10 := BC.out.setAt.c10
          clear OC UC U7 SC
          go_wp2_with (first
            | ((with_reducible refine wg_alloc 44 ?_); refine wpList_alloc_blk rfl 44 rfl zSetC zero_set ?_)
            | ((with_reducible refine wg_store 44 (.tmp 14) (.tmp 65) ?_); refine ws_new w7 rfl 44 (.tmp 14) (.tmp 65) rfl (setC x (.slice ca x.dead.length cc)) 44 zSetC rfl rfl rfl HSI2.out HZ2.out H12.out ?_))
          generalize hw8 : w7.alloc (.cells (setC x (.slice ca x.dead.length cc)) 44) = w8 at *
          have HG := Lib.hid (ptrs_writable OC8.out)
          clear OC8 hw8
          obtain ⟨wo, hwo⟩ : ∃ y, y = wr := ⟨_, rfl⟩
          subst hwo
          go_loopw [69] (fun i wq => ∃ j : Nat, j ≤ x.dead.length ∧ i = .int .i64 j ∧ Up w5 wq ∧ Blk wq w7.heap.size 44 (setC x (.slice ca x.dead.length cc)) ∧ Writable wq w5.heap.size ca x.dead.length) (fun i _ => x.dead.length - (intOf i).toNat)
          case atStart => exact ⟨0, Nat.zero_le _, rfl, U8.out, BC.out, HG.out⟩
          case round =>
            obtain ⟨j, hj, rfl, uq, bq, wq'⟩ := hrel
            have UQ := Lib.hid uq
            have BQ := Lib.hid bq
            have WQ := Lib.hid wq'
            clear uq bq wq' c10
            have d10 := BQ.out.setAt.c10
            by_cases hjl : j < x.dead.length
            · have b4 : ((j : Int) < (x.dead.length : Int)) = True := by simp; omega
              obtain ⟨gd, rfl, hgd, cur, hcur, hz⟩ := WQ.out (by omega)
              obtain ⟨z, hz⟩ := hz j hjl
              have hc := hcur.cell (j * 3)
              rw [hz] at hc
              have hf := hcur.free (j * 3)
              have HCUR := Lib.hid hcur
              have HGD := Lib.hid hgd
              have BQ1 := BQ.out
              have hne : w7.heap.size ≠ gd := fun e => by
                subst e
                have := BQ1.symm.trans hcur
                simp at this
              have HNE := Lib.hid hne
              have HZJ := Lib.hid hz
              have KW := Lib.hid (fun i (hi : i < x.dead.length) => (WQ.out (by omega)))
              have WST := Lib.hid (writable_set WQ.out HCUR.out rfl j hjl)
              clear hcur hgd BQ1 hne hz
              go_wp2_with fail
              go_roundw
              case rel => exact ⟨j + 1, hjl, by go_num, UQ.out.setCell HGD.out _, (BQ.out.grown (grown_setCell HCUR.out _ _) (fun e => HNE.out (Option.some.inj e).symm)), WST.out _⟩
              case measure => simp [intOf]; omega
            · obtain rfl : j = x.dead.length := by omega
              have b4 : ((x.dead.length : Int) < (x.dead.length : Int)) = False := by simp
              have BX9 := Lib.hid (BX5.out.up UQ.out)
              have U9 := Lib.hid (U6.out.trans UQ.out)
              have UY := up_alloc wr (.cells (setC x (.slice da x.dead.length dc)) 44)
              have IS := Lib.hid (show IsSets (wr.alloc (.cells (setC x (.slice da x.dead.length dc)) 44)) (.slice (some ⟨wr.heap.size, 0, none⟩) 1 1) [x] from
                ⟨[(⟨x, da, x.dead.length, dc⟩ : SetV)], rfl, IsRow.litAt _ _ rfl (setC x (.slice da x.dead.length dc)) 44 (0, 0) [_] 1 rfl (by unfold maxLen; omega) (by simp [setcells, SetV.v]), fun y hy => by
                  simp at hy
                  subst hy
                  exact IsRow.up DP5.out (UQ.out.trans UY)⟩)
              have SL2 := Lib.hid (sameList_any _ _ _ [x] [x] IS.out (OWH.out.up (UQ.out.trans UY)))
              rw [decide_eq_true rfl] at SL2
              have U10 := Lib.hid (U9.out.trans UY)
              clear UY IS d10
              go_wp2_with (first
                | ((with_reducible refine wg_load 44 (.tmp 12) ?_); refine wpList_load_blkG rfl 44 (.tmp 12) rfl wo.heap.size rfl 44 _ BX9.out _ Try.underlying44 rfl HSI.out ?_)
                | ((with_reducible refine wg_slice 23 1 _ ?_); refine wpList_buildSlice1X rfl 23 44 (.tmp 82) rfl _ 11 112 (setC x (.slice da x.dead.length dc)) rfl Try.underlying23 info_set3 (by omega) (by omega) rfl ?_))
              refine SL2.out.mono ?_
              rintro e w9 ⟨rfl, U11⟩
              have U12 := Lib.hid (U10.out.trans U11)
              clear U11 SL2
              go_wp2_with fail
              refine ⟨⟨k + 1, hlt, by simp, U12.out⟩, ?_⟩
              simp only [intOf]
              omega
        · obtain rfl : k = l.length := by omega
          have b3 : ((l.length : Int) < (l.length : Int)) = False := by simp
          go_wp2_with fail
          go_ret
          exact ⟨rfl, UW.out⟩
  have U3' := Lib.hid (U2.out.trans U3)
  have SB3 := Lib.hid (SB.out w3 U3'.out)
  have O5h := Lib.hid O5.ones
  have HS := Lib.hid hsome
  obtain ⟨xa, xc, rfl⟩ := O5.ones.slice
  clear BS hsome SB O5 U3
  go_wp2_with fail
  refine SB3.out.mono ?_
  rintro e w4 hb2
  rcases hb2 with ⟨_, rfl, U4⟩ | ⟨q, v6, hsome2, rfl, O6, U4⟩
  · have U4 := Lib.hid (U3'.out.trans U4)
    clear SB3 O5h
    go_wp2_with fail
    refine wp_region_quiet_below (by kernel_rfl) (by kernel_rfl) ?_
    repeat (go_big_quiet_step (fail))
    refine wpQuiet_nil ?_
    intro w5 hw'
    obtain ⟨⟨d, os⟩, hw5⟩ := hw'
    have up5 : Up w4 w5 := by rw [hw5]; exact below_regrown _ _ _
    clear hw5
    have U5 := Lib.hid (U4.out.trans up5)
    clear up5
    go_wp2_with fail
    go_loopw [57] (fun i wr => ∃ k : Nat, k ≤ l.length ∧ i = .int .i64 k ∧ Up w5 wr) (fun i _ => l.length - (intOf i).toNat)
    case atStart => exact ⟨0, Nat.zero_le _, rfl, Up.refl _⟩
    case round =>
      obtain ⟨k, hk, rfl, ur⟩ := hrel
      have UW := Lib.hid (U5.out.trans ur)
      have UR := Lib.hid ur
      clear ur
      by_cases hlt : k < l.length
      · have b3 : ((k : Int) < (l.length : Int)) = True := by simp; omega
        obtain ⟨sb, so, rfl, _, sg⟩ := sets_at (HV.out.up UW.out) (by omega)
        obtain ⟨da, dn, dc, rg, dp⟩ := sg k hlt
        have hdn : dn = l[k].dead.length := by obtain ⟨_, _, h⟩ := dp.slice; simp at h; exact h.2.1
        subst hdn
        have SG := Lib.hid rg
        have hdl := HR.out l[k] (List.getElem_mem hlt)
        have HRX := Lib.hid hdl
        clear sg rg
        generalize l[k] = x at *
        have HSI := Lib.hid (info_setV x (.slice da x.dead.length dc))
        have H1 := Lib.hid (setC_one x da x.dead.length dc)
        have HZ := Lib.hid (show zSetC.size = (setC x (.slice da x.dead.length dc)).size from rfl)
        have UX := up_alloc wr (.cells (setC x (.slice da x.dead.length dc)) 44)
        have BX := Lib.hid (Blk.new wr 44 (setC x (.slice da x.dead.length dc)))
        have UX2 := up_alloc (wr.alloc (.cells (setC x (.slice da x.dead.length dc)) 44)) (.cells (setC x (.slice da x.dead.length dc)) 44)
        have IS := Lib.hid (show IsSets ((wr.alloc (.cells (setC x (.slice da x.dead.length dc)) 44)).alloc (.cells (setC x (.slice da x.dead.length dc)) 44)) (.slice (some ⟨wr.heap.size + 1, 0, none⟩) 1 1) [x] from
          ⟨[(⟨x, da, x.dead.length, dc⟩ : SetV)], rfl, IsRow.litAt _ _ (by rw [sz_alloc]) (setC x (.slice da x.dead.length dc)) 44 (0, 0) [_] 1 rfl (by unfold maxLen; omega) (by simp [setcells, SetV.v]), fun y hy => by
            simp at hy
            subst hy
            exact IsRow.up dp (UX.trans UX2)⟩)
        have CP := Lib.hid (rcopy_any _ _ [x] IS.out (by simp) (fun y hy => by simp at hy; subst hy; have := HRX.out; omega))
        have U4 := Lib.hid (UR.out.trans (UX.trans UX2))
        have BX2 := Lib.hid (BX.out.up UX2)
        have DP2 := Lib.hid (IsRow.up dp (UX.trans UX2))
        clear UX UX2 dp IS
        go_wp2_with (first
          | ((with_reducible refine wg_load 44 (.tmp 59) ?_); refine wl_part rfl 44 (.tmp 59) rfl sb (so + k * 11) rfl (setC x (.slice da x.dead.length dc)) SG.out _ Try.underlying44 rfl HSI.out ?_)
          | ((with_reducible refine wg_alloc 44 ?_); refine wpList_alloc_blk rfl 44 rfl zSetC zero_set ?_)
          | ((with_reducible refine wg_store 44 (.tmp 12) (.tmp 60) ?_); refine ws_new wr rfl 44 (.tmp 12) (.tmp 60) rfl (setC x (.slice da x.dead.length dc)) 44 zSetC rfl rfl rfl HSI.out HZ.out H1.out ?_)
          | ((with_reducible refine wg_load 44 (.tmp 12) ?_); refine wpList_load_blkG rfl 44 (.tmp 12) rfl wr.heap.size rfl 44 _ BX.out _ Try.underlying44 rfl HSI.out ?_)
          | ((with_reducible refine wg_slice 23 1 _ ?_); refine wpList_buildSlice1X rfl 23 44 (.tmp 61) rfl _ 11 112 (setC x (.slice da x.dead.length dc)) rfl Try.underlying23 info_set3 (by omega) (by omega) rfl ?_))
        refine CP.out.mono ?_
        rintro e w5 ⟨vw, rfl, OW, U5⟩
        have OWH := Lib.hid OW.sets
        clear OW
        have U6 := Lib.hid (U4.out.trans U5)
        have BX5 := Lib.hid (BX2.out.up U5)
        have DP5 := Lib.hid (IsRow.up DP2.out U5)
        have SC := Lib.hid (scopy_any w5 x (.slice da x.dead.length dc) DP5.out (by have := HRX.out; omega))
        clear CP U4 BX BX2 DP2 U5
        go_wp2_with (first
          | ((with_reducible refine wg_load 44 (.tmp 12) ?_); refine wpList_load_blkG rfl 44 (.tmp 12) rfl wr.heap.size rfl 44 _ BX5.out _ Try.underlying44 rfl HSI.out ?_))
        refine SC.out.mono ?_
        rintro e w7 ⟨vc, rfl, OC, U7⟩
        obtain ⟨ca, cc, rfl⟩ := (OwnRow.row OC pw).slice
        have HSI2 := Lib.hid (info_setV x (.slice ca x.dead.length cc))
        have H12 := Lib.hid (setC_one x ca x.dead.length cc)
        have HZ2 := Lib.hid (show zSetC.size = (setC x (.slice ca x.dead.length cc)).size from rfl)
        have UC := up_alloc w7 (.cells (setC x (.slice ca x.dead.length cc)) 44)
        have BC := Lib.hid (Blk.new w7 44 (setC x (.slice ca x.dead.length cc)))
        have U8 := Lib.hid (U7.trans UC)
        have OC8 := Lib.hid (OwnRow.up OC UC)
        have c10 := BC.out.setAt.c10
        clear OC UC U7 SC
        go_wp2_with (first
          | ((with_reducible refine wg_alloc 44 ?_); refine wpList_alloc_blk rfl 44 rfl zSetC zero_set ?_)
          | ((with_reducible refine wg_store 44 (.tmp 14) (.tmp 65) ?_); refine ws_new w7 rfl 44 (.tmp 14) (.tmp 65) rfl (setC x (.slice ca x.dead.length cc)) 44 zSetC rfl rfl rfl HSI2.out HZ2.out H12.out ?_))
        generalize hw8 : w7.alloc (.cells (setC x (.slice ca x.dead.length cc)) 44) = w8 at *
        have HG := Lib.hid (ptrs_writable OC8.out)
        clear OC8 hw8
        obtain ⟨wo, hwo⟩ : ∃ y, y = wr := ⟨_, rfl⟩
        subst hwo
        go_loopw [69] (fun i wq => ∃ j : Nat, j ≤ x.dead.length ∧ i = .int .i64 j ∧ Up w5 wq ∧ Blk wq w7.heap.size 44 (setC x (.slice ca x.dead.length cc)) ∧ Writable wq w5.heap.size ca x.dead.length) (fun i _ => x.dead.length - (intOf i).toNat)
        case atStart => exact ⟨0, Nat.zero_le _, rfl, U8.out, BC.out, HG.out⟩
        case round =>
          obtain ⟨j, hj, rfl, uq, bq, wq'⟩ := hrel
          have UQ := Lib.hid uq
          have BQ := Lib.hid bq
          have WQ := Lib.hid wq'
          clear uq bq wq' c10
          have d10 := BQ.out.setAt.c10
          by_cases hjl : j < x.dead.length
          · have b4 : ((j : Int) < (x.dead.length : Int)) = True := by simp; omega
            obtain ⟨gd, rfl, hgd, cur, hcur, hz⟩ := WQ.out (by omega)
            obtain ⟨z, hz⟩ := hz j hjl
            have hc := hcur.cell (j * 3)
            rw [hz] at hc
            have hf := hcur.free (j * 3)
            have HCUR := Lib.hid hcur
            have HGD := Lib.hid hgd
            have BQ1 := BQ.out
            have hne : w7.heap.size ≠ gd := fun e => by
              subst e
              have := BQ1.symm.trans hcur
              simp at this
            have HNE := Lib.hid hne
            have HZJ := Lib.hid hz
            have KW := Lib.hid (fun i (hi : i < x.dead.length) => (WQ.out (by omega)))
            have WST := Lib.hid (writable_set WQ.out HCUR.out rfl j hjl)
            clear hcur hgd BQ1 hne hz
            go_wp2_with fail
            go_roundw
            case rel => exact ⟨j + 1, hjl, by go_num, UQ.out.setCell HGD.out _, (BQ.out.grown (grown_setCell HCUR.out _ _) (fun e => HNE.out (Option.some.inj e).symm)), WST.out _⟩
            case measure => simp [intOf]; omega
          · obtain rfl : j = x.dead.length := by omega
            have b4 : ((x.dead.length : Int) < (x.dead.length : Int)) = False := by simp
            have BX9 := Lib.hid (BX5.out.up UQ.out)
            have U9 := Lib.hid (U6.out.trans UQ.out)
            have UY := up_alloc wr (.cells (setC x (.slice da x.dead.length dc)) 44)
            have IS := Lib.hid (show IsSets (wr.alloc (.cells (setC x (.slice da x.dead.length dc)) 44)) (.slice (some ⟨wr.heap.size, 0, none⟩) 1 1) [x] from
              ⟨[(⟨x, da, x.dead.length, dc⟩ : SetV)], rfl, IsRow.litAt _ _ rfl (setC x (.slice da x.dead.length dc)) 44 (0, 0) [_] 1 rfl (by unfold maxLen; omega) (by simp [setcells, SetV.v]), fun y hy => by
                simp at hy
                subst hy
                exact IsRow.up DP5.out (UQ.out.trans UY)⟩)
            have SL2 := Lib.hid (sameList_any _ _ _ [x] [x] IS.out (OWH.out.up (UQ.out.trans UY)))
            rw [decide_eq_true rfl] at SL2
            have U10 := Lib.hid (U9.out.trans UY)
            clear UY IS d10
            go_wp2_with (first
              | ((with_reducible refine wg_load 44 (.tmp 12) ?_); refine wpList_load_blkG rfl 44 (.tmp 12) rfl wo.heap.size rfl 44 _ BX9.out _ Try.underlying44 rfl HSI.out ?_)
              | ((with_reducible refine wg_slice 23 1 _ ?_); refine wpList_buildSlice1X rfl 23 44 (.tmp 82) rfl _ 11 112 (setC x (.slice da x.dead.length dc)) rfl Try.underlying23 info_set3 (by omega) (by omega) rfl ?_))
            refine SL2.out.mono ?_
            rintro e w9 ⟨rfl, U11⟩
            have U12 := Lib.hid (U10.out.trans U11)
            clear U11 SL2
            go_wp2_with fail
            refine ⟨⟨k + 1, hlt, by simp, U12.out⟩, ?_⟩
            simp only [intOf]
            omega
      · obtain rfl : k = l.length := by omega
        have b3 : ((l.length : Int) < (l.length : Int)) = False := by simp
        go_wp2_with fail
        go_ret
        exact ⟨rfl, UW.out⟩
  have O5k := Lib.hid (O5h.out.up U4)
  have U4 := Lib.hid (U3'.out.trans U4)
  have O6h := Lib.hid O6.ones
  have hpq : decide (p = q) = decide (l = m) := by
    rw [decide_eq_decide]
    constructor
    · rintro rfl
      exact (setsO_inj HS.out hsome2 HWF.out HWF2.out).2
    · rintro rfl
      have := HS.out
      rw [hsome2] at this
      exact (Option.some.inj this).symm
  obtain ⟨ya, yc, rfl⟩ := O6.ones.slice
  have CX := fun d os => toStr (grow (redrawn w4 d) os) _ p (O5k.out.up (below_regrown w4 d os))
  have CY := fun d os => toStr (grow (redrawn w4 d) os) _ q (O6h.out.up (below_regrown w4 d os))
  have ST := str_test p q
  rw [hpq] at ST
  have SL := Lib.hid (show ∀ d os, Calls Try.prog 14 #[.slice la l.length lc, .slice ma m.length mc] (grow (redrawn w4 d) os) fun e w' => BoolUp (decide (l = m)) (grow (redrawn w4 d) os) e w' from fun d os => sameList_any _ _ _ l m (HV.out.up (U4.out.trans (below_regrown w4 d os))) (HU.out.up (U4.out.trans (below_regrown w4 d os))))
  generalize decide (l = m) = bb at *
  generalize strOf p = s1 at *
  generalize strOf q = s2 at *
  clear hsome2 SB3 O5h O6 hpq HS
  go_wp2_with fail
  cases bb
  all_goals
    refine wp_region_quiet_below (by kernel_rfl) (by kernel_rfl) ?_
    repeat (go_big_quiet_step ((go_at_call 14; exact Calls.regrown_of (SL.out _ _))))
    refine wpQuiet_nil ?_
    intro w5 hw'
    obtain ⟨⟨d, os⟩, hw5⟩ := hw'
    have up5 : Up w4 w5 := by rw [hw5]; exact below_regrown _ _ _
    clear hw5
    have U5 := Lib.hid (U4.out.trans up5)
    clear up5
    go_wp2_with fail
    go_loopw [57] (fun i wr => ∃ k : Nat, k ≤ l.length ∧ i = .int .i64 k ∧ Up w5 wr) (fun i _ => l.length - (intOf i).toNat)
    case atStart => exact ⟨0, Nat.zero_le _, rfl, Up.refl _⟩
    case round =>
      obtain ⟨k, hk, rfl, ur⟩ := hrel
      have UW := Lib.hid (U5.out.trans ur)
      have UR := Lib.hid ur
      clear ur
      by_cases hlt : k < l.length
      · have b3 : ((k : Int) < (l.length : Int)) = True := by simp; omega
        obtain ⟨sb, so, rfl, _, sg⟩ := sets_at (HV.out.up UW.out) (by omega)
        obtain ⟨da, dn, dc, rg, dp⟩ := sg k hlt
        have hdn : dn = l[k].dead.length := by obtain ⟨_, _, h⟩ := dp.slice; simp at h; exact h.2.1
        subst hdn
        have SG := Lib.hid rg
        have hdl := HR.out l[k] (List.getElem_mem hlt)
        have HRX := Lib.hid hdl
        clear sg rg
        generalize l[k] = x at *
        have HSI := Lib.hid (info_setV x (.slice da x.dead.length dc))
        have H1 := Lib.hid (setC_one x da x.dead.length dc)
        have HZ := Lib.hid (show zSetC.size = (setC x (.slice da x.dead.length dc)).size from rfl)
        have UX := up_alloc wr (.cells (setC x (.slice da x.dead.length dc)) 44)
        have BX := Lib.hid (Blk.new wr 44 (setC x (.slice da x.dead.length dc)))
        have UX2 := up_alloc (wr.alloc (.cells (setC x (.slice da x.dead.length dc)) 44)) (.cells (setC x (.slice da x.dead.length dc)) 44)
        have IS := Lib.hid (show IsSets ((wr.alloc (.cells (setC x (.slice da x.dead.length dc)) 44)).alloc (.cells (setC x (.slice da x.dead.length dc)) 44)) (.slice (some ⟨wr.heap.size + 1, 0, none⟩) 1 1) [x] from
          ⟨[(⟨x, da, x.dead.length, dc⟩ : SetV)], rfl, IsRow.litAt _ _ (by rw [sz_alloc]) (setC x (.slice da x.dead.length dc)) 44 (0, 0) [_] 1 rfl (by unfold maxLen; omega) (by simp [setcells, SetV.v]), fun y hy => by
            simp at hy
            subst hy
            exact IsRow.up dp (UX.trans UX2)⟩)
        have CP := Lib.hid (rcopy_any _ _ [x] IS.out (by simp) (fun y hy => by simp at hy; subst hy; have := HRX.out; omega))
        have U4 := Lib.hid (UR.out.trans (UX.trans UX2))
        have BX2 := Lib.hid (BX.out.up UX2)
        have DP2 := Lib.hid (IsRow.up dp (UX.trans UX2))
        clear UX UX2 dp IS
        go_wp2_with (first
          | ((with_reducible refine wg_load 44 (.tmp 59) ?_); refine wl_part rfl 44 (.tmp 59) rfl sb (so + k * 11) rfl (setC x (.slice da x.dead.length dc)) SG.out _ Try.underlying44 rfl HSI.out ?_)
          | ((with_reducible refine wg_alloc 44 ?_); refine wpList_alloc_blk rfl 44 rfl zSetC zero_set ?_)
          | ((with_reducible refine wg_store 44 (.tmp 12) (.tmp 60) ?_); refine ws_new wr rfl 44 (.tmp 12) (.tmp 60) rfl (setC x (.slice da x.dead.length dc)) 44 zSetC rfl rfl rfl HSI.out HZ.out H1.out ?_)
          | ((with_reducible refine wg_load 44 (.tmp 12) ?_); refine wpList_load_blkG rfl 44 (.tmp 12) rfl wr.heap.size rfl 44 _ BX.out _ Try.underlying44 rfl HSI.out ?_)
          | ((with_reducible refine wg_slice 23 1 _ ?_); refine wpList_buildSlice1X rfl 23 44 (.tmp 61) rfl _ 11 112 (setC x (.slice da x.dead.length dc)) rfl Try.underlying23 info_set3 (by omega) (by omega) rfl ?_))
        refine CP.out.mono ?_
        rintro e w5 ⟨vw, rfl, OW, U5⟩
        have OWH := Lib.hid OW.sets
        clear OW
        have U6 := Lib.hid (U4.out.trans U5)
        have BX5 := Lib.hid (BX2.out.up U5)
        have DP5 := Lib.hid (IsRow.up DP2.out U5)
        have SC := Lib.hid (scopy_any w5 x (.slice da x.dead.length dc) DP5.out (by have := HRX.out; omega))
        clear CP U4 BX BX2 DP2 U5
        go_wp2_with (first
          | ((with_reducible refine wg_load 44 (.tmp 12) ?_); refine wpList_load_blkG rfl 44 (.tmp 12) rfl wr.heap.size rfl 44 _ BX5.out _ Try.underlying44 rfl HSI.out ?_))
        refine SC.out.mono ?_
        rintro e w7 ⟨vc, rfl, OC, U7⟩
        obtain ⟨ca, cc, rfl⟩ := (OwnRow.row OC pw).slice
        have HSI2 := Lib.hid (info_setV x (.slice ca x.dead.length cc))
        have H12 := Lib.hid (setC_one x ca x.dead.length cc)
        have HZ2 := Lib.hid (show zSetC.size = (setC x (.slice ca x.dead.length cc)).size from rfl)
        have UC := up_alloc w7 (.cells (setC x (.slice ca x.dead.length cc)) 44)
        have BC := Lib.hid (Blk.new w7 44 (setC x (.slice ca x.dead.length cc)))
        have U8 := Lib.hid (U7.trans UC)
        have OC8 := Lib.hid (OwnRow.up OC UC)
        have c10 := BC.out.setAt.c10
        clear OC UC U7 SC
        go_wp2_with (first
          | ((with_reducible refine wg_alloc 44 ?_); refine wpList_alloc_blk rfl 44 rfl zSetC zero_set ?_)
          | ((with_reducible refine wg_store 44 (.tmp 14) (.tmp 65) ?_); refine ws_new w7 rfl 44 (.tmp 14) (.tmp 65) rfl (setC x (.slice ca x.dead.length cc)) 44 zSetC rfl rfl rfl HSI2.out HZ2.out H12.out ?_))
        generalize hw8 : w7.alloc (.cells (setC x (.slice ca x.dead.length cc)) 44) = w8 at *
        have HG := Lib.hid (ptrs_writable OC8.out)
        clear OC8 hw8
        obtain ⟨wo, hwo⟩ : ∃ y, y = wr := ⟨_, rfl⟩
        subst hwo
        go_loopw [69] (fun i wq => ∃ j : Nat, j ≤ x.dead.length ∧ i = .int .i64 j ∧ Up w5 wq ∧ Blk wq w7.heap.size 44 (setC x (.slice ca x.dead.length cc)) ∧ Writable wq w5.heap.size ca x.dead.length) (fun i _ => x.dead.length - (intOf i).toNat)
        case atStart => exact ⟨0, Nat.zero_le _, rfl, U8.out, BC.out, HG.out⟩
        case round =>
          obtain ⟨j, hj, rfl, uq, bq, wq'⟩ := hrel
          have UQ := Lib.hid uq
          have BQ := Lib.hid bq
          have WQ := Lib.hid wq'
          clear uq bq wq' c10
          have d10 := BQ.out.setAt.c10
          by_cases hjl : j < x.dead.length
          · have b4 : ((j : Int) < (x.dead.length : Int)) = True := by simp; omega
            obtain ⟨gd, rfl, hgd, cur, hcur, hz⟩ := WQ.out (by omega)
            obtain ⟨z, hz⟩ := hz j hjl
            have hc := hcur.cell (j * 3)
            rw [hz] at hc
            have hf := hcur.free (j * 3)
            have HCUR := Lib.hid hcur
            have HGD := Lib.hid hgd
            have BQ1 := BQ.out
            have hne : w7.heap.size ≠ gd := fun e => by
              subst e
              have := BQ1.symm.trans hcur
              simp at this
            have HNE := Lib.hid hne
            have HZJ := Lib.hid hz
            have KW := Lib.hid (fun i (hi : i < x.dead.length) => (WQ.out (by omega)))
            have WST := Lib.hid (writable_set WQ.out HCUR.out rfl j hjl)
            clear hcur hgd BQ1 hne hz
            go_wp2_with fail
            go_roundw
            case rel => exact ⟨j + 1, hjl, by go_num, UQ.out.setCell HGD.out _, (BQ.out.grown (grown_setCell HCUR.out _ _) (fun e => HNE.out (Option.some.inj e).symm)), WST.out _⟩
            case measure => simp [intOf]; omega
          · obtain rfl : j = x.dead.length := by omega
            have b4 : ((x.dead.length : Int) < (x.dead.length : Int)) = False := by simp
            have BX9 := Lib.hid (BX5.out.up UQ.out)
            have U9 := Lib.hid (U6.out.trans UQ.out)
            have UY := up_alloc wr (.cells (setC x (.slice da x.dead.length dc)) 44)
            have IS := Lib.hid (show IsSets (wr.alloc (.cells (setC x (.slice da x.dead.length dc)) 44)) (.slice (some ⟨wr.heap.size, 0, none⟩) 1 1) [x] from
              ⟨[(⟨x, da, x.dead.length, dc⟩ : SetV)], rfl, IsRow.litAt _ _ rfl (setC x (.slice da x.dead.length dc)) 44 (0, 0) [_] 1 rfl (by unfold maxLen; omega) (by simp [setcells, SetV.v]), fun y hy => by
                simp at hy
                subst hy
                exact IsRow.up DP5.out (UQ.out.trans UY)⟩)
            have SL2 := Lib.hid (sameList_any _ _ _ [x] [x] IS.out (OWH.out.up (UQ.out.trans UY)))
            rw [decide_eq_true rfl] at SL2
            have U10 := Lib.hid (U9.out.trans UY)
            clear UY IS d10
            go_wp2_with (first
              | ((with_reducible refine wg_load 44 (.tmp 12) ?_); refine wpList_load_blkG rfl 44 (.tmp 12) rfl wo.heap.size rfl 44 _ BX9.out _ Try.underlying44 rfl HSI.out ?_)
              | ((with_reducible refine wg_slice 23 1 _ ?_); refine wpList_buildSlice1X rfl 23 44 (.tmp 82) rfl _ 11 112 (setC x (.slice da x.dead.length dc)) rfl Try.underlying23 info_set3 (by omega) (by omega) rfl ?_))
            refine SL2.out.mono ?_
            rintro e w9 ⟨rfl, U11⟩
            have U12 := Lib.hid (U10.out.trans U11)
            clear U11 SL2
            go_wp2_with fail
            refine ⟨⟨k + 1, hlt, by simp, U12.out⟩, ?_⟩
            simp only [intOf]
            omega
      · obtain rfl : k = l.length := by omega
        have b3 : ((l.length : Int) < (l.length : Int)) = False := by simp
        go_wp2_with fail
        go_ret
        exact ⟨rfl, UW.out⟩

end Go.Proofs.Ythbfhlphclgnaaa
