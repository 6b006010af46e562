/- EntryReads; EntryBack: the walks. -/
import Derived.Test.YthbfhlphclgnaaaSetHU
set_option linter.unusedSimpArgs false
set_option linter.unusedVariables false
namespace Go.Proofs.Ythbfhlphclgnaaa
open Go.RowKit Go.Sort

set_option maxRecDepth 100000 in
set_option maxHeartbeats 4000000 in
theorem entryReads_walk (w : World) (v : Value) (b : List UInt8) (hv : IsBytes w v b) (hr : b.length * 1 ≤ 140737488351232) (_q : ∀ x ∈ b, True) :
    Calls Try.prog 5 #[v] w fun e w' => e = .returned (.bool true) ∧ Up w w' := by
  have HV := Lib.hid hv
  have AL := Lib.hid entryAlive_any
  have RR := Lib.hid (fun W U => rreadS_any W v b (IsOnes.up hv U) (by omega))
  obtain ⟨va, vc, rfl⟩ := hv.slice
  have hb1 := Lib.hid (show b.length * 1 ≤ 140737488355328 by omega)
  clear hv hr
  go_enter Try.func5, Try.ntmps5
  go_wp2_with (first
    | (at_builtin; refine wpList_fresh_ones byteCell byteCell_one rfl (.tmp 10) (.tmp 11) 29 rfl 5 (.int .u8 0) 1 Try.underlying29 info_u8 rfl rfl (.slice va b.length vc) b rfl HV.out hb1.out ?_))
  intro v2 w1 ho1 up1
  have U1 := Lib.hid up1
  have RD := Lib.hid (readS_any w1 v2 b ho1.ones)
  clear up1
  obtain ⟨ca, cc, rfl⟩ := ho1.ones.slice
  clear ho1
  go_wp2_with fail
  refine RD.out.mono ?_
  rintro e w2 hrd
  have RR2 := Lib.hid (RR.out w2)
  rcases hrd with ⟨ho, rfl, U2⟩ | ⟨n, l, v3, ho, rfl, OS, U2⟩
  · have U2 := Lib.hid (U1.out.trans U2)
    have RR3 := Lib.hid (RR2.out U2.out)
    rw [ho] at RR3
    clear RD RR RR2 ho
    go_wp2_with fail
    refine RR3.out.mono ?_
    rintro e w3 (⟨_, rfl, U3⟩ | ⟨n, l, v4, hbad, _⟩)
    rotate_left
    · cases hbad
    have U3 := Lib.hid (U2.out.trans U3)
    go_wp2_with fail
    refine (AL.out _).mono ?_
    rintro e w4 ⟨rfl, U4⟩
    have U4 := Lib.hid (U3.out.trans U4)
    go_wp2_with fail
    refine (sameList_any w4 (.slice none 0 0) (.slice none 0 0) [] [] (IsSets.nil _) (IsSets.nil _)).mono ?_
    rintro e w5 ⟨rfl, U5⟩
    rw [decide_eq_true rfl]
    go_wp2_with fail
    go_ret
    exact ⟨rfl, U4.out.trans U5⟩
  · have OS := Lib.hid OS.sets
    have U2' := Lib.hid (U1.out.trans U2)
    have RR3 := Lib.hid (RR2.out U2'.out)
    rw [ho] at RR3
    clear RD RR RR2 ho U2
    go_wp2_with fail
    refine RR3.out.mono ?_
    rintro e w3 (⟨hbad, _⟩ | ⟨n', l', v4, hsome, rfl, OS4, U3⟩)
    · cases hbad
    simp only [Option.some.injEq, Prod.mk.injEq] at hsome
    obtain ⟨rfl, rfl⟩ := hsome
    have OS4 := Lib.hid OS4.sets
    have OS3 := Lib.hid (OS.out.up U3)
    have U3' := Lib.hid (U2'.out.trans U3)
    clear U3
    go_wp2_with fail
    refine (AL.out _).mono ?_
    rintro e w4 ⟨rfl, U4⟩
    have SL := Lib.hid (sameList_any w4 v3 v4 l l (OS3.out.up U4) (OS4.out.up U4))
    rw [decide_eq_true rfl] at SL
    have U4' := Lib.hid (U3'.out.trans U4)
    clear U4
    go_wp2_with fail
    refine SL.out.mono ?_
    rintro e w5 ⟨rfl, U5⟩
    go_wp2_with fail
    go_ret
    exact ⟨rfl, U4'.out.trans U5⟩

theorem u64_xor_nat (a b : Nat) (ha : a < 18446744073709551616) (hb : b < 18446744073709551616) : bits .xor .u64 (a : Int) (b : Int) = ((a ^^^ b : Nat) : Int) := by
  have hx : a ^^^ b < 2 ^ 64 := Nat.xor_lt_two_pow (by omega) (by omega)
  show IntKind.u64.wrap ((BitVec.ofInt 64 (a : Int) ^^^ BitVec.ofInt 64 (b : Int)).toNat : Int) = _
  rw [BitVec.toNat_xor, ofInt_u64 a (by omega), ofInt_u64 b (by omega)]
  exact wrap_u64_nat _ (by omega)
theorem readS_wf {b : List UInt8} {n : Nat} {l : List SetD} (h : readS b = some (n, l)) : ∀ x ∈ l, x.wf := by
  unfold readS at h
  split at h
  · rename_i hd ts _
    split at h
    · cases hp : parseAll ts with
      | none => rw [hp] at h; cases h
      | some m =>
        rw [hp] at h
        simp only [Option.bind_some] at h
        split at h
        · simp only [Option.some.injEq, Prod.mk.injEq] at h
          obtain ⟨rfl, rfl⟩ := h
          exact parseAll_wf _ _ hp
        · cases h
    · cases h
  · cases h
theorem xor_one_ne (n : Nat) : n ^^^ 1 ≠ n := fun h => by
  have := congrArg (n ^^^ ·) h
  simp [← Nat.xor_assoc] at this
set_option maxRecDepth 100000 in
set_option maxHeartbeats 8000000 in
theorem entryBack_walk (w : World) (next : Nat) (hn : next < 18446744073709551616) (v : Value) (l : List SetD) (hv : IsSets w v l) (hwf : ∀ x ∈ l, x.wf) (hr : ∀ x ∈ l, x.dead.length * 24 ≤ 140737488351232)
    (u : Value) (b : List UInt8) (hb : IsBytes w u b) (hrb : b.length * 1 ≤ 140737488351232) (_q : ∀ x ∈ b, True) :
    Calls Try.prog 6 #[.int .u64 (next : Int), v, u] w fun e w' => e = .returned (.bool true) ∧ Up w w' := by
  obtain ⟨la, lc, rfl⟩ := hv.slice
  obtain ⟨ba, bc, rfl⟩ := hb.slice
  have HV := Lib.hid hv
  have HB := Lib.hid hb
  have HWF := Lib.hid hwf
  have AL := Lib.hid (entryAlive_any w)
  have hb1 := Lib.hid (show b.length * 1 ≤ 140737488355328 by omega)
  clear hv hwf hr hb hrb
  by_cases h40 : 40 < l.length
  · have b1 : ((40 : Int) < (l.length : Int)) = True := by simp; omega
    go_enter Try.func6, Try.ntmps6
    go_wp2_with fail
    refine AL.out.mono ?_
    rintro e w2 ⟨rfl, U2⟩
    go_wp2_with fail
    go_ret
    exact ⟨rfl, U2⟩
  have b1 : ((40 : Int) < (l.length : Int)) = False := by simp; omega
  go_enter Try.func6, Try.ntmps6
  go_wp2_with fail
  refine AL.out.mono ?_
  rintro e w2 ⟨rfl, U2⟩
  have U2 := Lib.hid U2
  have BS := Lib.hid (setsBytes_any w2 next hn _ l (HV.out.up U2.out) HWF.out)
  go_wp2_with fail
  refine BS.out.mono ?_
  rintro e w3 (⟨hno, rfl, U3⟩ | ⟨m, v5, hsome, rfl, O5, U3⟩)
  · have U4 := Lib.hid (U2.out.trans U3)
    clear BS hno U3
    have HBX := Lib.hid (HB.out.up U4.out)
    go_wp2_with (first
      | (at_builtin; refine wpList_fresh_ones byteCell byteCell_one rfl (.tmp 70) (.tmp 71) 29 rfl 5 (.int .u8 0) 1 Try.underlying29 info_u8 rfl rfl (.slice ba b.length bc) b rfl HBX.out hb1.out ?_))
    intro vq wq hoq upq
    have UQ := Lib.hid (U4.out.trans upq)
    have RD := Lib.hid (readS_any wq vq b hoq.ones)
    clear upq
    obtain ⟨ca, cc, rfl⟩ := hoq.ones.slice
    clear hoq
    go_wp2_with fail
    refine RD.out.mono ?_
    rintro e wr2 hrd
    rcases hrd with ⟨ho, rfl, Ur⟩ | ⟨n2, l2, v3, ho, rfl, OS, Ur⟩
    · have UZ := Lib.hid (UQ.out.trans Ur)
      clear RD ho Ur
      go_wp2_with fail
      go_ret
      exact ⟨rfl, UZ.out⟩
    · have HO := Lib.hid (readS_back ho)
      have UR2 := Lib.hid (UQ.out.trans Ur)
      have OSS := Lib.hid OS.sets
      have HW2 := Lib.hid (readS_wf ho)
      have HR2 := Lib.hid (setsO_some HO.out).2.2.1
      have HN2 := Lib.hid (setsO_some HO.out).1
      have hl2 : l2.length ≤ 32 := (setsO_some HO.out).2.1
      obtain ⟨la2, lc2, rfl⟩ := OSS.out.slice
      clear RD ho Ur OS
      go_wp2_with fail
      go_loopw [88] (fun i wr => ∃ k : Nat, k ≤ l2.length ∧ i = .int .i64 k ∧ Up wr2 wr) (fun i _ => l2.length - (intOf i).toNat)
      case atStart => exact ⟨0, Nat.zero_le _, rfl, Up.refl _⟩
      case round =>
        obtain ⟨k, hk, rfl, ur⟩ := hrel
        have UW := Lib.hid ur
        clear ur
        by_cases hlt : k < l2.length
        · have b3 : ((k : Int) < (l2.length : Int)) = True := by simp; omega
          obtain ⟨sb, so, rfl, _, sg⟩ := sets_at (OSS.out.up UW.out) (by omega)
          obtain ⟨da, dn, dc, rg, dp⟩ := sg k hlt
          have SG := Lib.hid rg
          have HRX := Lib.hid (HR2.out l2[k] (List.getElem_mem hlt))
          clear sg rg
          generalize l2[k] = x at *
          have HSI := Lib.hid (info_setV x (.slice da dn dc))
          have H1 := Lib.hid (setC_one x da dn dc)
          have HZ := Lib.hid (show zSetC.size = (setC x (.slice da dn dc)).size from rfl)
          have UX := up_alloc wr (.cells (setC x (.slice da dn dc)) 44)
          have BX := Lib.hid (Blk.new wr 44 (setC x (.slice da dn dc)))
          have SR := Lib.hid (sright_any (wr.alloc (.cells (setC x (.slice da dn dc)) 44)) x (.slice da dn dc) (IsRow.up dp UX))
          rw [HRX.out] at SR
          have U4 := Lib.hid (UW.out.trans UX)
          clear UX dp
          generalize setC x (.slice da dn dc) = C at *
          go_wp2_with (first
            | ((with_reducible refine wg_load 44 (.tmp 90) ?_); refine wl_part rfl 44 (.tmp 90) rfl sb (so + k * 11) rfl C SG.out _ Try.underlying44 rfl HSI.out ?_)
            | ((with_reducible refine wg_alloc 44 ?_); refine wpList_alloc_blk rfl 44 rfl zSetC zero_set ?_)
            | ((with_reducible refine wg_store 44 (.tmp 18) (.tmp 91) ?_); refine ws_new wr rfl 44 (.tmp 18) (.tmp 91) rfl C 44 zSetC rfl rfl rfl HSI.out HZ.out H1.out ?_)
            | ((with_reducible refine wg_load 44 (.tmp 18) ?_); refine wpList_load_blkG rfl 44 (.tmp 18) rfl wr.heap.size rfl 44 _ BX.out _ Try.underlying44 rfl HSI.out ?_))
          refine SR.out.mono ?_
          rintro e w5 ⟨rfl, U5⟩
          have U6 := Lib.hid (U4.out.trans U5)
          clear U5 SR
          go_wp2_with fail
          refine ⟨⟨k + 1, hlt, by simp, U6.out⟩, ?_⟩
          simp only [intOf]
          omega
        · obtain rfl : k = l2.length := by omega
          have b3 : ((l2.length : Int) < (l2.length : Int)) = False := by simp
          have BS := Lib.hid (setsBytes_any wr n2 (by have := HN2.out; omega) (.slice la2 l2.length lc2) l2 (OSS.out.up UW.out) HW2.out)
          have UWW := Lib.hid (UR2.out.trans UW.out)
          go_wp2_with fail
          refine BS.out.mono ?_
          rintro e w6 (⟨hno, _⟩ | ⟨mb, v13, hsome, rfl, O13, U6⟩)
          · rw [HO.out] at hno; cases hno
          rw [HO.out] at hsome
          obtain rfl := Option.some.inj hsome
          have UZ := Lib.hid (UWW.out.trans U6)
          have C1 := toStr w6 _ b O13.ones
          have C2 := toStr w6 _ b (HB.out.up UZ.out)
          obtain ⟨qa, qc, rfl⟩ := O13.ones.slice
          generalize strOf b = sm at *
          clear O13 U6 hsome BS
          go_wp2_with fail
          go_ret
          exact ⟨rfl, UZ.out⟩
  have HS := Lib.hid hsome
  have U4 := Lib.hid (U2.out.trans U3)
  have O5h := Lib.hid O5.ones
  have RM := Lib.hid (readS_any w3 v5 m O5.ones)
  rw [readS_there hsome HWF.out] at RM
  obtain ⟨xa, xc, rfl⟩ := O5.ones.slice
  clear hsome U3 BS O5
  go_wp2_with fail
  refine RM.out.mono ?_
  rintro e w4 (⟨hbad, _⟩ | ⟨n', l', v6, hs, rfl, OS6, U5⟩)
  · cases hbad
  simp only [Option.some.injEq, Prod.mk.injEq] at hs
  obtain ⟨rfl, rfl⟩ := hs
  have U6 := Lib.hid (U4.out.trans U5)
  have SL := Lib.hid (sameList_any w4 v6 (.slice la l.length lc) l l OS6.sets (HV.out.up U6.out))
  rw [decide_eq_true rfl] at SL
  have O6 := Lib.hid (O5h.out.up U5)
  clear U5 OS6 RM O5h
  go_wp2_with fail
  refine SL.out.mono ?_
  rintro e w5 ⟨rfl, U7⟩
  have U8 := Lib.hid (U6.out.trans U7)
  have O8 := Lib.hid (O6.out.up U7)
  have hx1 : next ^^^ 1 < 18446744073709551616 := Nat.xor_lt_two_pow (n := 64) hn (by omega)
  have BS := Lib.hid (setsBytes_any w5 (next ^^^ 1) hx1 _ l (HV.out.up U8.out) HWF.out)
  have XR := u64_xor_nat next 1 hn (by omega)
  have XNE := Lib.hid (xor_one_ne next)
  rw [show ((1 : Nat) : Int) = 1 from rfl] at XR
  clear U7 SL O6
  generalize next ^^^ 1 = nx at *
  go_wp2_with fail
  refine BS.out.mono ?_
  rintro e w6 (⟨hno, rfl, U9⟩ | ⟨m2, v7, hsome2, rfl, O9, U9⟩)
  · have U10 := Lib.hid (U8.out.trans U9)
    clear BS hno U9
    have HBX := Lib.hid (HB.out.up U10.out)
    go_wp2_with (first
      | (at_builtin; refine wpList_fresh_ones byteCell byteCell_one rfl (.tmp 70) (.tmp 71) 29 rfl 5 (.int .u8 0) 1 Try.underlying29 info_u8 rfl rfl (.slice ba b.length bc) b rfl HBX.out hb1.out ?_))
    intro vq wq hoq upq
    have UQ := Lib.hid (U10.out.trans upq)
    have RD := Lib.hid (readS_any wq vq b hoq.ones)
    clear upq
    obtain ⟨ca, cc, rfl⟩ := hoq.ones.slice
    clear hoq
    go_wp2_with fail
    refine RD.out.mono ?_
    rintro e wr2 hrd
    rcases hrd with ⟨ho, rfl, Ur⟩ | ⟨n2, l2, v3, ho, rfl, OS, Ur⟩
    · have UZ := Lib.hid (UQ.out.trans Ur)
      clear RD ho Ur
      go_wp2_with fail
      go_ret
      exact ⟨rfl, UZ.out⟩
    · have HO := Lib.hid (readS_back ho)
      have UR2 := Lib.hid (UQ.out.trans Ur)
      have OSS := Lib.hid OS.sets
      have HW2 := Lib.hid (readS_wf ho)
      have HR2 := Lib.hid (setsO_some HO.out).2.2.1
      have HN2 := Lib.hid (setsO_some HO.out).1
      have hl2 : l2.length ≤ 32 := (setsO_some HO.out).2.1
      obtain ⟨la2, lc2, rfl⟩ := OSS.out.slice
      clear RD ho Ur OS
      go_wp2_with fail
      go_loopw [88] (fun i wr => ∃ k : Nat, k ≤ l2.length ∧ i = .int .i64 k ∧ Up wr2 wr) (fun i _ => l2.length - (intOf i).toNat)
      case atStart => exact ⟨0, Nat.zero_le _, rfl, Up.refl _⟩
      case round =>
        obtain ⟨k, hk, rfl, ur⟩ := hrel
        have UW := Lib.hid ur
        clear ur
        by_cases hlt : k < l2.length
        · have b3 : ((k : Int) < (l2.length : Int)) = True := by simp; omega
          obtain ⟨sb, so, rfl, _, sg⟩ := sets_at (OSS.out.up UW.out) (by omega)
          obtain ⟨da, dn, dc, rg, dp⟩ := sg k hlt
          have SG := Lib.hid rg
          have HRX := Lib.hid (HR2.out l2[k] (List.getElem_mem hlt))
          clear sg rg
          generalize l2[k] = x at *
          have HSI := Lib.hid (info_setV x (.slice da dn dc))
          have H1 := Lib.hid (setC_one x da dn dc)
          have HZ := Lib.hid (show zSetC.size = (setC x (.slice da dn dc)).size from rfl)
          have UX := up_alloc wr (.cells (setC x (.slice da dn dc)) 44)
          have BX := Lib.hid (Blk.new wr 44 (setC x (.slice da dn dc)))
          have SR := Lib.hid (sright_any (wr.alloc (.cells (setC x (.slice da dn dc)) 44)) x (.slice da dn dc) (IsRow.up dp UX))
          rw [HRX.out] at SR
          have U4 := Lib.hid (UW.out.trans UX)
          clear UX dp
          generalize setC x (.slice da dn dc) = C at *
          go_wp2_with (first
            | ((with_reducible refine wg_load 44 (.tmp 90) ?_); refine wl_part rfl 44 (.tmp 90) rfl sb (so + k * 11) rfl C SG.out _ Try.underlying44 rfl HSI.out ?_)
            | ((with_reducible refine wg_alloc 44 ?_); refine wpList_alloc_blk rfl 44 rfl zSetC zero_set ?_)
            | ((with_reducible refine wg_store 44 (.tmp 18) (.tmp 91) ?_); refine ws_new wr rfl 44 (.tmp 18) (.tmp 91) rfl C 44 zSetC rfl rfl rfl HSI.out HZ.out H1.out ?_)
            | ((with_reducible refine wg_load 44 (.tmp 18) ?_); refine wpList_load_blkG rfl 44 (.tmp 18) rfl wr.heap.size rfl 44 _ BX.out _ Try.underlying44 rfl HSI.out ?_))
          refine SR.out.mono ?_
          rintro e w5 ⟨rfl, U5⟩
          have U6 := Lib.hid (U4.out.trans U5)
          clear U5 SR
          go_wp2_with fail
          refine ⟨⟨k + 1, hlt, by simp, U6.out⟩, ?_⟩
          simp only [intOf]
          omega
        · obtain rfl : k = l2.length := by omega
          have b3 : ((l2.length : Int) < (l2.length : Int)) = False := by simp
          have BS := Lib.hid (setsBytes_any wr n2 (by have := HN2.out; omega) (.slice la2 l2.length lc2) l2 (OSS.out.up UW.out) HW2.out)
          have UWW := Lib.hid (UR2.out.trans UW.out)
          go_wp2_with fail
          refine BS.out.mono ?_
          rintro e w6 (⟨hno, _⟩ | ⟨mb, v13, hsome, rfl, O13, U6⟩)
          · rw [HO.out] at hno; cases hno
          rw [HO.out] at hsome
          obtain rfl := Option.some.inj hsome
          have UZ := Lib.hid (UWW.out.trans U6)
          have C1 := toStr w6 _ b O13.ones
          have C2 := toStr w6 _ b (HB.out.up UZ.out)
          obtain ⟨qa, qc, rfl⟩ := O13.ones.slice
          generalize strOf b = sm at *
          clear O13 U6 hsome BS
          go_wp2_with fail
          go_ret
          exact ⟨rfl, UZ.out⟩
  have U10 := Lib.hid (U8.out.trans U9)
  have hne : m ≠ m2 := fun h => by
    subst h
    exact XNE.out (setsO_inj hsome2 HS.out HWF.out HWF.out).1
  have C1 := toStr w6 _ m (O8.out.up U9)
  have C2 := toStr w6 _ m2 O9.ones
  have ST := str_test m m2
  rw [decide_eq_false hne] at ST
  obtain ⟨ya, yc, rfl⟩ := O9.ones.slice
  generalize strOf m = s1 at *
  generalize strOf m2 = s2 at *
  clear BS O9 U9 hne hsome2
  have HBX := Lib.hid (HB.out.up U10.out)
  go_wp2_with (first
    | (at_builtin; refine wpList_fresh_ones byteCell byteCell_one rfl (.tmp 70) (.tmp 71) 29 rfl 5 (.int .u8 0) 1 Try.underlying29 info_u8 rfl rfl (.slice ba b.length bc) b rfl HBX.out hb1.out ?_))
  intro vq wq hoq upq
  have UQ := Lib.hid (U10.out.trans upq)
  have RD := Lib.hid (readS_any wq vq b hoq.ones)
  clear upq
  obtain ⟨ca, cc, rfl⟩ := hoq.ones.slice
  clear hoq
  go_wp2_with fail
  refine RD.out.mono ?_
  rintro e wr2 hrd
  rcases hrd with ⟨ho, rfl, Ur⟩ | ⟨n2, l2, v3, ho, rfl, OS, Ur⟩
  · have UZ := Lib.hid (UQ.out.trans Ur)
    clear RD ho Ur
    go_wp2_with fail
    go_ret
    exact ⟨rfl, UZ.out⟩
  · have HO := Lib.hid (readS_back ho)
    have UR2 := Lib.hid (UQ.out.trans Ur)
    have OSS := Lib.hid OS.sets
    have HW2 := Lib.hid (readS_wf ho)
    have HR2 := Lib.hid (setsO_some HO.out).2.2.1
    have HN2 := Lib.hid (setsO_some HO.out).1
    have hl2 : l2.length ≤ 32 := (setsO_some HO.out).2.1
    obtain ⟨la2, lc2, rfl⟩ := OSS.out.slice
    clear RD ho Ur OS
    go_wp2_with fail
    go_loopw [88] (fun i wr => ∃ k : Nat, k ≤ l2.length ∧ i = .int .i64 k ∧ Up wr2 wr) (fun i _ => l2.length - (intOf i).toNat)
    case atStart => exact ⟨0, Nat.zero_le _, rfl, Up.refl _⟩
    case round =>
      obtain ⟨k, hk, rfl, ur⟩ := hrel
      have UW := Lib.hid ur
      clear ur
      by_cases hlt : k < l2.length
      · have b3 : ((k : Int) < (l2.length : Int)) = True := by simp; omega
        obtain ⟨sb, so, rfl, _, sg⟩ := sets_at (OSS.out.up UW.out) (by omega)
        obtain ⟨da, dn, dc, rg, dp⟩ := sg k hlt
        have SG := Lib.hid rg
        have HRX := Lib.hid (HR2.out l2[k] (List.getElem_mem hlt))
        clear sg rg
        generalize l2[k] = x at *
        have HSI := Lib.hid (info_setV x (.slice da dn dc))
        have H1 := Lib.hid (setC_one x da dn dc)
        have HZ := Lib.hid (show zSetC.size = (setC x (.slice da dn dc)).size from rfl)
        have UX := up_alloc wr (.cells (setC x (.slice da dn dc)) 44)
        have BX := Lib.hid (Blk.new wr 44 (setC x (.slice da dn dc)))
        have SR := Lib.hid (sright_any (wr.alloc (.cells (setC x (.slice da dn dc)) 44)) x (.slice da dn dc) (IsRow.up dp UX))
        rw [HRX.out] at SR
        have U4 := Lib.hid (UW.out.trans UX)
        clear UX dp
        generalize setC x (.slice da dn dc) = C at *
        go_wp2_with (first
          | ((with_reducible refine wg_load 44 (.tmp 90) ?_); refine wl_part rfl 44 (.tmp 90) rfl sb (so + k * 11) rfl C SG.out _ Try.underlying44 rfl HSI.out ?_)
          | ((with_reducible refine wg_alloc 44 ?_); refine wpList_alloc_blk rfl 44 rfl zSetC zero_set ?_)
          | ((with_reducible refine wg_store 44 (.tmp 18) (.tmp 91) ?_); refine ws_new wr rfl 44 (.tmp 18) (.tmp 91) rfl C 44 zSetC rfl rfl rfl HSI.out HZ.out H1.out ?_)
          | ((with_reducible refine wg_load 44 (.tmp 18) ?_); refine wpList_load_blkG rfl 44 (.tmp 18) rfl wr.heap.size rfl 44 _ BX.out _ Try.underlying44 rfl HSI.out ?_))
        refine SR.out.mono ?_
        rintro e w5 ⟨rfl, U5⟩
        have U6 := Lib.hid (U4.out.trans U5)
        clear U5 SR
        go_wp2_with fail
        refine ⟨⟨k + 1, hlt, by simp, U6.out⟩, ?_⟩
        simp only [intOf]
        omega
      · obtain rfl : k = l2.length := by omega
        have b3 : ((l2.length : Int) < (l2.length : Int)) = False := by simp
        have BS := Lib.hid (setsBytes_any wr n2 (by have := HN2.out; omega) (.slice la2 l2.length lc2) l2 (OSS.out.up UW.out) HW2.out)
        have UWW := Lib.hid (UR2.out.trans UW.out)
        go_wp2_with fail
        refine BS.out.mono ?_
        rintro e w6 (⟨hno, _⟩ | ⟨mb, v13, hsome, rfl, O13, U6⟩)
        · rw [HO.out] at hno; cases hno
        rw [HO.out] at hsome
        obtain rfl := Option.some.inj hsome
        have UZ := Lib.hid (UWW.out.trans U6)
        have C1 := toStr w6 _ b O13.ones
        have C2 := toStr w6 _ b (HB.out.up UZ.out)
        obtain ⟨qa, qc, rfl⟩ := O13.ones.slice
        generalize strOf b = sm at *
        clear O13 U6 hsome BS
        go_wp2_with fail
        go_ret
        exact ⟨rfl, UZ.out⟩

end Go.Proofs.Ythbfhlphclgnaaa
