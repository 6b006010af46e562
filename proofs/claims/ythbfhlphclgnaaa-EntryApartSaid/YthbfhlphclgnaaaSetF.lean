/- Lists of records as bytes: the document's Bytes. -/
import Derived.Test.YthbfhlphclgnaaaSetL
set_option linter.unusedSimpArgs false
set_option linter.unusedVariables false
namespace Go.Proofs.Ythbfhlphclgnaaa
open Go.RowKit Go.Sort

theorem head_number (next : Nat) : numBytes next 8 = headBytes next := by unfold headBytes; simp [putBytes]
/-- What a record that can be is made of. -/
theorem rec_facts (x : SetD) (h : rightS x = true) : ∃ (id : Nat) (name : List UInt8) (snap : Bool) (owner prev stamp nb : Nat) (root : PtrD) (dead : List PtrD), x = ⟨id, name, snap, owner, prev, stamp, (nb : Int), root, dead⟩ ∧ (nb ≤ 64 ∧ id ≤ 281474976710655 ∧ owner ≤ 281474976710655 ∧ prev ≤ 281474976710655 ∧ stamp ≤ 281474976710655) ∧ rightS ⟨id, name, snap, owner, prev, stamp, (nb : Int), root, dead⟩ = true ∧ okPut setWs [id, snapN snap, owner, prev, stamp, nb] ∧ (putBytes setWs [id, snapN snap, owner, prev, stamp, nb]).length = 34 ∧ (ptrBytes root).length = 16 ∧ goodB root ≠ false ∧ bytesO dead = some (bytesL dead) ∧ 0 < name.length ∧ name.length ≤ 1000000 ∧
    ∃ hdr, hdr = putBytes setWs [id, snapN snap, owner, prev, stamp, nb] ++ ptrBytes root ∧ recBytes ⟨id, name, snap, owner, prev, stamp, (nb : Int), root, dead⟩ = joinBytes [hdr, name, bytesL dead] ∧ okJoin [hdr, name, bytesL dead] := by
  have h2 := h
  have OKP := okPut_set h
  have OKJ := okJoin_set h
  have g6 := right_stamp h
  obtain ⟨⟨_, g1⟩, ⟨_, g2⟩, g3, ⟨g4, g5⟩, hnm, hgr, hdl, hrd, _⟩ := (rightS_iff x).1 h
  obtain ⟨id, name, snap, owner, prev, stamp, blocks, root, dead⟩ := x
  dsimp only at *
  obtain ⟨nb, rfl⟩ : ∃ n : Nat, blocks = n := ⟨blocks.toNat, by omega⟩
  refine ⟨id, name, snap, owner, prev, stamp, nb, root, dead, rfl, ⟨by omega, g1, g2, g3, g6⟩, h2, by simpa [setNs] using OKP, by simp [setWs, putBytes, numBytes_length], by unfold ptrBytes; simp [ptrWs, ptrNs, putBytes, numBytes_length], by rw [hgr]; simp, by unfold bytesO; rw [if_pos ⟨hdl, hrd⟩], by have := (nameB_iff _).1 hnm; omega, by have := (nameB_iff _).1 hnm; omega, setHead ⟨id, name, snap, owner, prev, stamp, (nb : Int), root, dead⟩, by simp [setHead, setNs], rfl, OKJ⟩
set_option maxRecDepth 100000 in
set_option maxHeartbeats 16000000 in
theorem rsetsBytes_any (w : World) (next : Nat) (hn : next < 18446744073709551616) (v : Value) (l : List SetD) (hv : IsSets w v l) (hwf : ∀ x ∈ l, x.wf) :
    Calls Try.prog 13 #[.int .u64 (next : Int), v] w fun e w' => RecPost (setsO next l) w e w' := by
  have hll := hv.length_le
  obtain ⟨la, lc, rfl⟩ := hv.slice
  have HV := Lib.hid hv
  have HWF := Lib.hid hwf
  clear hv hwf
  by_cases hnx : 281474976710656 ≤ next
  · have b1 : ((281474976710656 : Int) ≤ (next : Int)) = True := by simp; omega
    have HF := Lib.hid (show setsO next l = none by unfold setsO; rw [if_neg (by omega)])
    go_enter Try.func13, Try.ntmps13
    go_wp2_with fail
    go_ret2
    exact .inl ⟨HF.out, rfl, Up.refl w⟩
  have b1 : ((281474976710656 : Int) ≤ (next : Int)) = False := by simp; omega
  by_cases hlen : 32 < l.length
  · have b2 : ((32 : Int) < (l.length : Int)) = True := by simp; omega
    have HF := Lib.hid (show setsO next l = none by unfold setsO; rw [if_neg (by omega)])
    go_enter Try.func13, Try.ntmps13
    go_wp2_with fail
    go_ret2
    exact .inl ⟨HF.out, rfl, Up.refl w⟩
  have b2 : ((32 : Int) < (l.length : Int)) = False := by simp; omega
  have NB := Lib.hid (number_any w next hn 8 (by omega))
  go_enter Try.func13, Try.ntmps13
  go_wp2_with fail
  refine NB.out.mono ?_
  rintro e w2 ⟨v6, rfl, O6, U2⟩
  rw [head_number] at O6
  obtain ⟨ha, hc, rfl⟩ := O6.ones.slice
  have OT := Lib.hid (OwnTexts.one w2 w.heap.size U2.size ha _ hc _ O6)
  have U3 := Lib.hid (U2.trans (up_alloc w2 (.cells #[.slice ha (headBytes next).length hc] 29)))
  clear O6 U2 NB
  generalize (headBytes next).length = hn8 at *
  go_wp2_with fail
  go_loopw [8, 38] (fun tv i wr => ∃ k : Nat, k ≤ l.length ∧ i = .int .i64 k ∧ OwnTexts wr w.heap.size tv (headBytes next :: (l.take k).map recBytes) ∧ Up w wr ∧ ∀ x ∈ l.take k, rightS x = true) (fun _ i _ => l.length - (intOf i).toNat)
  case atStart => exact ⟨0, Nat.zero_le _, rfl, OT.out, U3.out, fun x hx => by simp at hx⟩
  case round =>
    obtain ⟨k, hk, rfl, ot, ur, rt⟩ := hrel
    have OR := Lib.hid ot
    have UR := Lib.hid ur
    have RT := Lib.hid rt
    clear ot ur rt OT U3
    by_cases hlt : k < l.length
    · have b3 : ((k : Int) < (l.length : Int)) = True := by simp; omega
      obtain ⟨sb, so, rfl, _, sg⟩ := sets_at (HV.out.up UR.out) (by omega)
      obtain ⟨da, dn, dc, rg, dp⟩ := sg k hlt
      have SG := Lib.hid rg
      have DP := Lib.hid dp
      have WX := Lib.hid (HWF.out l[k] (List.getElem_mem hlt))
      have MEM := Lib.hid (List.getElem_mem hlt)
      have TK := Lib.hid (show l.take (k + 1) = l.take k ++ [l[k]] from List.take_succ_eq_append_getElem hlt)
      clear sg rg dp
      generalize l[k] = x at *
      have HSI := Lib.hid (info_setV x (.slice da dn dc))
      have H1 := Lib.hid (setC_one x da dn dc)
      have HZ := Lib.hid (show zSetC.size = (setC x (.slice da dn dc)).size from rfl)
      have UX := up_alloc wr (.cells (setC x (.slice da dn dc)) 44)
      have BX := Lib.hid (Blk.new wr 44 (setC x (.slice da dn dc)))
      have RC := Lib.hid (fun W U => srright_any W x (.slice da dn dc) (IsRow.up DP.out U))
      have PB := Lib.hid (fun W => refBytes_any W x.root WX.out.2.2.2.2.2.1)
      have LB := Lib.hid (fun W U => rbytes_any W (.slice da dn dc) x.dead (IsRow.up DP.out U) WX.out.2.2.2.2.2.2)
      have U4 := Lib.hid UX
      clear UX
      go_wp2_with (first
        | ((with_reducible refine wg_load 44 (.tmp 40) ?_); refine wl_part rfl 44 (.tmp 40) rfl sb (so + k * 11) rfl (setC x (.slice da dn dc)) SG.out _ Try.underlying44 rfl HSI.out ?_)
        | ((with_reducible refine wg_alloc 44 ?_); refine wpList_alloc_blk rfl 44 rfl zSetC zero_set ?_)
        | ((with_reducible refine wg_store 44 (.tmp 10) (.tmp 41) ?_); refine ws_new wr rfl 44 (.tmp 10) (.tmp 41) rfl (setC x (.slice da dn dc)) 44 zSetC rfl rfl rfl HSI.out HZ.out H1.out ?_)
        | ((with_reducible refine wg_load 44 (.tmp 10) ?_); refine wpList_load_blkG rfl 44 (.tmp 10) rfl wr.heap.size rfl 44 _ BX.out _ Try.underlying44 rfl HSI.out ?_))
      cases hrs : rightS x
      · have HF := Lib.hid (show setsO next l = none from setsO_none MEM.out hrs)
        rw [hrs] at RC
        refine (RC.out _ U4.out).mono ?_
        rintro e w5 ⟨rfl, U5⟩
        have U6 := Lib.hid (UR.out.trans (U4.out.trans U5))
        clear U5
        go_wp2_with fail
        go_ret2
        exact .inl ⟨HF.out, rfl, U6.out⟩
      rw [hrs] at RC
      obtain ⟨id, name, snap, owner, prev, stamp, nb, root, dead, rfl, hnb, RXh, POh, PLh, RLh, PBOh, DBOh, NM1h, NM2h, hdr, HEh, RBh, OKJh⟩ := rec_facts x hrs
      have RX := Lib.hid RXh
      have PO := Lib.hid POh
      have PL := Lib.hid PLh
      have RL := Lib.hid RLh
      have PBO := Lib.hid PBOh
      have NM1 := Lib.hid NM1h
      have NM2 := Lib.hid NM2h
      have HE := Lib.hid HEh
      obtain ⟨lbs, hlbs⟩ : ∃ y, y = bytesL dead := ⟨_, rfl⟩
      rw [← hlbs] at DBOh RBh OKJh
      obtain ⟨bs, hbs⟩ : ∃ y, recBytes ⟨id, name, snap, owner, prev, stamp, (nb : Int), root, dead⟩ = y := ⟨_, rfl⟩
      rw [hbs] at RBh
      have HBS := Lib.hid hbs
      have DBO := Lib.hid DBOh
      have RB := Lib.hid RBh
      have OKJ := Lib.hid OKJh
      clear hrs RXh POh PLh RLh PBOh DBOh NM1h NM2h HEh RBh OKJh hlbs hbs
      have HIN := Lib.hid (info_pcA root)
      refine (RC.out _ U4.out).mono ?_
      rintro e w2 ⟨rfl, U2⟩
      have B2 := Lib.hid (BX.out.up U2)
      have U3 := Lib.hid (U4.out.trans U2)
      have U3s := Lib.hid U3.out.size
      have SX := Lib.hid (show wr.heap.size < w2.heap.size from B2.out.lt)
      obtain ⟨c0, c1, c2, c3, c4, c5, c6, R7, c10⟩ := B2.out.setAt.rfl'
      clear U2 RC BX U4
      have UA := up_alloc w2 (.cells #[.int .i64 8, .int .i64 1, .int .i64 8, .int .i64 8, .int .i64 8, .int .i64 1] 3)
      have sza := sz_alloc w2 (.cells #[.int .i64 8, .int .i64 1, .int .i64 8, .int .i64 8, .int .i64 8, .int .i64 1] 3)
      have e0 := UA.cell c0
      have e3 := UA.cell c3
      have e4 := UA.cell c4
      have e5 := UA.cell c5
      have e6 := UA.cell c6
      have wn := wrap_u64_nat nb (by omega)
      have PUTH : ∀ m : Nat, m = snapN snap → Hid (Calls Try.prog 30 #[.slice (some ⟨w2.heap.size, 0, none⟩) 6 6, .slice (some ⟨w2.heap.size + 1, 0, none⟩) 6 6] ((w2.alloc (.cells #[.int .i64 8, .int .i64 1, .int .i64 8, .int .i64 8, .int .i64 8, .int .i64 1] 3)).alloc (.cells #[.int .u64 (id : Int), .int .u64 (m : Int), .int .u64 (owner : Int), .int .u64 (prev : Int), .int .u64 (stamp : Int), .int .u64 (nb : Int)] 22)) (fun e w' => ∃ v, e = .returned (.tuple #[v, .int .i64 0]) ∧ Own byteCell 5 w' (w2.heap.size + 2) v (putBytes setWs [id, snapN snap, owner, prev, stamp, nb]) ∧ Up w2 w' ∧ w2.heap.size + 2 ≤ w'.heap.size)) := fun m hm => by
        subst hm
        have UB := up_alloc (w2.alloc (.cells #[.int .i64 8, .int .i64 1, .int .i64 8, .int .i64 8, .int .i64 8, .int .i64 1] 3)) (.cells #[.int .u64 (id : Int), .int .u64 (snapN snap : Int), .int .u64 (owner : Int), .int .u64 (prev : Int), .int .u64 (stamp : Int), .int .u64 (nb : Int)] 22)
        have i1 : IsOnes intCell _ (.slice (some ⟨w2.heap.size, 0, none⟩) 6 6) setWs := (IsOnes.litAt (f := intCell) w2 w2.heap.size rfl #[.int .i64 8, .int .i64 1, .int .i64 8, .int .i64 8, .int .i64 8, .int .i64 1] 3 (0, 0) setWs 6 rfl (by unfold maxLen; omega) rfl).up UB
        have i2 : IsOnes u64Cell _ (.slice (some ⟨w2.heap.size + 1, 0, none⟩) 6 6) [id, snapN snap, owner, prev, stamp, nb] := IsOnes.litAt (f := u64Cell) (w2.alloc (.cells #[.int .i64 8, .int .i64 1, .int .i64 8, .int .i64 8, .int .i64 8, .int .i64 1] 3)) (w2.heap.size + 1) (by rw [sza]) #[.int .u64 (id : Int), .int .u64 (snapN snap : Int), .int .u64 (owner : Int), .int .u64 (prev : Int), .int .u64 (stamp : Int), .int .u64 (nb : Int)] 22 (0, 0) [id, snapN snap, owner, prev, stamp, nb] 6 rfl (by unfold maxLen; omega) rfl
        have hs1 : snapN snap ≤ 1 := by unfold snapN; split <;> omega
        refine Lib.hid ((refPut_any _ _ setWs i1 (by simp [setWs]) _ _ i2 (by intro n hn; simp at hn; omega)).mono fun e w' h => ?_)
        rcases h with ⟨_, v, rfl, ho, hu⟩ | ⟨hno, _⟩
        · refine ⟨v, rfl, ?_, (UA.trans UB).trans hu, ?_⟩
          · rw [sz_alloc, sza] at ho
            exact ho
          · have := hu.size
            rw [sz_alloc, sza] at this
            exact this
        · exact absurd PO.out hno
      have hsv : ∃ m : Int, Hid (Calls Try.prog 30 #[.slice (some ⟨w2.heap.size, 0, none⟩) 6 6, .slice (some ⟨w2.heap.size + 1, 0, none⟩) 6 6] ((w2.alloc (.cells #[.int .i64 8, .int .i64 1, .int .i64 8, .int .i64 8, .int .i64 8, .int .i64 1] 3)).alloc (.cells #[.int .u64 (id : Int), .int .u64 m, .int .u64 (owner : Int), .int .u64 (prev : Int), .int .u64 (stamp : Int), .int .u64 (nb : Int)] 22)) (fun e w' => ∃ v, e = .returned (.tuple #[v, .int .i64 0]) ∧ Own byteCell 5 w' (w2.heap.size + 2) v (putBytes setWs [id, snapN snap, owner, prev, stamp, nb]) ∧ Up w2 w' ∧ w2.heap.size + 2 ≤ w'.heap.size)) ∧ ((snap = true ∧ m = 1) ∨ (snap = false ∧ m = 0)) := by
        cases snap
        · exact ⟨0, PUTH 0 rfl, .inr ⟨rfl, rfl⟩⟩
        · exact ⟨1, PUTH 1 rfl, .inl ⟨rfl, rfl⟩⟩
      clear PUTH
      obtain ⟨mv, PUT, hcase⟩ := hsv
      rcases hcase with ⟨rfl, rfl⟩ | ⟨rfl, rfl⟩
      all_goals
        go_wp2_with fail
        refine PUT.out.mono ?_
        rintro e w4 ⟨v5, rfl, O5, U5, s4⟩
        have O5 := Lib.hid O5
        have B4 := Lib.hid (B2.out.up U5)
        have U6 := Lib.hid (U3.out.trans U5)
        have S4 := Lib.hid s4
        clear s4 c0 c1 c2 c3 c4 c5 c6 R7 c10 e0 e3 e4 e5 e6 UA sza wn PUT B2 U3 U5
        obtain ⟨c0, c1, c2, c3, c4, c5, c6, R7, c10⟩ := B4.out.setAt.rfl'
        go_wp2_with (first
          | ((with_reducible refine wg_load 41 (.tmp 66) ?_); refine wl_part rfl 41 (.tmp 66) rfl wr.heap.size 7 rfl (pcA root) R7.out _ Try.underlying41 rfl HIN.out ?_))
        refine (PB.out w4).mono ?_
        rintro e w5 hpb
        rcases hpb with ⟨_, v7, rfl, O7, U7⟩ | ⟨hbad, _⟩
        rotate_left
        · exact absurd hbad PBO.out
        have O7 := Lib.hid O7
        have S45 := Lib.hid U7.size
        have OO := Lib.hid O5.out
        have O5' := Lib.hid (O5.out.up U7)
        have B5 := Lib.hid (B4.out.up U7)
        have U8 := Lib.hid (U6.out.trans U7)
        clear c0 c1 c2 c3 c4 c5 c6 R7 c10
        obtain ⟨c0, c1, c2, c3, c4, c5, c6, R7, c10⟩ := B5.out.setAt.rfl'
        clear O5 B4 U6 U7
        go_wp2_with fail
        refine (LB.out w5 U8.out).mono ?_
        rintro e w6 hlb
        rcases hlb with ⟨hbad, _⟩ | ⟨lbs', v8, hsome, rfl, O8, U9⟩
        · rw [DBO.out] at hbad; cases hbad
        rw [DBO.out] at hsome
        obtain rfl := Option.some.inj hsome
        have O8 := Lib.hid O8
        have O6 := Lib.hid (O5'.out.up U9)
        have P6 := Lib.hid (O7.out.up U9)
        have B6 := Lib.hid (B5.out.up U9)
        have U10 := Lib.hid (U8.out.trans U9)
        have S5 := Lib.hid (show w5.heap.size ≤ w6.heap.size from U9.size)
        clear c0 c1 c2 c3 c4 c5 c6 R7 c10
        obtain ⟨c0, c1, c2, c3, c4, c5, c6, R7, c10⟩ := B6.out.setAt.rfl'
        clear O5' O7 B5 U8 U9 hsome
        go_wp2_with fail
        have upd : Up w6 w6.drew := (Up.refl w6).drew
        have Od := Lib.hid (O6.out.up upd)
        have Pd := Lib.hid (P6.out.up upd).ones
        have O8d := Lib.hid (O8.out.up upd)
        have Ud := Lib.hid (U10.out.trans upd)
        have c1d := upd.cell c1
        have sd := upd.size
        have SB := Lib.hid (show w2.heap.size + 2 ≤ w6.drew.heap.size by have := S4.out; have := S45.out; have := S5.out; omega)
        have SW := Lib.hid (show wr.heap.size < w2.heap.size + 2 by have := U3s.out; omega)
        clear c0 c1 c2 c3 c4 c5 c6 R7 c10
        refine wp_region_any (by kernel_rfl) ?_
        change wpAny _ _ _ _ 14 _ _ w6.drew
        generalize w6.drew = w7 at *
        refine wpAny_take (i := 0) (v := v5) rfl (by kernel_rfl) (by kernel_rfl) (by kernel_rfl) (fun _ _ _ h => h) (.inl ⟨rfl, fun _ => rfl⟩) ?_
        refine wpAny_take (i := 1) (v := v7) rfl (by kernel_rfl) (by kernel_rfl) (by kernel_rfl) (fun _ _ _ h => h) (.inl ⟨rfl, fun _ => rfl⟩) ?_
        refine wpAny_take (i := 3) (v := .pointer (some ⟨wr.heap.size, 1, none⟩)) rfl (by kernel_rfl) (by kernel_rfl) (by kernel_rfl) (fun _ _ _ h => h) (.inl ⟨rfl, fun _ => rfl⟩) ?_
        refine wpAny_take (i := 6) (v := v8) rfl (by kernel_rfl) (by kernel_rfl) (by kernel_rfl) (fun _ _ _ h => h) (.inl ⟨rfl, fun _ => rfl⟩) ?_
        simp only [Act.put, List.getElem_toArray, List.getElem_cons_succ, List.getElem_cons_zero, List.setIfInBounds_toArray, List.set_cons_zero, List.set_cons_succ]
        have hb1 := Lib.hid (show ((putBytes setWs [id, snapN _, owner, prev, stamp, nb]).length + (ptrBytes root).length) * 1 ≤ 140737488355328 by rw [PL.out, RL.out]; omega)
        have hb2 := Lib.hid (show (putBytes setWs [id, snapN _, owner, prev, stamp, nb]).length + (ptrBytes root).length ≤ 9223372036854775807 by rw [PL.out, RL.out]; omega)
        refine wpAny_twoX 2 4 _ _ (by kernel_rfl) rfl rfl rfl rfl ?_ ?_
        · refine wp_append_ones byteCell byteCell_one (.tmp 78) (.tmp 79) 29 rfl (w2.heap.size + 2) 5 (.int .u8 0) 1 Try.underlying29 info_u8 rfl v5 _ rfl Od.out v7 _ rfl Pd.out hb1.out hb2.out SB.out ?_
          intro va w8 hoa hga hba
          have c1e := (World.cell?_of_block (Below.block hba wr.heap.size SW.out)).trans c1d
          refine wpAny_oneX 4 _ (by kernel_rfl) rfl rfl ?_
          refine wp_load_cell 9 (.tmp 81) rfl ⟨wr.heap.size, 1, none⟩ rfl _ c1e (by kernel_rfl) ?_
          refine wpAny_oneX 5 _ (by kernel_rfl) rfl rfl ?_
          refine wp_str_bytes (.tmp 82) rfl name rfl NM1.out NM2.out ?_
          intro vn w9 hn hu hnb
          rw [← HE.out] at hoa
          have HO := Lib.hid (hoa.up hu)
          have HN := Lib.hid (hn)
          have H8 := Lib.hid ((O8d.out.kept_late OO.out S45.out hga).up hu)
          have HU := Lib.hid ((Ud.out.below_trans hba (Nat.le_of_lt SW.out)).trans hu)
          clear hoa hga hba hn hu hnb Od Pd O8d Ud
          obtain ⟨aa, ac, rfl⟩ := HO.out.ones.slice
          obtain ⟨na, nc, rfl⟩ := HN.out.slice
          obtain ⟨la, lc, rfl⟩ := H8.out.ones.slice
          have JN := Lib.hid (refJoin_any _ _ _ (three_texts w9 aa na la _ _ _ ac nc lc _ _ _ HO.out.ones HN.out H8.out.ones))
          have sz9 := sz_alloc w9 (.cells #[.slice aa hdr.length ac, .slice na name.length nc, .slice la lbs.length lc] 29)
          have UA9 := Lib.hid (up_alloc w9 (.cells #[.slice aa hdr.length ac, .slice na name.length nc, .slice la lbs.length lc] 29))
          refine wpAny_oneK 7 _ (by kernel_rfl) rfl rfl ?_
          intro K hK
          go_simp
          refine hK _ _ ?_
          refine wpAny_oneK 8 _ (by kernel_rfl) rfl rfl ?_
          intro K2 hK2
          go_simp
          refine JN.out.mono ?_
          rintro e w10 hj
          rcases hj with ⟨_, vj, rfl, OJ, UJ⟩ | ⟨hbad, _⟩
          rotate_left
          · exact absurd OKJ.out hbad
          refine hK2 _ _ ?_
          refine wpAny_take (i := 9) (v := .tuple #[vj, .int .i64 0]) rfl (by kernel_rfl) (by kernel_rfl) (by kernel_rfl) (fun _ _ _ h => h) (.inl ⟨rfl, fun _ => rfl⟩) ?_
          simp only [Act.put, List.getElem_toArray, List.getElem_cons_succ, List.getElem_cons_zero, List.setIfInBounds_toArray, List.set_cons_zero, List.set_cons_succ]
          refine wpAny_take (i := 10) (v := vj) rfl (by kernel_rfl) (by kernel_rfl) (by kernel_rfl) (fun _ _ _ h => h) (.inl ⟨rfl, fun _ => rfl⟩) ?_
          simp only [Act.put, List.getElem_toArray, List.getElem_cons_succ, List.getElem_cons_zero, List.setIfInBounds_toArray, List.set_cons_zero, List.set_cons_succ]
          refine wpAny_take (i := 11) (v := .int .i64 0) rfl (by kernel_rfl) (by kernel_rfl) (by kernel_rfl) (fun _ _ _ h => h) (.inl ⟨rfl, fun _ => rfl⟩) ?_
          simp only [Act.put, List.getElem_toArray, List.getElem_cons_succ, List.getElem_cons_zero, List.setIfInBounds_toArray, List.set_cons_zero, List.set_cons_succ]
          refine wpAny_take (i := 12) (v := vj) rfl (by kernel_rfl) (by kernel_rfl) (by kernel_rfl) (fun _ _ _ h => h) (.inl ⟨rfl, fun _ => rfl⟩) ?_
          simp only [Act.put, List.getElem_toArray, List.getElem_cons_succ, List.getElem_cons_zero, List.setIfInBounds_toArray, List.set_cons_zero, List.set_cons_succ]
          refine wpAny_take (i := 13) (v := .int .i64 0) rfl (by kernel_rfl) (by kernel_rfl) (by kernel_rfl) (fun _ _ _ h => h) (.inl ⟨rfl, fun _ => rfl⟩) ?_
          simp only [Act.put, List.getElem_toArray, List.getElem_cons_succ, List.getElem_cons_zero, List.setIfInBounds_toArray, List.set_cons_zero, List.set_cons_succ]
          refine ⟨by kernel_rfl, ?_⟩
          (try simp only [Act.put])
          rw [← RB.out] at OJ
          obtain ⟨ra, rc, rfl⟩ := OJ.ones.slice
          have o5 := OJ.mono (base' := w.heap.size) (by rw [sz9]; have := HU.out.size; have := UR.out.size; omega)
          have U6 := Lib.hid (UR.out.trans (HU.out.trans (UA9.out.trans UJ)))
          have ot := ((OR.out.up HU.out).up UA9.out).up UJ
          clear OJ UJ JN sz9 UA9 HO HN H8 HU
          obtain ⟨vs, hvl, hvo, hve⟩ := ot
          have HVL := Lib.hid hvl
          have UY := up_alloc w10 (.cells #[.slice ra bs.length rc] 29)
          have O5 := Lib.hid (show Own byteCell 5 (w10.alloc (.cells #[.slice ra bs.length rc] 29)) w.heap.size (slCell ⟨ra, bs.length, rc⟩) bs from o5.up UY)
          have HVO := Lib.hid (hvo.up UY)
          have HVE := Lib.hid (fun i a b => (hve i a b).up UY)
          have LT1 := Lib.hid (IsOnes.lit (f := slCell) w10 #[.slice ra bs.length rc] 29 (0, 0) [⟨ra, bs.length, rc⟩] 1 rfl (by unfold maxLen; omega) rfl)
          have hv33 : vs.length ≤ 33 := by
            have := hvl
            simp at this
            omega
          have hb1 := Lib.hid (show (vs.length + [(⟨ra, bs.length, rc⟩ : SlV)].length) * 24 ≤ 140737488355328 by simp; omega)
          have hb2 := Lib.hid (show vs.length + [(⟨ra, bs.length, rc⟩ : SlV)].length ≤ 9223372036854775807 by simp; omega)
          have U7 := Lib.hid (U6.out.trans UY)
          have hb3 := Lib.hid U7.out.size
          clear hvl hvo hve o5 UY hv33
          generalize bs.length = bl at *
          go_wp2_with (first
            | (at_builtin; refine wpList_append_ones slCell slCell_one rfl (.tmp 91) (.tmp 93) 50 rfl w.heap.size 29 (.slice none 0 0) 24 Try.underlying50 info_bytes rfl _ vs rfl HVO.out (.slice (some ⟨w10.heap.size, 0, none⟩) 1 1) [⟨ra, bl, rc⟩] rfl LT1.out hb1.out hb2.out hb3.out ?_))
          intro v' w12 hown hg hbl
          have OT7 := Lib.hid (OwnTexts.snoc HVL.out HVO.out HVE.out O5.out hown hg)
          have U8 := Lib.hid (U7.out.below_trans hbl (Nat.le_refl _))
          clear hown hg hbl HVO HVE O5 LT1 hb1 hb2 hb3
          go_wp2_with fail
          refine ⟨⟨k + 1, hlt, by simp, ?_, U8.out, ?_⟩, ?_⟩
          · rw [TK.out, List.map_append, List.map_cons, List.map_nil, HBS.out]
            exact OT7.out
          · rw [TK.out]
            intro y hy
            rcases List.mem_append.1 hy with hy | hy
            · exact RT.out y hy
            · simp at hy; subst hy; exact RX.out
          · simp only [intOf]
            omega
        · refine wp_load_cell 9 (.tmp 81) rfl ⟨wr.heap.size, 1, none⟩ rfl _ c1d (by kernel_rfl) ?_
          refine wpAny_twoX 2 5 _ _ (by kernel_rfl) rfl rfl rfl rfl ?_ ?_
          · refine wp_append_ones byteCell byteCell_one (.tmp 78) (.tmp 79) 29 rfl (w2.heap.size + 2) 5 (.int .u8 0) 1 Try.underlying29 info_u8 rfl v5 _ rfl Od.out v7 _ rfl Pd.out hb1.out hb2.out SB.out ?_
            intro va w8 hoa hga hba
            refine wpAny_oneX 5 _ (by kernel_rfl) rfl rfl ?_
            refine wp_str_bytes (.tmp 82) rfl name rfl NM1.out NM2.out ?_
            intro vn w9 hn hu hnb
            rw [← HE.out] at hoa
            have HO := Lib.hid (hoa.up hu)
            have HN := Lib.hid (hn)
            have H8 := Lib.hid ((O8d.out.kept_late OO.out S45.out hga).up hu)
            have HU := Lib.hid ((Ud.out.below_trans hba (Nat.le_of_lt SW.out)).trans hu)
            clear hoa hga hba hn hu hnb Od Pd O8d Ud
            obtain ⟨aa, ac, rfl⟩ := HO.out.ones.slice
            obtain ⟨na, nc, rfl⟩ := HN.out.slice
            obtain ⟨la, lc, rfl⟩ := H8.out.ones.slice
            have JN := Lib.hid (refJoin_any _ _ _ (three_texts w9 aa na la _ _ _ ac nc lc _ _ _ HO.out.ones HN.out H8.out.ones))
            have sz9 := sz_alloc w9 (.cells #[.slice aa hdr.length ac, .slice na name.length nc, .slice la lbs.length lc] 29)
            have UA9 := Lib.hid (up_alloc w9 (.cells #[.slice aa hdr.length ac, .slice na name.length nc, .slice la lbs.length lc] 29))
            refine wpAny_oneK 7 _ (by kernel_rfl) rfl rfl ?_
            intro K hK
            go_simp
            refine hK _ _ ?_
            refine wpAny_oneK 8 _ (by kernel_rfl) rfl rfl ?_
            intro K2 hK2
            go_simp
            refine JN.out.mono ?_
            rintro e w10 hj
            rcases hj with ⟨_, vj, rfl, OJ, UJ⟩ | ⟨hbad, _⟩
            rotate_left
            · exact absurd OKJ.out hbad
            refine hK2 _ _ ?_
            refine wpAny_take (i := 9) (v := .tuple #[vj, .int .i64 0]) rfl (by kernel_rfl) (by kernel_rfl) (by kernel_rfl) (fun _ _ _ h => h) (.inl ⟨rfl, fun _ => rfl⟩) ?_
            simp only [Act.put, List.getElem_toArray, List.getElem_cons_succ, List.getElem_cons_zero, List.setIfInBounds_toArray, List.set_cons_zero, List.set_cons_succ]
            refine wpAny_take (i := 10) (v := vj) rfl (by kernel_rfl) (by kernel_rfl) (by kernel_rfl) (fun _ _ _ h => h) (.inl ⟨rfl, fun _ => rfl⟩) ?_
            simp only [Act.put, List.getElem_toArray, List.getElem_cons_succ, List.getElem_cons_zero, List.setIfInBounds_toArray, List.set_cons_zero, List.set_cons_succ]
            refine wpAny_take (i := 11) (v := .int .i64 0) rfl (by kernel_rfl) (by kernel_rfl) (by kernel_rfl) (fun _ _ _ h => h) (.inl ⟨rfl, fun _ => rfl⟩) ?_
            simp only [Act.put, List.getElem_toArray, List.getElem_cons_succ, List.getElem_cons_zero, List.setIfInBounds_toArray, List.set_cons_zero, List.set_cons_succ]
            refine wpAny_take (i := 12) (v := vj) rfl (by kernel_rfl) (by kernel_rfl) (by kernel_rfl) (fun _ _ _ h => h) (.inl ⟨rfl, fun _ => rfl⟩) ?_
            simp only [Act.put, List.getElem_toArray, List.getElem_cons_succ, List.getElem_cons_zero, List.setIfInBounds_toArray, List.set_cons_zero, List.set_cons_succ]
            refine wpAny_take (i := 13) (v := .int .i64 0) rfl (by kernel_rfl) (by kernel_rfl) (by kernel_rfl) (fun _ _ _ h => h) (.inl ⟨rfl, fun _ => rfl⟩) ?_
            simp only [Act.put, List.getElem_toArray, List.getElem_cons_succ, List.getElem_cons_zero, List.setIfInBounds_toArray, List.set_cons_zero, List.set_cons_succ]
            refine ⟨by kernel_rfl, ?_⟩
            (try simp only [Act.put])
            rw [← RB.out] at OJ
            obtain ⟨ra, rc, rfl⟩ := OJ.ones.slice
            have o5 := OJ.mono (base' := w.heap.size) (by rw [sz9]; have := HU.out.size; have := UR.out.size; omega)
            have U6 := Lib.hid (UR.out.trans (HU.out.trans (UA9.out.trans UJ)))
            have ot := ((OR.out.up HU.out).up UA9.out).up UJ
            clear OJ UJ JN sz9 UA9 HO HN H8 HU
            obtain ⟨vs, hvl, hvo, hve⟩ := ot
            have HVL := Lib.hid hvl
            have UY := up_alloc w10 (.cells #[.slice ra bs.length rc] 29)
            have O5 := Lib.hid (show Own byteCell 5 (w10.alloc (.cells #[.slice ra bs.length rc] 29)) w.heap.size (slCell ⟨ra, bs.length, rc⟩) bs from o5.up UY)
            have HVO := Lib.hid (hvo.up UY)
            have HVE := Lib.hid (fun i a b => (hve i a b).up UY)
            have LT1 := Lib.hid (IsOnes.lit (f := slCell) w10 #[.slice ra bs.length rc] 29 (0, 0) [⟨ra, bs.length, rc⟩] 1 rfl (by unfold maxLen; omega) rfl)
            have hv33 : vs.length ≤ 33 := by
              have := hvl
              simp at this
              omega
            have hb1 := Lib.hid (show (vs.length + [(⟨ra, bs.length, rc⟩ : SlV)].length) * 24 ≤ 140737488355328 by simp; omega)
            have hb2 := Lib.hid (show vs.length + [(⟨ra, bs.length, rc⟩ : SlV)].length ≤ 9223372036854775807 by simp; omega)
            have U7 := Lib.hid (U6.out.trans UY)
            have hb3 := Lib.hid U7.out.size
            clear hvl hvo hve o5 UY hv33
            generalize bs.length = bl at *
            go_wp2_with (first
              | (at_builtin; refine wpList_append_ones slCell slCell_one rfl (.tmp 91) (.tmp 93) 50 rfl w.heap.size 29 (.slice none 0 0) 24 Try.underlying50 info_bytes rfl _ vs rfl HVO.out (.slice (some ⟨w10.heap.size, 0, none⟩) 1 1) [⟨ra, bl, rc⟩] rfl LT1.out hb1.out hb2.out hb3.out ?_))
            intro v' w12 hown hg hbl
            have OT7 := Lib.hid (OwnTexts.snoc HVL.out HVO.out HVE.out O5.out hown hg)
            have U8 := Lib.hid (U7.out.below_trans hbl (Nat.le_refl _))
            clear hown hg hbl HVO HVE O5 LT1 hb1 hb2 hb3
            go_wp2_with fail
            refine ⟨⟨k + 1, hlt, by simp, ?_, U8.out, ?_⟩, ?_⟩
            · rw [TK.out, List.map_append, List.map_cons, List.map_nil, HBS.out]
              exact OT7.out
            · rw [TK.out]
              intro y hy
              rcases List.mem_append.1 hy with hy | hy
              · exact RT.out y hy
              · simp at hy; subst hy; exact RX.out
            · simp only [intOf]
              omega
          · refine wp_str_bytes (.tmp 82) rfl name rfl NM1.out NM2.out ?_
            intro vn w8 hn hu hnb
            refine wpAny_oneX 2 _ (by kernel_rfl) rfl rfl ?_
            refine wp_append_ones byteCell byteCell_one (.tmp 78) (.tmp 79) 29 rfl (w2.heap.size + 2) 5 (.int .u8 0) 1 Try.underlying29 info_u8 rfl v5 _ rfl (Od.out.up hu) v7 _ rfl (IsOnes.up Pd.out hu) hb1.out hb2.out (Nat.le_trans SB.out hu.size) ?_
            intro va w9 hoa hga hba
            rw [← HE.out] at hoa
            have HO := Lib.hid (hoa)
            have HN := Lib.hid (hn.grown hga (fun b hb e => by have h1 := hnb b hb; have h2 := (OO.out.block_lt b e).2; have h3 := S45.out; have h4 := S5.out; omega))
            have H8 := Lib.hid ((O8d.out.up hu).kept_late OO.out S45.out hga)
            have HU := Lib.hid ((Ud.out.trans hu).below_trans hba (Nat.le_of_lt SW.out))
            clear hoa hga hba hn hu hnb Od Pd O8d Ud
            obtain ⟨aa, ac, rfl⟩ := HO.out.ones.slice
            obtain ⟨na, nc, rfl⟩ := HN.out.slice
            obtain ⟨la, lc, rfl⟩ := H8.out.ones.slice
            have JN := Lib.hid (refJoin_any _ _ _ (three_texts w9 aa na la _ _ _ ac nc lc _ _ _ HO.out.ones HN.out H8.out.ones))
            have sz9 := sz_alloc w9 (.cells #[.slice aa hdr.length ac, .slice na name.length nc, .slice la lbs.length lc] 29)
            have UA9 := Lib.hid (up_alloc w9 (.cells #[.slice aa hdr.length ac, .slice na name.length nc, .slice la lbs.length lc] 29))
            refine wpAny_oneK 7 _ (by kernel_rfl) rfl rfl ?_
            intro K hK
            go_simp
            refine hK _ _ ?_
            refine wpAny_oneK 8 _ (by kernel_rfl) rfl rfl ?_
            intro K2 hK2
            go_simp
            refine JN.out.mono ?_
            rintro e w10 hj
            rcases hj with ⟨_, vj, rfl, OJ, UJ⟩ | ⟨hbad, _⟩
            rotate_left
            · exact absurd OKJ.out hbad
            refine hK2 _ _ ?_
            refine wpAny_take (i := 9) (v := .tuple #[vj, .int .i64 0]) rfl (by kernel_rfl) (by kernel_rfl) (by kernel_rfl) (fun _ _ _ h => h) (.inl ⟨rfl, fun _ => rfl⟩) ?_
            simp only [Act.put, List.getElem_toArray, List.getElem_cons_succ, List.getElem_cons_zero, List.setIfInBounds_toArray, List.set_cons_zero, List.set_cons_succ]
            refine wpAny_take (i := 10) (v := vj) rfl (by kernel_rfl) (by kernel_rfl) (by kernel_rfl) (fun _ _ _ h => h) (.inl ⟨rfl, fun _ => rfl⟩) ?_
            simp only [Act.put, List.getElem_toArray, List.getElem_cons_succ, List.getElem_cons_zero, List.setIfInBounds_toArray, List.set_cons_zero, List.set_cons_succ]
            refine wpAny_take (i := 11) (v := .int .i64 0) rfl (by kernel_rfl) (by kernel_rfl) (by kernel_rfl) (fun _ _ _ h => h) (.inl ⟨rfl, fun _ => rfl⟩) ?_
            simp only [Act.put, List.getElem_toArray, List.getElem_cons_succ, List.getElem_cons_zero, List.setIfInBounds_toArray, List.set_cons_zero, List.set_cons_succ]
            refine wpAny_take (i := 12) (v := vj) rfl (by kernel_rfl) (by kernel_rfl) (by kernel_rfl) (fun _ _ _ h => h) (.inl ⟨rfl, fun _ => rfl⟩) ?_
            simp only [Act.put, List.getElem_toArray, List.getElem_cons_succ, List.getElem_cons_zero, List.setIfInBounds_toArray, List.set_cons_zero, List.set_cons_succ]
            refine wpAny_take (i := 13) (v := .int .i64 0) rfl (by kernel_rfl) (by kernel_rfl) (by kernel_rfl) (fun _ _ _ h => h) (.inl ⟨rfl, fun _ => rfl⟩) ?_
            simp only [Act.put, List.getElem_toArray, List.getElem_cons_succ, List.getElem_cons_zero, List.setIfInBounds_toArray, List.set_cons_zero, List.set_cons_succ]
            refine ⟨by kernel_rfl, ?_⟩
            (try simp only [Act.put])
            rw [← RB.out] at OJ
            obtain ⟨ra, rc, rfl⟩ := OJ.ones.slice
            have o5 := OJ.mono (base' := w.heap.size) (by rw [sz9]; have := HU.out.size; have := UR.out.size; omega)
            have U6 := Lib.hid (UR.out.trans (HU.out.trans (UA9.out.trans UJ)))
            have ot := ((OR.out.up HU.out).up UA9.out).up UJ
            clear OJ UJ JN sz9 UA9 HO HN H8 HU
            obtain ⟨vs, hvl, hvo, hve⟩ := ot
            have HVL := Lib.hid hvl
            have UY := up_alloc w10 (.cells #[.slice ra bs.length rc] 29)
            have O5 := Lib.hid (show Own byteCell 5 (w10.alloc (.cells #[.slice ra bs.length rc] 29)) w.heap.size (slCell ⟨ra, bs.length, rc⟩) bs from o5.up UY)
            have HVO := Lib.hid (hvo.up UY)
            have HVE := Lib.hid (fun i a b => (hve i a b).up UY)
            have LT1 := Lib.hid (IsOnes.lit (f := slCell) w10 #[.slice ra bs.length rc] 29 (0, 0) [⟨ra, bs.length, rc⟩] 1 rfl (by unfold maxLen; omega) rfl)
            have hv33 : vs.length ≤ 33 := by
              have := hvl
              simp at this
              omega
            have hb1 := Lib.hid (show (vs.length + [(⟨ra, bs.length, rc⟩ : SlV)].length) * 24 ≤ 140737488355328 by simp; omega)
            have hb2 := Lib.hid (show vs.length + [(⟨ra, bs.length, rc⟩ : SlV)].length ≤ 9223372036854775807 by simp; omega)
            have U7 := Lib.hid (U6.out.trans UY)
            have hb3 := Lib.hid U7.out.size
            clear hvl hvo hve o5 UY hv33
            generalize bs.length = bl at *
            go_wp2_with (first
              | (at_builtin; refine wpList_append_ones slCell slCell_one rfl (.tmp 91) (.tmp 93) 50 rfl w.heap.size 29 (.slice none 0 0) 24 Try.underlying50 info_bytes rfl _ vs rfl HVO.out (.slice (some ⟨w10.heap.size, 0, none⟩) 1 1) [⟨ra, bl, rc⟩] rfl LT1.out hb1.out hb2.out hb3.out ?_))
            intro v' w12 hown hg hbl
            have OT7 := Lib.hid (OwnTexts.snoc HVL.out HVO.out HVE.out O5.out hown hg)
            have U8 := Lib.hid (U7.out.below_trans hbl (Nat.le_refl _))
            clear hown hg hbl HVO HVE O5 LT1 hb1 hb2 hb3
            go_wp2_with fail
            refine ⟨⟨k + 1, hlt, by simp, ?_, U8.out, ?_⟩, ?_⟩
            · rw [TK.out, List.map_append, List.map_cons, List.map_nil, HBS.out]
              exact OT7.out
            · rw [TK.out]
              intro y hy
              rcases List.mem_append.1 hy with hy | hy
              · exact RT.out y hy
              · simp at hy; subst hy; exact RX.out
            · simp only [intOf]
              omega
    · obtain rfl : k = l.length := by omega
      have b3 : ((l.length : Int) < (l.length : Int)) = False := by simp
      have rt := RT.out
      have ot := OR.out
      rw [List.take_length] at rt ot
      have OKJ := Lib.hid (show okJoin (setsTexts next l) from okJoin_sets (by omega) rt)
      have HT := Lib.hid (show setsO next l = some (joinBytes (setsTexts next l)) by unfold setsO; rw [if_pos ⟨by omega, by omega, rt⟩])
      have JN := Lib.hid (refJoin_any _ _ (setsTexts next l) ot.texts)
      clear rt ot RT OR
      go_wp2_with fail
      refine JN.out.mono ?_
      rintro e w8 hj
      rcases hj with ⟨_, vj, rfl, OJ, UJ⟩ | ⟨hbad, _⟩
      rotate_left
      · exact absurd OKJ.out hbad
      have OJ := Lib.hid OJ
      have UJ := Lib.hid UJ
      go_wp2_with fail
      go_ret2
      exact .inr ⟨_, _, HT.out, rfl, OJ.out.mono UR.out.size, UR.out.trans UJ.out⟩

end Go.Proofs.Ythbfhlphclgnaaa
