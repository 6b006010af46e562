/- Lists of records as bytes: entry.Bytes. -/
import Derived.Test.YthbfhlphclgnaaaSets
set_option linter.unusedSimpArgs false
set_option linter.unusedVariables false
namespace Go.Proofs.Ythbfhlphclgnaaa
open Go.RowKit Go.Sort

set_option maxRecDepth 100000 in
set_option maxHeartbeats 8000000 in
theorem setsBytes_any (w : World) (next : Nat) (hn : next < 18446744073709551616) (v : Value) (l : List SetD) (hv : IsSets w v l) (hwf : ∀ x ∈ l, x.wf) :
    Calls Try.prog 12 #[.int .u64 (next : Int), v] w fun e w' => RecPost (setsO next l) w e w' := by
  have hll := hv.length_le
  obtain ⟨la, lc, rfl⟩ := hv.slice
  have HV := Lib.hid hv
  have HWF := Lib.hid hwf
  clear hv hwf
  by_cases hnx : 281474976710655 < next
  · have b1 : ((281474976710655 : Int) < (next : Int)) = True := by simp; omega
    have HF := Lib.hid (show setsO next l = none by unfold setsO; rw [if_neg (by omega)])
    go_enter Try.func12, Try.ntmps12
    go_wp2_with fail
    go_ret2
    exact .inl ⟨HF.out, rfl, Up.refl w⟩
  have b1 : ((281474976710655 : Int) < (next : Int)) = False := by simp; omega
  by_cases hlen : 32 < l.length
  · have b2 : ((32 : Int) < (l.length : Int)) = True := by simp; omega
    have HF := Lib.hid (show setsO next l = none by unfold setsO; rw [if_neg (by omega)])
    go_enter Try.func12, Try.ntmps12
    go_wp2_with fail
    go_ret2
    exact .inl ⟨HF.out, rfl, Up.refl w⟩
  have b2 : ((32 : Int) < (l.length : Int)) = False := by simp; omega
  have UA := up_alloc w (.cells #[.int .i64 8] 3)
  have UB := up_alloc (w.alloc (.cells #[.int .i64 8] 3)) (.cells #[.int .u64 (next : Int)] 22)
  have sza := sz_alloc w (.cells #[.int .i64 8] 3)
  have PUT := Lib.hid (show Calls Try.prog 26 #[.slice (some ⟨w.heap.size, 0, none⟩) 1 1, .slice (some ⟨w.heap.size + 1, 0, none⟩) 1 1] ((w.alloc (.cells #[.int .i64 8] 3)).alloc (.cells #[.int .u64 (next : Int)] 22)) (fun e w' => ∃ v, e = .returned (.tuple #[v, .int .i64 0]) ∧ Own byteCell 5 w' w.heap.size v (headBytes next) ∧ Up w w') from by
    have i1 : IsOnes intCell _ (.slice (some ⟨w.heap.size, 0, none⟩) 1 1) [8] := (IsOnes.litAt (f := intCell) w w.heap.size rfl #[.int .i64 8] 3 (0, 0) [8] 1 rfl (by unfold maxLen; omega) rfl).up UB
    have i2 : IsOnes u64Cell _ (.slice (some ⟨w.heap.size + 1, 0, none⟩) 1 1) [next] := IsOnes.litAt (f := u64Cell) (w.alloc (.cells #[.int .i64 8] 3)) (w.heap.size + 1) (by rw [sza]) #[.int .u64 (next : Int)] 22 (0, 0) [next] 1 rfl (by unfold maxLen; omega) rfl
    refine (put_any _ _ [8] i1 (by simp) _ _ i2 (by intro n hn; simp at hn; omega)).mono fun e w' h => ?_
    rcases h with ⟨_, v, rfl, ho, hu⟩ | ⟨hno, _⟩
    · exact ⟨v, rfl, ho.mono (UA.trans UB).size, (UA.trans UB).trans hu⟩
    · exact absurd (okPut_head (by omega)) hno)
  clear UA UB sza
  go_enter Try.func12, Try.ntmps12
  go_wp2_with fail
  refine PUT.out.mono ?_
  rintro e w2 ⟨v6, rfl, O6, U2⟩
  obtain ⟨ha, hc, rfl⟩ := O6.ones.slice
  have OT := Lib.hid (OwnTexts.one w2 w.heap.size U2.size ha _ hc _ O6)
  have U3 := Lib.hid (U2.trans (up_alloc w2 (.cells #[.slice ha (headBytes next).length hc] 29)))
  clear O6 U2 PUT
  generalize (headBytes next).length = hn8 at *
  go_wp2_with fail
  go_loopw [8, 34] (fun tv i wr => ∃ k : Nat, k ≤ l.length ∧ i = .int .i64 k ∧ OwnTexts wr w.heap.size tv (headBytes next :: (l.take k).map recBytes) ∧ Up w wr ∧ ∀ x ∈ l.take k, rightS x = true) (fun _ i _ => l.length - (intOf i).toNat)
  case atStart => exact ⟨0, Nat.zero_le _, rfl, OT.out, U3.out, fun x hx => by simp at hx⟩
  case round =>
    obtain ⟨k, hk, rfl, ot, ur, rt⟩ := hrel
    have OR := Lib.hid ot
    have UR := Lib.hid ur
    have RT := Lib.hid rt
    clear ot ur rt OT U3
    by_cases hlt : k < l.length
    · have b3 : ((k : Int) < (l.length : Int)) = True := by simp; omega
      obtain ⟨sb, so, rfl, _, sg⟩ := sets_at (HV.out.up UR.out) (by omega)
      obtain ⟨da, dn, dc, rg, dp⟩ := sg k hlt
      have SG := Lib.hid rg
      have DP := Lib.hid dp
      have WX := Lib.hid (HWF.out l[k] (List.getElem_mem hlt))
      have MEM := Lib.hid (List.getElem_mem hlt)
      have TK := Lib.hid (show l.take (k + 1) = l.take k ++ [l[k]] from List.take_succ_eq_append_getElem hlt)
      clear sg rg dp
      generalize l[k] = x at *
      have HSI := Lib.hid (info_setV x (.slice da dn dc))
      have H1 := Lib.hid (setC_one x da dn dc)
      have UX := up_alloc wr (.cells (setC x (.slice da dn dc)) 44)
      have BX := Lib.hid (Blk.new wr 44 (setC x (.slice da dn dc)))
      have RC := Lib.hid (record_any _ x WX.out _ (IsRow.up DP.out UX))
      have O4 := Lib.hid (OR.out.up UX)
      have U4 := Lib.hid (UR.out.trans UX)
      clear UX
      generalize setC x (.slice da dn dc) = C at *
      go_wp2_with (first
        | ((with_reducible refine wg_load 44 (.tmp 36) ?_); refine wl_part rfl 44 (.tmp 36) rfl sb (so + k * 11) rfl C SG.out _ Try.underlying44 rfl HSI.out ?_)
        | ((with_reducible refine wg_alloc 44 ?_); refine wpList_alloc_blk rfl 44 rfl zSetC zero_set ?_)
        | ((with_reducible refine wg_store 44 (.tmp 10) (.tmp 37) ?_); refine ws_new wr rfl 44 (.tmp 10) (.tmp 37) rfl C 44 zSetC rfl rfl rfl HSI.out (by have := HSI.out; rw [show (Try.prog.info? 44).map (·.size) = some 11 from by kernel_rfl] at this; exact Option.some.inj this) H1.out ?_)
        | ((with_reducible refine wg_load 44 (.tmp 10) ?_); refine wpList_load_blkG rfl 44 (.tmp 10) rfl wr.heap.size rfl 44 _ BX.out _ Try.underlying44 rfl HSI.out ?_))
      refine RC.out.mono ?_
      rintro e w5 hrec
      rcases hrec with ⟨hno, rfl, U5⟩ | ⟨bs, v11, hsome, rfl, O5, U5⟩
      · have HF := Lib.hid (show setsO next l = none from setsO_none MEM.out (by
          unfold recO at hno
          by_cases hh : rightS x = true
          · rw [if_pos hh] at hno; cases hno
          · simpa using hh))
        have U6 := Lib.hid (U4.out.trans U5)
        clear hno U5
        go_wp2_with fail
        go_ret2
        exact .inl ⟨HF.out, rfl, U6.out⟩
      have hrx : rightS x = true ∧ recBytes x = bs := by
        unfold recO at hsome
        by_cases hh : rightS x = true
        · rw [if_pos hh] at hsome; exact ⟨hh, Option.some.inj hsome⟩
        · rw [if_neg hh] at hsome; cases hsome
      have RX := Lib.hid hrx
      obtain ⟨ra, rc, rfl⟩ := O5.ones.slice
      have o5 := O5.mono U4.out.size
      have ot := O4.out.up U5
      have U6 := Lib.hid (U4.out.trans U5)
      clear hsome hrx O5 U5 RC BX O4
      obtain ⟨vs, hvl, hvo, hve⟩ := ot
      have HVL := Lib.hid hvl
      have UY := up_alloc w5 (.cells #[.slice ra bs.length rc] 29)
      have O5 := Lib.hid (show Own byteCell 5 (w5.alloc (.cells #[.slice ra bs.length rc] 29)) w.heap.size (slCell ⟨ra, bs.length, rc⟩) bs from o5.up UY)
      have HVO := Lib.hid (hvo.up UY)
      have HVE := Lib.hid (fun i a b => (hve i a b).up UY)
      have LT1 := Lib.hid (IsOnes.lit (f := slCell) w5 #[.slice ra bs.length rc] 29 (0, 0) [⟨ra, bs.length, rc⟩] 1 rfl (by unfold maxLen; omega) rfl)
      have hv33 : vs.length ≤ 33 := by
        have := hvl
        simp at this
        omega
      have hb1 := Lib.hid (show (vs.length + [(⟨ra, bs.length, rc⟩ : SlV)].length) * 24 ≤ 140737488355328 by simp; omega)
      have hb2 := Lib.hid (show vs.length + [(⟨ra, bs.length, rc⟩ : SlV)].length ≤ 9223372036854775807 by simp; omega)
      have U7 := Lib.hid (U6.out.trans UY)
      have hb3 := Lib.hid U7.out.size
      clear hvl hvo hve o5 UY hv33
      generalize bs.length = bl at *
      go_wp2_with (first
        | (at_builtin; refine wpList_append_ones slCell slCell_one rfl (.tmp 46) (.tmp 48) 50 rfl w.heap.size 29 (.slice none 0 0) 24 Try.underlying50 info_bytes rfl _ vs rfl HVO.out (.slice (some ⟨w5.heap.size, 0, none⟩) 1 1) [⟨ra, bl, rc⟩] rfl LT1.out hb1.out hb2.out hb3.out ?_))
      intro v' w7 hown hg hbl
      have OT7 := Lib.hid (OwnTexts.snoc HVL.out HVO.out HVE.out O5.out hown hg)
      have U8 := Lib.hid (U7.out.below_trans hbl (Nat.le_refl _))
      clear hown hg hbl HVO HVE O5 LT1 hb1 hb2 hb3
      go_wp2_with fail
      refine ⟨⟨k + 1, hlt, by simp, ?_, U8.out, ?_⟩, ?_⟩
      · rw [TK.out, List.map_append, List.map_cons, List.map_nil, RX.out.2]
        exact OT7.out
      · rw [TK.out]
        intro y hy
        rcases List.mem_append.1 hy with hy | hy
        · exact RT.out y hy
        · simp at hy; subst hy; exact RX.out.1
      · simp only [intOf]
        omega
    · obtain rfl : k = l.length := by omega
      have b3 : ((l.length : Int) < (l.length : Int)) = False := by simp
      have rt := RT.out
      have ot := OR.out
      rw [List.take_length] at rt ot
      have OKJ := Lib.hid (show okJoin (setsTexts next l) from okJoin_sets (by omega) rt)
      have HT := Lib.hid (show setsO next l = some (joinBytes (setsTexts next l)) by unfold setsO; rw [if_pos ⟨by omega, by omega, rt⟩])
      have JN := Lib.hid (join_any _ _ (setsTexts next l) ot.texts)
      clear rt ot RT OR
      go_wp2_with fail
      refine JN.out.mono ?_
      rintro e w8 hj
      rcases hj with ⟨_, vj, rfl, OJ, UJ⟩ | ⟨hbad, _⟩
      rotate_left
      · exact absurd OKJ.out hbad
      have OJ := Lib.hid OJ
      have UJ := Lib.hid UJ
      go_wp2_with fail
      go_ret2
      exact .inr ⟨_, _, HT.out, rfl, OJ.out.mono UR.out.size, UR.out.trans UJ.out⟩

end Go.Proofs.Ythbfhlphclgnaaa
