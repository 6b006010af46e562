/- The document's Births, and SameNums: the walks. -/
import Derived.Test.YthdheddfimeigaaDeadC
set_option linter.unusedSimpArgs false
namespace Go.Proofs.Ythdheddfimeigaa
open Go.RowKit Go.Sort

theorem births_last (l : List PtrD) (j : Nat) (h : j < l.length) : (birthsL (l.take (j + 1))).getLast? = some l[j].birth := by
  rw [births_snoc l j h]
  exact bstep_last _ _

set_option maxHeartbeats 4000000 in
theorem rbirths_any (w : World) (v : Value) (l : List PtrD) (hv : IsPtrs w v l) (hr : l.length * 24 ≤ 140737488355328) :
    Calls Try.prog 20 #[v] w fun e w' => ∃ u, e = .returned u ∧ Own u64Cell 26 w' w.heap.size u (birthsL l) ∧ Up w w' := by
  have hlen := hv.length_le
  obtain ⟨a, cap, rfl⟩ := hv.slice
  go_enter Try.func20, Try.ntmps20
  go_wp2_with fail
  have hm1 : Own u64Cell 26 (w.alloc (.cells #[] 26)) w.heap.size (.slice (some ⟨w.heap.size, 0, none⟩) 0 0) [] := Own.made u64Cell 26 w w.heap.size (Nat.le_refl _)
  go_loopw [3, 8] (fun u i wr => ∃ k : Nat, k ≤ l.length ∧ i = .int .i64 k ∧ Own u64Cell 26 wr w.heap.size u (birthsL (l.take k)) ∧ Up w wr) (fun _ i _ => l.length - (intOf i).toNat)
  case atStart => exact ⟨0, Nat.zero_le _, rfl, hm1, up_alloc _ _⟩
  case round =>
    obtain ⟨k, hk, rfl, ho, upr⟩ := hrel
    clear hm1
    by_cases hlt : k < l.length
    · obtain ⟨b, off, rfl, hbs, hnc, hc⟩ := ptrs_at (IsRow.up hv upr) (by omega)
      have hc1 := (hc k hlt).2.1
      have b2 : ((k : Int) < (l.length : Int)) = True := by simp; omega
      have SN := Lib.hid (births_snoc l k hlt)
      have hbl := births_le l k hk
      have HO := Lib.hid ho
      have HV := Lib.hid hv
      clear ho hv
      have key : (k = 0 ∧ bstep (birthsL (l.take k)) l[k] = birthsL (l.take k) ++ [l[k].birth]) ∨ (∃ (j : Nat) (hj : j < l.length), k = j + 1 ∧ ((l[k].birth = l[j].birth ∧ bstep (birthsL (l.take k)) l[k] = birthsL (l.take k)) ∨ (l[k].birth ≠ l[j].birth ∧ bstep (birthsL (l.take k)) l[k] = birthsL (l.take k) ++ [l[k].birth]))) := by
        by_cases h0 : k = 0
        · refine .inl ⟨h0, ?_⟩
          subst h0
          simp [birthsL, bstep]
        · obtain ⟨j, rfl⟩ : ∃ j, k = j + 1 := ⟨k - 1, by omega⟩
          refine .inr ⟨j, by omega, rfl, ?_⟩
          have hl := births_last l j (by omega)
          by_cases hx : l[j + 1].birth = l[j].birth
          · refine .inl ⟨hx, ?_⟩
            unfold bstep
            rw [hl, if_pos (by rw [hx])]
          · refine .inr ⟨hx, ?_⟩
            unfold bstep
            rw [hl, if_neg (by simpa using fun e => hx e.symm)]
      rcases key with ⟨hk0, hb⟩ | ⟨j, hj, hkj, ⟨hx, hb⟩ | ⟨hx, hb⟩⟩
      · have HB := Lib.hid hb
        have t0 : ((k : Int) == 0) = true := by simp; omega
        have t0' : (k == 0) = true := by simp; omega
        clear hb hc hk0
        generalize l[k] = p at *
        obtain ⟨pl, pb, ps⟩ := p
        simp only at hc1 HB SN
        have x1 := cell_regrown hc1
        go_wp2_with fail
        refine wp_region_quiet_below (by kernel_rfl) (by kernel_rfl) ?_
        repeat (go_big_quiet_step (fail))
        refine wpQuiet_nil ?_
        intro w4 hw'
        obtain ⟨⟨d, os⟩, hw4⟩ := hw'
        have up4 : Up wr w4 := by rw [hw4]; exact below_regrown _ _ _
        clear hw4 x1
        have y1 := up4.cell hc1
        have o4 := HO.out.up up4
        have upr4 := upr.trans up4
        go_wp2_with (at_builtin; refine wpList_append_ones u64Cell u64Cell_one rfl (.tmp 27) (.tmp 33) 32 rfl w.heap.size 26 (.int .u64 0) 8 Try.underlying32 info_u64 rfl _ (birthsL (l.take k)) rfl (o4.up (up_alloc w4 _)) (.slice (some ⟨w4.heap.size, 0, none⟩) 1 1) [pb] rfl (IsOnes.lit w4 #[.int .u64 (pb : Int)] 26 (0, 0) [pb] 1 rfl (by unfold maxLen; omega) rfl) (by simp; omega) (by simp; omega) ((upr4.alloc _).size) ?_)
        intro v' w5 hown5 _ hb5
        go_wp2_with fail
        go_roundw
        case rel => exact ⟨k + 1, by omega, by go_num, by rw [SN.out, HB.out]; exact hown5, (upr4.alloc _).below_trans hb5 (Nat.le_refl _)⟩
        case measure => simp [intOf]; omega
      · have HB := Lib.hid hb
        have t0 : ((k : Int) == 0) = false := by simp; omega
        have t0' : (k == 0) = false := by simp; omega
        have t1 : IntKind.i64.wrap ((k : Int) - 1) = (j : Int) := by rw [show (k : Int) - 1 = (j : Int) by omega]; exact wrap_i64_nat j (by omega)
        have t2 : ((j : Int) < (l.length : Int)) = True := by simp; omega
        have hd1 := (hc j hj).2.1
        rw [← hx] at hd1
        have t3 : ((l[k].birth : Int) != (l[k].birth : Int)) = false := by simp
        clear hb hc hx hkj
        generalize l[k] = p at *
        obtain ⟨pl, pb, ps⟩ := p
        simp only at hc1 hd1 HB SN t3
        have x1 := cell_regrown hc1
        have x2 := cell_regrown hd1
        go_wp2_with fail
        refine wp_region_quiet_below (by kernel_rfl) (by kernel_rfl) ?_
        repeat (go_big_quiet_step (fail))
        refine wpQuiet_nil ?_
        intro w4 hw'
        obtain ⟨⟨d, os⟩, hw4⟩ := hw'
        have up4 : Up wr w4 := by rw [hw4]; exact below_regrown _ _ _
        clear hw4 x1 x2
        go_wp2_with fail
        go_roundw
        case rel => exact ⟨k + 1, by omega, by go_num, by rw [SN.out, HB.out]; exact HO.out.up up4, upr.trans up4⟩
        case measure => simp [intOf]; omega
      · have HB := Lib.hid hb
        have t0 : ((k : Int) == 0) = false := by simp; omega
        have t0' : (k == 0) = false := by simp; omega
        have t1 : IntKind.i64.wrap ((k : Int) - 1) = (j : Int) := by rw [show (k : Int) - 1 = (j : Int) by omega]; exact wrap_i64_nat j (by omega)
        have t2 : ((j : Int) < (l.length : Int)) = True := by simp; omega
        have hd1 := (hc j hj).2.1
        have t3 : ((l[k].birth : Int) != (l[j].birth : Int)) = true := by simp; omega
        have t4 : ((l[k].birth : Int) == (l[j].birth : Int)) = false := by simp; omega
        have t5 : (l[k].birth == l[j].birth) = false := by simpa using hx
        clear hb hc hx hkj
        generalize l[k] = p at *
        generalize l[j] = p' at *
        obtain ⟨pl, pb, ps⟩ := p
        obtain ⟨ql, qb, qs⟩ := p'
        simp only at hc1 hd1 HB SN t3 t4 t5
        have x1 := cell_regrown hc1
        have x2 := cell_regrown hd1
        go_wp2_with fail
        refine wp_region_quiet_below (by kernel_rfl) (by kernel_rfl) ?_
        repeat (go_big_quiet_step (fail))
        refine wpQuiet_nil ?_
        intro w4 hw'
        obtain ⟨⟨d, os⟩, hw4⟩ := hw'
        have up4 : Up wr w4 := by rw [hw4]; exact below_regrown _ _ _
        clear hw4 x1 x2
        have y1 := up4.cell hc1
        have o4 := HO.out.up up4
        have upr4 := upr.trans up4
        go_wp2_with (at_builtin; refine wpList_append_ones u64Cell u64Cell_one rfl (.tmp 27) (.tmp 33) 32 rfl w.heap.size 26 (.int .u64 0) 8 Try.underlying32 info_u64 rfl _ (birthsL (l.take k)) rfl (o4.up (up_alloc w4 _)) (.slice (some ⟨w4.heap.size, 0, none⟩) 1 1) [pb] rfl (IsOnes.lit w4 #[.int .u64 (pb : Int)] 26 (0, 0) [pb] 1 rfl (by unfold maxLen; omega) rfl) (by simp; omega) (by simp; omega) ((upr4.alloc _).size) ?_)
        intro v' w5 hown5 _ hb5
        go_wp2_with fail
        go_roundw
        case rel => exact ⟨k + 1, by omega, by go_num, by rw [SN.out, HB.out]; exact hown5, (upr4.alloc _).below_trans hb5 (Nat.le_refl _)⟩
        case measure => simp [intOf]; omega
    · obtain rfl : k = l.length := by omega
      rw [List.take_length] at *
      go_wp2_with fail
      go_ret
      exact ⟨_, rfl, ho, upr⟩

set_option maxHeartbeats 4000000 in
theorem sameNums_any (w : World) (v v2 : Value) (l m : List Nat) (hv : IsOnes u64Cell w v l) (hv2 : IsOnes u64Cell w v2 m) :
    Calls Try.prog 19 #[v, v2] w fun e w' => BoolUp (decide (l = m)) w e w' := by
  have hlen := hv.length_le
  have hlen2 := hv2.length_le
  obtain ⟨a, cap, rfl⟩ := hv.slice
  obtain ⟨a2, cap2, rfl⟩ := hv2.slice
  by_cases hl : l.length = m.length
  case neg =>
    have ht : ((l.length : Int) != (m.length : Int)) = true := by simp; omega
    have hb : decide (l = m) = false := by simp; rintro rfl; exact hl rfl
    have HB := Lib.hid hb
    clear hb hl
    go_enter Try.func19, Try.ntmps19
    go_wp2_with fail
    go_ret
    exact ⟨by rw [HB.out] <;> rfl, Up.refl _⟩
  obtain ⟨n, hn⟩ : ∃ n, n = l.length := ⟨_, rfl⟩
  have hn2 : m.length = n := by omega
  have ht : ((n : Int) != (n : Int)) = false := by simp
  rw [← hn] at hv hlen ⊢
  rw [hn2] at hv2 ⊢
  have HL := Lib.hid hn
  have HM := Lib.hid hn2
  clear hn hn2 hl
  have HV := Lib.hid hv
  have HV2 := Lib.hid hv2
  clear hv hv2
  go_enter Try.func19, Try.ntmps19
  go_wp2_with fail
  clear ht
  go_loopw [13] (fun i wr => ∃ k : Nat, k ≤ n ∧ i = .int .i64 k ∧ l.take k = m.take k ∧ Up w wr) (fun i _ => n - (intOf i).toNat)
  case atStart => exact ⟨0, Nat.zero_le _, rfl, by simp, Up.refl _⟩
  case round =>
    obtain ⟨k, hk, rfl, heq, upr⟩ := hrel
    by_cases hlt : k < n
    · have k1 : k < l.length := by have := HL.out; omega
      have k2 : k < m.length := by have := HM.out; omega
      obtain ⟨b, off, rfl, hbs, hc⟩ := get_of_ones (HV.out.up upr) HL.out (by omega)
      obtain ⟨b', off', rfl, hbs', hc'⟩ := get_of_ones (HV2.out.up upr) HM.out.symm (by omega)
      have c0 : wr.cell? ⟨b, off + k, none⟩ = some (.int .u64 (l[k] : Int)) := hc k k1
      have d0 : wr.cell? ⟨b', off' + k, none⟩ = some (.int .u64 (m[k] : Int)) := hc' k k2
      have b2 : ((k : Int) < (n : Int)) = True := by simp; omega
      have HST := Lib.hid (fun h => take_eq_step k1 k2 heq h)
      have HNE : l[k] ≠ m[k] → decide (l = m) = false := fun h => by
        simp only [decide_eq_false_iff_not]
        rintro rfl
        exact h rfl
      have HNE' := Lib.hid HNE
      clear HNE hc hc' heq
      by_cases hpq : l[k] = m[k]
      · have HEQ := Lib.hid (HST.out hpq)
        have t3 : ((m[k] : Int) != (m[k] : Int)) = false := by simp
        rw [hpq] at c0
        clear hpq HST HNE'
        generalize m[k] = q at *
        go_wp2_with fail
        go_quiet (fail)
        go_wp2_with fail
        go_roundw
        case rel => exact ⟨k + 1, by omega, by simp, HEQ.out, upr.drewN _⟩
        case measure => simp [intOf]; omega
      · have HF := Lib.hid (HNE'.out hpq)
        have t3 : ((l[k] : Int) != (m[k] : Int)) = true := by simp; omega
        have t4 : ((l[k] : Int) == (m[k] : Int)) = false := by simp; omega
        have t5 : (l[k] == m[k]) = false := by simpa using hpq
        clear hpq HST HNE'
        generalize l[k] = p at *
        generalize m[k] = q at *
        go_wp2_with fail
        go_quiet (fail)
        go_wp2_with fail
        go_ret
        exact ⟨by rw [HF.out] <;> rfl, upr.drewN _⟩
    · obtain rfl : k = n := by omega
      have hb : decide (l = m) = true := by
        have h1 : l.take k = l := List.take_of_length_le (by have := HL.out; omega)
        have h2 : m.take k = m := List.take_of_length_le (by have := HM.out; omega)
        rw [h1, h2] at heq
        simpa using heq
      have HB := Lib.hid hb
      clear hb heq
      go_wp2_with fail
      go_ret
      exact ⟨by rw [HB.out] <;> rfl, upr⟩
end Go.Proofs.Ythdheddfimeigaa
