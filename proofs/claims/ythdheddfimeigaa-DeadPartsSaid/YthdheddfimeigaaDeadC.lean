/- Births of both sides, SameNums: the walks. -/
import Derived.Test.YthdheddfimeigaaDeadB
set_option linter.unusedSimpArgs false
namespace Go.Proofs.Ythdheddfimeigaa
open Go.RowKit Go.Sort

def bstep (out : List Nat) (p : PtrD) : List Nat := if out.getLast? = some p.birth then out else out ++ [p.birth]
def birthsL (l : List PtrD) : List Nat := l.foldl bstep []
theorem births_snoc (l : List PtrD) (k : Nat) (h : k < l.length) : birthsL (l.take (k + 1)) = bstep (birthsL (l.take k)) l[k] := by
  unfold birthsL
  rw [List.take_succ_eq_append_getElem h, List.foldl_append]
  rfl
theorem bstep_last (out : List Nat) (p : PtrD) : (bstep out p).getLast? = some p.birth := by
  unfold bstep
  split
  · assumption
  · simp
theorem births_le (l : List PtrD) : ∀ k, k ≤ l.length → (birthsL (l.take k)).length ≤ k
  | 0, _ => by simp [birthsL]
  | k + 1, h => by
    rw [births_snoc l k (by omega)]
    have := births_le l k (by omega)
    unfold bstep
    split
    · omega
    · simp; omega

set_option maxHeartbeats 4000000 in
theorem births_any (w : World) (v : Value) (l : List PtrD) (hv : IsPtrs w v l) (hr : l.length * 24 ≤ 140737488355328) :
    Calls Try.prog 13 #[v] w fun e w' => ∃ u, e = .returned u ∧ Own u64Cell 26 w' w.heap.size u (birthsL l) ∧ Up w w' := by
  have hlen := hv.length_le
  obtain ⟨a, cap, rfl⟩ := hv.slice
  go_enter Try.func13, Try.ntmps13
  go_wp2_with fail
  go_loopw [3, 8] (fun u i wr => ∃ k : Nat, k ≤ l.length ∧ i = .int .i64 k ∧ Own u64Cell 26 wr w.heap.size u (birthsL (l.take k)) ∧ Up w wr) (fun _ i _ => l.length - (intOf i).toNat)
  case atStart => exact ⟨0, Nat.zero_le _, rfl, Own.nil _ _ _ _, Up.refl _⟩
  case round =>
    obtain ⟨k, hk, rfl, ho, upr⟩ := hrel
    by_cases hlt : k < l.length
    · obtain ⟨b, off, rfl, hbs, hnc, hc⟩ := ptrs_at (IsRow.up hv upr) (by omega)
      have hc0 := (hc k hlt).1
      have hc1 := (hc k hlt).2.1
      have hc2 := (hc k hlt).2.2
      have b2 : ((k : Int) < (l.length : Int)) = True := by simp; omega
      have SN := Lib.hid (births_snoc l k hlt)
      have hbl := births_le l k hk
      have HV := Lib.hid hv
      clear hc hv
      generalize l[k] = p at *
      obtain ⟨pl, pb, ps⟩ := p
      simp only at hc0 hc1 hc2 SN
      generalize birthsL (l.take k) = out at *
      have upa := up_alloc wr (.cells #[.int .i64 pl, .int .u64 pb, .int .u32 ps] 29)
      have oa := ho.up upa
      have upra := upr.trans upa
      have x0 := box0 wr pl pb ps
      have x1 := box1 wr pl pb ps
      have x2 := box2 wr pl pb ps
      have y1 : (wr.alloc (.cells #[.int .i64 pl, .int .u64 pb, .int .u32 ps] 29)).cell? ⟨wr.heap.size, 1, none⟩ = some (.int .u64 pb) := cell_new wr _ _ _ 1 _ rfl
      obtain ⟨ua, uc, hu⟩ := ho.ones.slice
      obtain ⟨m, hm⟩ : ∃ m, m = out.length := ⟨_, rfl⟩
      have key : (m = 0 ∧ bstep out ⟨pl, pb, ps⟩ = out ++ [pb]) ∨ (∃ (ub uo x : Nat), 0 < m ∧ ua = some ⟨ub, uo, none⟩ ∧ wr.cell? ⟨ub, uo + (m - 1), none⟩ = some (.int .u64 (x : Int)) ∧ ((x = pb ∧ bstep out ⟨pl, pb, ps⟩ = out) ∨ (x ≠ pb ∧ bstep out ⟨pl, pb, ps⟩ = out ++ [pb]))) := by
        by_cases h0 : m = 0
        · refine .inl ⟨h0, ?_⟩
          have : out = [] := List.length_eq_zero_iff.1 (by omega)
          subst this
          simp [bstep]
        · right
          have hone := ho.ones
          rw [hu] at hone
          obtain ⟨ub, uo, hua, _, hcc⟩ := get_of_ones hone rfl (by omega)
          have hl : out.getLast? = some (out[m - 1]'(by omega)) := by
            subst hm
            rw [List.getLast?_eq_getElem?, List.getElem?_eq_getElem (by omega)]
          refine ⟨ub, uo, out[m - 1]'(by omega), by omega, hua, hcc (m - 1) (by omega), ?_⟩
          by_cases hx : out[m - 1]'(by omega) = pb
          · refine .inl ⟨hx, ?_⟩
            unfold bstep
            rw [hl, if_pos (by rw [hx])]
          · refine .inr ⟨hx, ?_⟩
            unfold bstep
            rw [hl, if_neg (by simpa using hx)]
      subst hu
      rw [← hm] at ho oa hbl ⊢
      have HM := Lib.hid hm
      clear hm
      have HO := Lib.hid oa
      clear ho oa
      rcases key with ⟨rfl, hb⟩ | ⟨ub, uo, x, hm0, rfl, hcl, ⟨rfl, hb⟩ | ⟨hx, hb⟩⟩
      · have HB := Lib.hid hb
        clear hb
        go_wp2_with fail
        clear y1
        generalize hw3 : wr.alloc (.cells #[.int .i64 pl, .int .u64 pb, .int .u32 ps] 29) = w3 at *
        clear hw3
        refine wp_region_quiet_below (by kernel_rfl) (by kernel_rfl) ?_
        repeat (go_big_quiet_step (fail))
        refine wpQuiet_nil ?_
        intro w4 hw'
        obtain ⟨⟨d, os⟩, hw4⟩ := hw'
        have y1 : w4.cell? ⟨wr.heap.size, 1, none⟩ = some (.int .u64 pb) := by rw [hw4]; exact x1 d os
        have up4 : Up w3 w4 := by rw [hw4]; exact below_regrown _ _ _
        clear hw4 x0 x1 x2
        have o4 := HO.out.up up4
        have upr4 := upra.trans up4
        have hz4 := upr4.size
        go_wp2_with (at_builtin; refine wpList_append_ones u64Cell u64Cell_one rfl (.tmp 26) (.tmp 29) 32 rfl w.heap.size 26 (.int .u64 0) 8 Try.underlying32 info_u64 rfl _ _ rfl (o4.up (up_alloc w4 _)) (.slice (some ⟨w4.heap.size, 0, none⟩) 1 1) [pb] rfl (IsOnes.lit w4 #[.int .u64 (pb : Int)] 26 (0, 0) [pb] 1 rfl (by unfold maxLen; omega) rfl) (by have := HM.out; simp; omega) (by have := HM.out; simp; omega) ((upr4.alloc _).size) ?_)
        intro v' w5 hown5 _ hb5
        go_wp2_with fail
        go_roundw
        case rel => exact ⟨k + 1, by omega, by go_num, by rw [SN.out, HB.out]; exact hown5, (upr4.alloc _).below_trans hb5 (Nat.le_refl _)⟩
        case measure => simp [intOf]; omega
      · have HB := Lib.hid hb
        clear hb
        have t0 : ((m : Int) == 0) = false := by simp; omega
        have t0' : (m == 0) = false := by simp; omega
        obtain ⟨j, hj⟩ : ∃ j, j = m - 1 := ⟨_, rfl⟩
        rw [← hj] at hcl
        have t1 : IntKind.i64.wrap ((m : Int) - 1) = (j : Int) := by rw [show (m : Int) - 1 = (j : Int) by omega]; exact wrap_i64_nat j (by omega)
        have t2 : ((j : Int) < (m : Int)) = True := by simp; omega
        have t3 : ((x : Int) != (x : Int)) = false := by simp
        have x3 := cell_regrown (upa.cell hcl)
        clear hcl hj
        go_wp2_with fail
        clear y1
        generalize hw3 : wr.alloc (.cells #[.int .i64 pl, .int .u64 x, .int .u32 ps] 29) = w3 at *
        clear hw3
        refine wp_region_quiet_below (by kernel_rfl) (by kernel_rfl) ?_
        repeat (go_big_quiet_step (fail))
        refine wpQuiet_nil ?_
        intro w4 hw'
        obtain ⟨⟨d, os⟩, hw4⟩ := hw'
        have up4 : Up w3 w4 := by rw [hw4]; exact below_regrown _ _ _
        clear hw4 x0 x1 x2 x3
        go_wp2_with fail
        go_roundw
        case rel => exact ⟨k + 1, by omega, by go_num, by rw [SN.out, HB.out]; exact HO.out.up up4, upra.trans up4⟩
        case measure => simp [intOf]; omega
      · have HB := Lib.hid hb
        clear hb
        have t0 : ((m : Int) == 0) = false := by simp; omega
        have t0' : (m == 0) = false := by simp; omega
        obtain ⟨j, hj⟩ : ∃ j, j = m - 1 := ⟨_, rfl⟩
        rw [← hj] at hcl
        have t1 : IntKind.i64.wrap ((m : Int) - 1) = (j : Int) := by rw [show (m : Int) - 1 = (j : Int) by omega]; exact wrap_i64_nat j (by omega)
        have t2 : ((j : Int) < (m : Int)) = True := by simp; omega
        have t3 : ((x : Int) != (pb : Int)) = true := by simp; omega
        have t4 : ((x : Int) == (pb : Int)) = false := by simp; omega
        have t5 : (x == pb) = false := by simpa using hx
        have x3 := cell_regrown (upa.cell hcl)
        clear hcl hj hx
        go_wp2_with fail
        clear y1
        generalize hw3 : wr.alloc (.cells #[.int .i64 pl, .int .u64 pb, .int .u32 ps] 29) = w3 at *
        clear hw3
        refine wp_region_quiet_below (by kernel_rfl) (by kernel_rfl) ?_
        repeat (go_big_quiet_step (fail))
        refine wpQuiet_nil ?_
        intro w4 hw'
        obtain ⟨⟨d, os⟩, hw4⟩ := hw'
        have y1 : w4.cell? ⟨wr.heap.size, 1, none⟩ = some (.int .u64 pb) := by rw [hw4]; exact x1 d os
        have up4 : Up w3 w4 := by rw [hw4]; exact below_regrown _ _ _
        clear hw4 x0 x1 x2 x3
        have o4 := HO.out.up up4
        have upr4 := upra.trans up4
        go_wp2_with (at_builtin; refine wpList_append_ones u64Cell u64Cell_one rfl (.tmp 26) (.tmp 29) 32 rfl w.heap.size 26 (.int .u64 0) 8 Try.underlying32 info_u64 rfl _ _ rfl (o4.up (up_alloc w4 _)) (.slice (some ⟨w4.heap.size, 0, none⟩) 1 1) [pb] rfl (IsOnes.lit w4 #[.int .u64 (pb : Int)] 26 (0, 0) [pb] 1 rfl (by unfold maxLen; omega) rfl) (by have := HM.out; simp; omega) (by have := HM.out; simp; omega) ((upr4.alloc _).size) ?_)
        intro v' w5 hown5 _ hb5
        go_wp2_with fail
        go_roundw
        case rel => exact ⟨k + 1, by omega, by go_num, by rw [SN.out, HB.out]; exact hown5, (upr4.alloc _).below_trans hb5 (Nat.le_refl _)⟩
        case measure => simp [intOf]; omega
    · obtain rfl : k = l.length := by omega
      rw [List.take_length] at *
      go_wp2_with fail
      go_ret
      exact ⟨_, rfl, ho, upr⟩
end Go.Proofs.Ythdheddfimeigaa
