/- The document's Right of lists: the walk. -/
import Derived.Test.YthbfhlphclgnaaaDead
set_option linter.unusedSimpArgs false
namespace Go.Proofs.Ythbfhlphclgnaaa
open Go.RowKit Go.Sort

structure RLessFits (x y : Value) (b : Bool) : Prop where
  fit : ∀ W, Calls Try.prog 57 #[x, y] W fun e w' => BoolUp b W e w'
theorem rless_fits (W : World) (x y : Value) (b : Bool) (h : RLessFits x y b) : Calls Try.prog 57 #[x, y] W fun e w' => BoolUp b W e w' := h.fit W

set_option maxHeartbeats 4000000 in
theorem rright_any (w : World) (v : Value) (l : List PtrD) (hv : IsPtrs w v l) : Calls Try.prog 45 #[v] w fun e w' => BoolUp (rightB l) w e w' := by
  have hlen := hv.length_le
  obtain ⟨a, cap, rfl⟩ := hv.slice
  go_enter Try.func45, Try.ntmps45
  go_wp2_with fail
  go_loopw [6] (fun i wr => ∃ k : Nat, k ≤ l.length ∧ i = .int .i64 k ∧ (∀ j (hj : j < l.length), j < k → okAt l j hj = true) ∧ Up w wr) (fun i _ => l.length - (intOf i).toNat)
  case atStart => exact ⟨0, Nat.zero_le _, rfl, fun j hj h => by omega, Up.refl _⟩
  case round =>
    obtain ⟨k, hk, rfl, hall, upr⟩ := hrel
    have Hall := Lib.hid hall
    clear hall
    by_cases hlt : k < l.length
    · obtain ⟨b, off, rfl, hbs, hnc, hc⟩ := ptrs_at (IsRow.up hv upr) (by omega)
      have x0 := cell_regrown (hc k hlt).1
      have x1 := cell_regrown (hc k hlt).2.1
      have x2 := cell_regrown (hc k hlt).2.2
      have F := Lib.hid (fun W => one_any W l[k])
      have Hst : (okAt l k hlt = true → ∀ j (hj : j < l.length), j < k + 1 → okAt l j hj = true) := fun h j hj hjk => by
        by_cases e : j = k
        · subst e; exact h
        · exact Hall.out j hj (by omega)
      have HST := Lib.hid Hst
      have HNO := Lib.hid (fun h => not_right hlt h)
      have b2 : ((k : Int) < (l.length : Int)) = True := by simp; omega
      have hok : okAt l k hlt = (fitB l[k] && (if h0 : k = 0 then true else lessB (l[k - 1]'(by omega)) l[k])) := rfl
      have HOK := Lib.hid hok
      clear Hst hok
      by_cases hk0 : k = 0
      · have HOK2 := Lib.hid (show okAt l k hlt = fitB l[k] by subst hk0; exact ok_zero hlt)
        have t0 : decide ((0 : Int) < (k : Int)) = false := by simp; omega
        have t0' : decide (0 < k) = false := by simp; omega
        clear HOK hk0
        generalize l[k] = p at *
        obtain ⟨pl, pb, ps⟩ := p
        unfold ptrV at F
        simp only at F x0 x1 x2
        generalize fitB ⟨pl, pb, ps⟩ = g at *
        clear hc
        go_wp2_with fail
        cases g
        all_goals
          refine wp_region_quiet_below (by kernel_rfl) (by kernel_rfl) ?_
          repeat (go_big_quiet_step ((go_at_call 56; exact Calls.regrown_of (F.out _))))
          refine wpQuiet_nil ?_
          intro w4 hw'
          obtain ⟨⟨d, os⟩, hw4⟩ := hw'
          have up4 : Up wr w4 := by rw [hw4]; exact below_regrown _ _ _
          clear hw4 x0 x1 x2
          have upf := upr.trans up4
          go_wp2_with fail
        · go_ret
          exact ⟨by rw [HNO.out HOK2.out] <;> rfl, upf⟩
        · go_roundw
          case rel => exact ⟨k + 1, by omega, by simp, HST.out HOK2.out, upf⟩
          case measure => simp [intOf]; omega
      · obtain ⟨j, hj⟩ : ∃ j, j = k - 1 := ⟨_, rfl⟩
        have hjlt : j < l.length := by omega
        have HOK2 := Lib.hid (show okAt l k hlt = (fitB l[k] && lessB l[j] l[k]) by subst hj; rw [HOK.out, dif_neg hk0])
        have x3 := cell_regrown (hc j hjlt).1
        have x4 := cell_regrown (hc j hjlt).2.1
        have x5 := cell_regrown (hc j hjlt).2.2
        have L := Lib.hid (show RLessFits (ptrV l[j]) (ptrV l[k]) (lessB l[j] l[k]) from ⟨fun W => refLess_any W l[j] l[k]⟩)
        have t0 : decide ((0 : Int) < (k : Int)) = true := by simp; omega
        have t0' : decide (0 < k) = true := by simp; omega
        have t1 : IntKind.i64.wrap ((k : Int) - 1) = (j : Int) := by rw [show (k : Int) - 1 = (j : Int) by omega]; exact wrap_i64_nat j (by omega)
        have t2 : ((j : Int) < (l.length : Int)) = True := by simp; omega
        clear HOK hk0 hj
        generalize l[k] = p at *
        generalize l[j] = q at *
        obtain ⟨pl, pb, ps⟩ := p
        obtain ⟨ql, qb, qs⟩ := q
        unfold ptrV at F L
        simp only at F L x0 x1 x2 x3 x4 x5
        generalize fitB ⟨pl, pb, ps⟩ = g at *
        generalize lessB ⟨ql, qb, qs⟩ ⟨pl, pb, ps⟩ = le at *
        clear hc
        go_wp2_with fail
        cases g
        · refine wp_region_quiet_below (by kernel_rfl) (by kernel_rfl) ?_
          repeat (go_big_quiet_step ((go_at_call 56; exact Calls.regrown_of (F.out _))))
          refine wpQuiet_nil ?_
          intro w4 hw'
          obtain ⟨⟨d, os⟩, hw4⟩ := hw'
          have up4 : Up wr w4 := by rw [hw4]; exact below_regrown _ _ _
          clear hw4 x0 x1 x2
          have upf := upr.trans up4
          go_wp2_with fail
          go_ret
          exact ⟨by rw [HNO.out (by rw [HOK2.out]; simp)] <;> rfl, upf⟩
        cases le
        all_goals
          refine wp_region_quiet_below (by kernel_rfl) (by kernel_rfl) ?_
          repeat (go_big_quiet_step (first | (go_at_call 56; exact Calls.regrown_of (F.out _)) | (go_at_call 57; exact Calls.regrown_of (rless_fits _ _ _ _ L.out))))
          refine wpQuiet_nil ?_
          intro w4 hw'
          obtain ⟨⟨d, os⟩, hw4⟩ := hw'
          have up4 : Up wr w4 := by rw [hw4]; exact below_regrown _ _ _
          clear hw4 x0 x1 x2 x3 x4 x5
          have upf := upr.trans up4
          go_wp2_with fail
        · go_ret
          exact ⟨by rw [HNO.out (by rw [HOK2.out]; simp)] <;> rfl, upf⟩
        · go_roundw
          case rel => exact ⟨k + 1, by omega, by simp, HST.out (by rw [HOK2.out]; simp), upf⟩
          case measure => simp [intOf]; omega
    · obtain rfl : k = l.length := by omega
      have hb : rightB l = true := by
        rw [rightB_iff]
        exact fun i h => Hall.out i h h
      go_wp2_with fail
      go_ret
      exact ⟨by first | rfl | (rw [hb]; rfl), upr⟩
end Go.Proofs.Ythbfhlphclgnaaa
