/- Ubers: equality; slot; small; the closure of List; Commit: the walks. -/
import Derived.Test.YtgmdhedabmkcoaaUbD
import Derived.Test.YtgmdhedabmkcoaaDevF
set_option linter.unusedSimpArgs false
set_option linter.unusedVariables false
namespace Go.Proofs.Ytgmdhedabmkcoaa
open Go.RowKit Go.Sort

theorem ub_eq (u v : UbD) (W : World) : (Op.equalIn 10000 27 (.agg (uC u)) (.agg (uC v))).run Try.prog W = .ok (decide (u = v)) W := by
  obtain ⟨t, s, ⟨l, b, m⟩, n, c⟩ := u
  obtain ⟨t2, s2, ⟨l2, b2, m2⟩, n2, c2⟩ := v
  have e : decide ((⟨t, s, ⟨l, b, m⟩, n, c⟩ : UbD) = ⟨t2, s2, ⟨l2, b2, m2⟩, n2, c2⟩) = (((t : Int) == (t2 : Int)) && (((s : Int) == (s2 : Int)) && (((l == l2) && (((b : Int) == (b2 : Int)) && ((m : Int) == (m2 : Int)))) && ((n == n2) && (c == c2))))) := by
    rw [Bool.eq_iff_iff]; simp; omega
  rw [e]
  clear e
  unfold uC
  simp only
  rw [run_equalIn_struct W 9999 27 _ _ (by kernel_rfl) (by kernel_rfl)]
  cases x0 : ((t : Int) == (t2 : Int))
  · go_simp
  cases x1 : ((s : Int) == (s2 : Int))
  · go_simp
  cases x2 : (l == l2)
  · go_simp
  cases x3 : ((b : Int) == (b2 : Int))
  · go_simp
  cases x4 : ((m : Int) == (m2 : Int))
  · go_simp
  cases x5 : (n == n2)
  · go_simp
  cases x6 : (c == c2)
  · go_simp
  go_simp
theorem slot_any (w : World) (u : UbD) : Calls Try.prog 47 #[.agg (uC u)] w fun e w' => e = .returned (.int .i64 ((u.txg % 4 : Nat) : Int)) ∧ Up w w' := by
  have B1 := Lib.hid (Blk.new w 27 (uC u))
  have U1 := Lib.hid (up_alloc w (.cells (uC u) 27))
  obtain ⟨txg, stamp, tab, len, sec⟩ := u
  obtain ⟨c0, c1, c2, c5, c6, R2⟩ := uC_at B1.out
  have wr := wrap_i64_nat (txg % 4) (by omega)
  rw [show ((txg % 4 : Nat) : Int) = (txg : Int) % 4 by omega] at wr
  clear c1 c2 c5 c6 R2
  go_enter Try.func47, Try.ntmps47
  go_wp2_with fail
  go_ret
  exact ⟨by simp, U1.out⟩
theorem cmp_any (w : World) (a b : Nat) : Calls Try.prog 54 #[.int .u64 (a : Int), .int .u64 (b : Int)] w fun e w' => e = .returned (.int .i64 (if a < b then -1 else if b < a then 1 else 0)) ∧ w = w' := by
  have NB : ∀ x : Int, (x != x) = false := fun x => by simp
  by_cases h1 : a < b
  · have b1 : ((a : Int) < (b : Int)) = True := by simp; omega
    rw [if_pos h1]
    clear h1
    go_enter Try.func54, Try.ntmps54
    go_wp2
    go_ret
    exact ⟨rfl, rfl⟩
  have b1 : ((a : Int) < (b : Int)) = False := by simp; omega
  rw [if_neg h1]
  by_cases h2 : b < a
  · have b2 : ((b : Int) < (a : Int)) = True := by simp; omega
    rw [if_pos h2]
    clear h1 h2
    go_enter Try.func54, Try.ntmps54
    go_wp2
    go_ret
    exact ⟨rfl, rfl⟩
  have b2 : ((b : Int) < (a : Int)) = False := by simp; omega
  rw [if_neg h2]
  clear h1 h2
  go_enter Try.func54, Try.ntmps54
  go_wp2
  go_ret
  exact ⟨rfl, rfl⟩
def cmpU (u v : UbD) : Int := if u.txg < v.txg then -1 else if v.txg < u.txg then 1 else 0
theorem closure_any (w : World) (u v : UbD) : Calls Try.prog 53 #[.agg (uC u), .agg (uC v)] w fun e w' => e = .returned (.int .i64 (cmpU u v)) ∧ w' = (w.alloc (.cells (uC u) 27)).alloc (.cells (uC v) 27) := by
  have B1 := Lib.hid ((Blk.new w 27 (uC u)).up (up_alloc (w.alloc (.cells (uC u) 27)) (.cells (uC v) 27)))
  have b2 := Blk.new (w.alloc (.cells (uC u) 27)) 27 (uC v)
  rw [sz_alloc] at b2
  have B2 := Lib.hid b2
  clear b2
  have CM := Lib.hid (cmp_any ((w.alloc (.cells (uC u) 27)).alloc (.cells (uC v) 27)) u.txg v.txg)
  have HC := Lib.hid (show cmpU u v = if u.txg < v.txg then -1 else if v.txg < u.txg then 1 else 0 from rfl)
  generalize cmpU u v = z at *
  obtain ⟨txg, stamp, tab, len, sec⟩ := u
  obtain ⟨txg2, stamp2, tab2, len2, sec2⟩ := v
  have c0 := (uC_at B1.out).1
  have d0 := (uC_at B2.out).1
  dsimp only at CM HC
  rw [← HC.out] at CM
  go_enter Try.func53, Try.ntmps53
  go_wp2_with fail
  refine CM.out.mono ?_
  rintro e w2 ⟨rfl, rfl⟩
  go_wp2_with fail
  go_ret
  exact ⟨rfl, rfl⟩

end Go.Proofs.Ytgmdhedabmkcoaa
