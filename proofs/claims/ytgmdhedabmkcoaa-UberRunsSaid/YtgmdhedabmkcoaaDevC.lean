/- A device's small calls: count, has, spend, Len, Pending, Ops, Dead, Break. -/
import Derived.Test.YtgmdhedabmkcoaaDev
set_option linter.unusedSimpArgs false
set_option linter.unusedVariables false
namespace Go.Proofs.Ytgmdhedabmkcoaa
open Go.RowKit

def mostN : Nat := 4611686018427387903
def DevD.counted (v : DevD) : DevD := { v with ops := if v.ops < 4611686018427387903 then v.ops + 1 else v.ops }
def DevD.hasB (v : DevD) (i : Int) : Bool := decide (0 ≤ i ∧ i < v.stable.length)
def DevD.spent (v : DevD) : DevD := if v.dead = true ∨ v.left = 0 then { v with dead := true } else { v with left := if 0 < v.left then v.left - 1 else v.left }
def DevD.powerB (v : DevD) : Bool := !(v.dead || decide (v.left = 0))
def DevD.broken (v : DevD) (n : Int) : DevD := { v with left := if n < -1 then -1 else n }

theorem touch_cell {w : World} {h : Hnd} {v : DevD} (D : Dv w h v) (i : Nat) (x : Value) : Touch (Foot h) w (w.setCell ⟨h.d, i, none⟩ x) := Touch.of_grown (grown_setCell D.dev i x) (fun k hk => by cases hk; exact .inl rfl)
/-- One field turned. -/
theorem Dv.field {w : World} {h : Hnd} {v v' : DevD} (D : Dv w h v) (i : Nat) (x : Value) (hc : (devC h v).setIfInBounds i x = devC h v') (hs : v'.stable = v.stable) (hn : v'.newest = v.newest) (hp : v'.pend = v.pend) (ho : v'.ops ≤ 4611686018427387903) (hl : -1 ≤ v'.left ∧ v'.left ≤ 9223372036854775807) :
    Dv (w.setCell ⟨h.d, i, none⟩ x) h v' := by
  have G := grown_setCell D.dev i x
  refine ⟨by rw [← hc]; exact D.dev.setCell i x, ?_, ?_, by rw [hs, hn]; exact D.len, by rw [hs]; exact D.max, D.ne, ?_, by rw [hs, hp]; exact D.locs, ho, hl⟩
  · rw [hs]; exact D.b1.grown G (fun e => D.dev_ne1 (Option.some.inj e))
  · rw [hn]; exact D.b2.grown G (fun e => D.dev_ne2 (Option.some.inj e))
  · rw [hp]; exact D.pend.kept G (.inr (own_ne (by decide) D.dev D.pend))

set_option maxHeartbeats 1000000 in
theorem count_any (w : World) (h : Hnd) (v : DevD) (D : Dv w h v) : Calls Try.prog 48 #[.pointer (some ⟨h.d, 0, none⟩)] w fun e w' => e = .returned (.tuple #[]) ∧ Dv w' h v.counted ∧ Touch (Foot h) w w' := by
  obtain ⟨c0, c1, c2, c3, c4, c5⟩ := D.cells
  have f3 := D.dev.free 3
  have HD := Lib.hid D
  have hb := D.ops
  obtain ⟨n, hn⟩ : ∃ n, n = v.ops := ⟨_, rfl⟩
  have HN := Lib.hid hn
  rw [← hn] at c3 hb
  clear c0 c1 c2 c4 c5 D hn
  by_cases hlt : n < 4611686018427387903
  · have t1 : decide ((n : Int) < 4611686018427387903) = true := by simp; omega
    go_enter Try.func48, Try.ntmps48
    go_wp2_with fail
    go_end0
    have e : (devC h v).setIfInBounds 3 (.int .i64 ((n : Int) + 1)) = devC h v.counted := by
      unfold devC DevD.counted
      rw [if_pos (by rw [← HN.out]; exact hlt), HN.out]
      rfl
    exact ⟨rfl, Dv.field HD.out 3 _ e rfl rfl rfl (by unfold DevD.counted; rw [if_pos (by rw [← HN.out]; exact hlt)]; show v.ops + 1 ≤ _; have := HN.out; omega) HD.out.left, touch_cell HD.out 3 _⟩
  · have t1 : decide ((n : Int) < 4611686018427387903) = false := by simp; omega
    go_enter Try.func48, Try.ntmps48
    go_wp2_with fail
    go_end0
    have e : v.counted = v := by unfold DevD.counted; rw [if_neg (by rw [← HN.out]; exact hlt)]
    exact ⟨rfl, by rw [e]; exact HD.out, Touch.refl _ _⟩

set_option maxHeartbeats 1000000 in
theorem has_any (w : World) (h : Hnd) (v : DevD) (D : Dv w h v) (i : Int) (hi : -9223372036854775808 ≤ i ∧ i ≤ 9223372036854775807) : Calls Try.prog 49 #[.pointer (some ⟨h.d, 0, none⟩), .int .i64 i] w fun e w' => e = .returned (.bool (v.hasB i)) ∧ w = w' := by
  obtain ⟨c0, c1, c2, c3, c4, c5⟩ := D.cells
  have hm := D.max
  obtain ⟨n, hn⟩ : ∃ n, n = v.stable.length := ⟨_, rfl⟩
  have HB := Lib.hid (show v.hasB i = decide (0 ≤ i ∧ i < (n : Int)) by rw [hn]; rfl)
  rw [← hn] at c0 hm
  clear c1 c2 c3 c4 c5 D hn
  by_cases h0 : 0 ≤ i
  · have t0 : decide (0 ≤ i) = true := by simpa using h0
    by_cases h1 : i < (n : Int)
    · have t1 : decide (i < (n : Int)) = true := by simpa using h1
      have HR := Lib.hid (show v.hasB i = true by rw [HB.out]; simp; omega)
      go_enter Try.func49, Try.ntmps49
      go_wp2_with fail
      go_ret
      exact ⟨by rw [HR.out]; rfl, rfl⟩
    · have t1 : decide (i < (n : Int)) = false := by simpa using h1
      have HR := Lib.hid (show v.hasB i = false by rw [HB.out]; simp; omega)
      go_enter Try.func49, Try.ntmps49
      go_wp2_with fail
      go_ret
      exact ⟨by rw [HR.out]; rfl, rfl⟩
  · have t0 : decide (0 ≤ i) = false := by simpa using h0
    have HR := Lib.hid (show v.hasB i = false by rw [HB.out]; simp; omega)
    go_enter Try.func49, Try.ntmps49
    go_wp2_with fail
    go_ret
    exact ⟨by rw [HR.out]; rfl, rfl⟩

set_option maxHeartbeats 2000000 in
theorem spend_any (w : World) (h : Hnd) (v : DevD) (D : Dv w h v) : Calls Try.prog 50 #[.pointer (some ⟨h.d, 0, none⟩)] w fun e w' => e = .returned (.bool v.powerB) ∧ Dv w' h v.spent ∧ Touch (Foot h) w w' := by
  obtain ⟨c0, c1, c2, c3, c4, c5⟩ := D.cells
  have f4 := D.dev.free 4
  have f5 := D.dev.free 5
  have hl := D.left
  have HD := Lib.hid D
  obtain ⟨l, hll⟩ : ∃ l, l = v.left := ⟨_, rfl⟩
  obtain ⟨d, hdd⟩ : ∃ d, d = v.dead := ⟨_, rfl⟩
  have HP := Lib.hid (show v.powerB = !(d || decide (l = 0)) by rw [hll, hdd]; rfl)
  have HS := Lib.hid (show v.spent = if d = true ∨ l = 0 then { v with dead := true } else { v with left := if 0 < l then l - 1 else l } by rw [hll, hdd]; rfl)
  have HLL := Lib.hid hll
  have HDD := Lib.hid hdd
  rw [← hll] at c4 hl
  rw [← hdd] at c5
  clear c0 c1 c2 c3 D hll hdd
  by_cases h0 : l = 0
  · subst h0
    have HR := Lib.hid (show v.powerB = false by rw [HP.out]; simp)
    have HV := Lib.hid (show v.spent = { v with dead := true } by rw [HS.out, if_pos (.inr rfl)])
    go_enter Try.func50, Try.ntmps50
    go_wp2_with fail
    go_ret
    exact ⟨by rw [HR.out]; rfl, by rw [HV.out]; exact Dv.field HD.out 5 (.bool true) rfl rfl rfl rfl HD.out.ops HD.out.left, touch_cell HD.out 5 _⟩
  have t0 : (l == 0) = false := by simpa using h0
  cases d
  case true =>
    have HR := Lib.hid (show v.powerB = false by rw [HP.out]; simp)
    have HV := Lib.hid (show v.spent = v by rw [HS.out, if_pos (.inl rfl), HDD.out])
    go_enter Try.func50, Try.ntmps50
    go_wp2_with fail
    go_ret
    exact ⟨by rw [HR.out]; rfl, by rw [HV.out]; exact HD.out, Touch.refl _ _⟩
  case false =>
    have HR := Lib.hid (show v.powerB = true by rw [HP.out]; simpa using h0)
    by_cases h1 : 0 < l
    · have t1 : decide (0 < l) = true := by simpa using h1
      have HV := Lib.hid (show v.spent = { v with left := l - 1 } by rw [HS.out, if_neg (by simpa using h0), if_pos h1])
      go_enter Try.func50, Try.ntmps50
      go_wp2_with fail
      go_ret
      exact ⟨by rw [HR.out]; rfl, by rw [HV.out]; exact Dv.field HD.out 4 (.int .i64 (l - 1)) rfl rfl rfl rfl HD.out.ops (by show -1 ≤ l - 1 ∧ l - 1 ≤ _; omega), touch_cell HD.out 4 _⟩
    · have t1 : decide (0 < l) = false := by simpa using h1
      have HV := Lib.hid (show v.spent = v by rw [HS.out, if_neg (by simpa using h0), if_neg h1, HLL.out])
      go_enter Try.func50, Try.ntmps50
      go_wp2_with fail
      go_ret
      exact ⟨by rw [HR.out]; rfl, by rw [HV.out]; exact HD.out, Touch.refl _ _⟩

theorem dpending_any (w : World) (h : Hnd) (v : DevD) (D : Dv w h v) : Calls Try.prog 33 #[.pointer (some ⟨h.d, 0, none⟩)] w fun e w' => e = .returned (.int .i64 (v.pend.length : Int)) ∧ w = w' := by
  obtain ⟨c0, c1, c2, c3, c4, c5⟩ := D.cells
  obtain ⟨a, cap, hvp⟩ := (D.pend.row ww).slice
  rw [hvp] at c2
  clear D c1 c0 c3 c4 c5 hvp
  go_enter Try.func33, Try.ntmps33
  go_wp2_with fail
  go_ret
  exact ⟨rfl, rfl⟩
set_option maxHeartbeats 1000000 in
theorem dbreak_any (w : World) (h : Hnd) (v : DevD) (D : Dv w h v) (n : Int) (hn : -9223372036854775808 ≤ n ∧ n ≤ 9223372036854775807) : Calls Try.prog 20 #[.pointer (some ⟨h.d, 0, none⟩), .int .i64 n] w fun e w' => e = .returned (.tuple #[]) ∧ Dv w' h (v.broken n) ∧ Touch (Foot h) w w' := by
  obtain ⟨c0, c1, c2, c3, c4, c5⟩ := D.cells
  have f4 := D.dev.free 4
  have HD := Lib.hid D
  clear D c1 c2 c0 c5 c3
  by_cases h0 : n < -1
  · have HV := Lib.hid (show v.broken n = { v with left := -1 } by unfold DevD.broken; rw [if_pos h0])
    go_enter Try.func20, Try.ntmps20
    go_wp2_with fail
    go_end0
    exact ⟨rfl, by rw [HV.out]; exact Dv.field HD.out 4 (.int .i64 (-1)) rfl rfl rfl rfl HD.out.ops (by show (-1 : Int) ≤ -1 ∧ (-1 : Int) ≤ _; omega), touch_cell HD.out 4 _⟩
  · have HV := Lib.hid (show v.broken n = { v with left := n } by unfold DevD.broken; rw [if_neg h0])
    go_enter Try.func20, Try.ntmps20
    go_wp2_with fail
    go_end0
    exact ⟨rfl, by rw [HV.out]; exact Dv.field HD.out 4 (.int .i64 n) rfl rfl rfl rfl HD.out.ops (by show -1 ≤ n ∧ n ≤ _; omega), touch_cell HD.out 4 _⟩
end Go.Proofs.Ytgmdhedabmkcoaa
