/- Pointers: plain functions; the walks of Right, Less and Since of both sides. -/
import Derived.Test.YtgmdhedabmkcoaaFieldG
set_option linter.unusedSimpArgs false
namespace Go.Proofs.Ytgmdhedabmkcoaa
open Go.RowKit

structure PtrD where
  loc : Int
  birth : Nat
  sum : Nat
deriving DecidableEq
/-- The parts fit their kinds. -/
def PtrD.wf (p : PtrD) : Prop := (-9223372036854775808 ≤ p.loc ∧ p.loc ≤ 9223372036854775807) ∧ p.birth < 18446744073709551616 ∧ p.sum < 4294967296
def hole : PtrD := ⟨0, 0, 0⟩
def ptrV (p : PtrD) : Value := .agg #[.int .i64 p.loc, .int .u64 (p.birth : Int), .int .u32 (p.sum : Int)]
def goodB (p : PtrD) : Bool := decide (p = hole) || (decide (4 ≤ p.loc) && decide (p.loc < 1024) && decide (1 ≤ p.birth) && decide (p.birth ≤ 281474976710655))
def lessB (p q : PtrD) : Bool := if p.birth ≠ q.birth then decide (p.birth < q.birth) else if p.loc ≠ q.loc then decide (p.loc < q.loc) else decide (p.sum < q.sum)
def sinceB (p : PtrD) (s : Nat) : Bool := decide (p ≠ hole) && decide (s < p.birth)

def BoolUp (b : Bool) (w : World) (e : Ending) (w' : World) : Prop := e = .returned (.bool b) ∧ Up w w'

/-- Two bools that say the same. -/
theorem retB {x b : Bool} (h : x = true ↔ b = true) : Ending.returned (.bool x) = .returned (.bool b) := by rw [Bool.eq_iff_iff.2 h]
theorem goodB_iff (l : Int) (b s : Nat) : goodB ⟨l, b, s⟩ = true ↔ (l = 0 ∧ b = 0 ∧ s = 0) ∨ (4 ≤ l ∧ l < 1024 ∧ 1 ≤ b ∧ b ≤ 281474976710655) := by
  simp [goodB, hole, and_assoc]
theorem lessB_iff (l l2 : Int) (b s b2 s2 : Nat) : lessB ⟨l, b, s⟩ ⟨l2, b2, s2⟩ = true ↔ b < b2 ∨ (b = b2 ∧ (l < l2 ∨ (l = l2 ∧ s < s2))) := by
  unfold lessB
  simp only
  split
  · simp; omega
  · split
    · simp; omega
    · simp; omega
theorem sinceB_iff (l : Int) (b s n : Nat) : sinceB ⟨l, b, s⟩ n = true ↔ ¬ (l = 0 ∧ b = 0 ∧ s = 0) ∧ n < b := by
  by_cases h : n < b <;> simp [sinceB, hole, h] <;> omega

set_option maxHeartbeats 1000000 in
theorem right_any (w : World) (p : PtrD) :
    Calls Try.prog 44 #[ptrV p] w fun e w' => BoolUp (goodB p) w e w' := by
  obtain ⟨l, b, s⟩ := p
  unfold ptrV
  go_enter Try.func44, Try.ntmps44
  go_wp2_with fail
  all_goals
    go_ret
    refine ⟨?_, up_alloc _ _⟩
    refine retB ?_
    rw [goodB_iff]
    try simp only [decide_eq_true_eq, beq_iff_eq, bne_iff_ne, beq_eq_false_iff_ne, bne_eq_false_iff_eq, Bool.not_eq_true', Bool.and_eq_true, Bool.or_eq_true, Bool.and_eq_false_iff, decide_eq_false_iff_not] at *
    try simp only [Bool.false_eq_true, false_iff, true_iff]
    omega

theorem refRight_any (w : World) (p : PtrD) :
    Calls Try.prog 45 #[ptrV p] w fun e w' => BoolUp (goodB p) w e w' := by
  obtain ⟨l, b, s⟩ := p
  unfold ptrV
  go_enter Try.func45, Try.ntmps45
  go_wp2_with fail
  all_goals
    go_ret
    refine ⟨?_, up_alloc _ _⟩
    refine retB ?_
    rw [goodB_iff]
    try simp only [decide_eq_true_eq, beq_iff_eq, bne_iff_ne, beq_eq_false_iff_ne, bne_eq_false_iff_eq, Bool.not_eq_true', Bool.and_eq_true, Bool.or_eq_true, Bool.and_eq_false_iff, decide_eq_false_iff_not] at *
    try simp only [Bool.false_eq_true, false_iff, true_iff]
    omega

end Go.Proofs.Ytgmdhedabmkcoaa
