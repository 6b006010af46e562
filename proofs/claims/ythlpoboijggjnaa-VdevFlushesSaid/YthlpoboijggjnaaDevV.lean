/- What the laws of a device share: an act in a variable, rows of acts. -/
import Derived.Test.YthlpoboijggjnaaDevO
set_option linter.unusedSimpArgs false
set_option linter.unusedVariables false
namespace Go.Proofs.Ythlpoboijggjnaa
open Go.RowKit

def actC (x : ActD) : Array Value := (acells x).toArray
def zAct : ActD := ⟨0, 0, zSec, ⟨.slice none 0 0, rfl⟩⟩
theorem actC_size (x : ActD) : (actC x).size = 131 := by unfold actC; rw [List.size_toArray]; exact aw.len x
theorem actC_one (x : ActD) : (actC x).all (·.oneCell') = true := all_oneCell_toArray (aw.one x)
theorem info_act (x : ActD) : (Try.prog.info? 31).map (·.size) = some (actC x).size := by rw [actC_size]; kernel_rfl
theorem zero_act : ∀ W : World, (zeroValue 31).run Try.prog W = .ok (.agg (actC zAct)) W :=
  (zero_of_info (P := Try.prog) (t := 31) (v := .agg (actC zAct)) (n := 131) (by kernel_rfl)).1
theorem actZ (x : ActD) : (actC zAct).size = (actC x).size := by rw [actC_size, actC_size]
theorem act_parts {w : World} {b : Nat} {t : TypeId} {x : ActD} (h : Blk w b t (actC x)) : w.cell? ⟨b, 0, none⟩ = some (.int .i64 x.kind) ∧ w.cell? ⟨b, 1, none⟩ = some (.int .i64 x.loc) ∧ w.rangeAt b 2 (secC x.s.val).toList := by
  refine ⟨by rw [h.cell]; rfl, by rw [h.cell]; rfl, fun j v hj => ?_⟩
  rw [h.cell]
  rw [secC_scells] at hj
  unfold actC acells
  rw [List.getElem?_toArray, Nat.add_comm 2 j, List.getElem?_cons_succ, List.getElem?_cons_succ]
  rw [List.getElem?_append_left (List.getElem?_eq_some_iff.1 hj).1]
  exact hj
/-- Acts in a slice. -/
theorem acts_at {w : World} {a : Option Addr} {n cap : Nat} {l : List ActD} (h : IsRow acells w (.slice a n cap) l) (h0 : 0 < l.length) : ∃ b off, a = some ⟨b, off, none⟩ ∧ b < w.heap.size ∧ ∀ i (hi : i < l.length), w.rangeAt b (off + i * 131) (actC l[i]).toList := by
  obtain ⟨b, off, h1, h2, _, h4⟩ := IsRow.get h aw h0
  exact ⟨b, off, h1, h2, fun i hi j v hj => by
    have := h4 i hi j v (by simpa [actC] using hj)
    rw [show off + i * 131 + j = off + (i * 131 + j) by omega]
    exact this⟩

/-- What a write or a flush does to the power. -/
def Step (v v' : DevD) (e : Int) : Prop := v'.stable.length = v.stable.length ∧ v'.pend.length ≤ v.pend.length + 1 ∧
  ((e = 0 ∧ v.dead = false ∧ v.left ≠ 0 ∧ v'.dead = false ∧ v'.left = (if 0 < v.left then v.left - 1 else v.left)) ∨ (e = 42 ∧ (v.dead = true ∨ v.left = 0) ∧ v'.dead = true ∧ v'.left = v.left))
theorem step_spent (v : DevD) : (v.powerB = true ∧ v.dead = false ∧ v.left ≠ 0 ∧ v.counted.spent.dead = false ∧ v.counted.spent.left = (if 0 < v.left then v.left - 1 else v.left)) ∨ (v.powerB = false ∧ (v.dead = true ∨ v.left = 0) ∧ v.counted.spent.dead = true ∧ v.counted.spent.left = v.left) := by
  unfold DevD.powerB DevD.counted DevD.spent
  cases hd : v.dead
  · by_cases hl : v.left = 0
    · right; simp [hl]
    · left; simp [hl, hd]
  · right; simp
theorem step_write (v : DevD) (i : Int) (s : Sec) (hb : v.hasB i = true) : Step v (v.written i s) (v.writeE i) := by
  obtain ⟨h1, h2, h3⟩ := spent_same v.counted
  have h1 : v.counted.spent.pend = v.pend := h1
  have h2 : v.counted.spent.stable = v.stable := h2
  unfold Step DevD.written DevD.writeE
  rw [hb]
  rcases step_spent v with ⟨hp, h4, h5, h6, h7⟩ | ⟨hp, h4, h6, h7⟩
  · rw [hp]
    simp only [if_true]
    exact ⟨by show v.counted.spent.stable.length = _; rw [h2], by show (v.counted.spent.pend ++ _).length ≤ _; rw [h1]; simp, .inl ⟨trivial, h4, h5, h6, h7⟩⟩
  · rw [hp]
    simp only [if_true, Bool.false_eq_true, if_false]
    exact ⟨by rw [h2], by rw [h1]; omega, .inr ⟨trivial, h4, h6, h7⟩⟩
theorem step_flush (v : DevD) : Step v v.flushed v.flushE := by
  obtain ⟨h1, h2, h3⟩ := spent_same v.counted
  have h1 : v.counted.spent.pend = v.pend := h1
  have h2 : v.counted.spent.stable = v.stable := h2
  unfold Step DevD.flushed DevD.flushE
  rcases step_spent v with ⟨hp, h4, h5, h6, h7⟩ | ⟨hp, h4, h6, h7⟩
  · rw [hp]
    simp only [if_true]
    exact ⟨by show (applyW _ _).length = _; rw [applyW_length], by show 0 ≤ _; omega, .inl ⟨trivial, h4, h5, h6, h7⟩⟩
  · rw [hp]
    simp only [Bool.false_eq_true, if_false]
    exact ⟨by rw [h2], by rw [h1]; omega, .inr ⟨trivial, h4, h6, h7⟩⟩
theorem new8 : (newD (clampN 8)).stable.length = 8 ∧ (newD (clampN 8)).pend.length = 0 ∧ (newD (clampN 8)).dead = false := ⟨by kernel_rfl, rfl, rfl⟩
theorem crashed_facts (v : DevD) (ks : List Bool) : (v.crashed ks).stable.length = v.stable.length ∧ (v.crashed ks).pend.length = 0 ∧ (v.crashed ks).dead = false ∧ (v.crashed ks).left = -1 := ⟨applyW_length _ _, rfl, rfl, rfl⟩
end Go.Proofs.Ythlpoboijggjnaa
