/- DeadTurns. -/
import Derived.Test.YthdheddfimeigaaDeadL3
import Derived.Test.YthdheddfimeigaaDeadQ
set_option linter.unusedSimpArgs false
namespace Go.Proofs.Ythdheddfimeigaa
open Go.RowKit Go.Sort

theorem add_len {l m : List PtrD} {q : PtrD} (h : addO l q = some m) : m.length = l.length + 1 := by
  unfold addO at h
  split at h
  · simp only [Option.some.injEq] at h
    rw [← h]
    have := posI_le l q
    simp
    omega
  · cases h
theorem take_mem {l : List PtrD} {k : Nat} (hk : k < l.length) (x : PtrD) : x ∈ l.take (k + 1) ↔ x ∈ l.take k ∨ x = l[k] := by
  rw [List.take_succ_eq_append_getElem hk, List.mem_append]
  simp
theorem not_before {l : List PtrD} (h : PW l) {k : Nat} (hk : k < l.length) : l[k] ∉ l.take k := by
  intro hm
  obtain ⟨i, hi, e⟩ := List.getElem_of_mem hm
  rw [List.length_take] at hi
  rw [List.getElem_take] at e
  have := pw_sorted.1 h i k hk (by omega)
  rw [e, less_irr] at this
  cases this

/-- What stands when k are put in. -/
structure TurnInv (a b z : List PtrD) (k : Nat) : Prop where
  pw : PW z
  fit : ∀ x ∈ z, fitB x = true
  mem : ∀ x, x ∈ z ↔ x ∈ a ∨ x ∈ b.take k
  no : ∀ x ∈ b.take k, x ∉ a
  len : z.length = a.length + k
theorem TurnInv.step {a b z : List PtrD} {k : Nat} (h : TurnInv a b z k) (hb : PW b) (hfb : ∀ x ∈ b, fitB x = true) (hk : k < b.length) : (b[k] ∈ a ∧ addO z b[k] = none) ∨ (b[k] ∉ a ∧ ∃ m, addO z b[k] = some m ∧ TurnInv a b m (k + 1)) := by
  have hfq := hfb b[k] (List.getElem_mem hk)
  rcases add_spec z b[k] h.pw hfq with ⟨h1, h2⟩ | ⟨h1, m, h2, h3, h4⟩
  · refine .inl ⟨?_, h2⟩
    rcases (h.mem _).1 h1 with h5 | h5
    · exact h5
    · exact absurd h5 (not_before hb hk)
  · have hna : b[k] ∉ a := fun h5 => h1 ((h.mem _).2 (.inl h5))
    refine .inr ⟨hna, m, h2, h3, fun x hx => ?_, fun x => ?_, fun x hx => ?_, by rw [add_len h2, h.len]; omega⟩
    · rcases (h4 x).1 hx with e | hx
      · rw [e]; exact hfq
      · exact h.fit x hx
    · rw [h4, h.mem, take_mem hk]
      constructor
      · rintro (h | h | h)
        · exact .inr (.inr h)
        · exact .inl h
        · exact .inr (.inl h)
      · rintro (h | h | h)
        · exact .inr (.inl h)
        · exact .inr (.inr h)
        · exact .inl h
    · rcases (take_mem hk x).1 hx with hx | e
      · exact h.no x hx
      · rw [e]; exact hna
/-- At the end: it is what Merge makes. -/
theorem TurnInv.end {a b z : List PtrD} (h : TurnInv a b z b.length) (ha : PW a) (hb : PW b) : mergeF a b = some z := by
  have hm := h.mem
  have hno := h.no
  rw [List.take_length] at hm hno
  rcases merge_spec _ a b (Nat.le_refl _) ha hb with ⟨⟨x, h1, h2⟩, _⟩ | ⟨_, m, h1, h2, h3⟩
  · exact absurd h1 (hno x h2)
  · rw [h1, sorted_one z m h.pw h2 (fun x => by rw [hm, h3])]
theorem TurnInv.start {a b : List PtrD} (ha : PW a) (hfa : ∀ x ∈ a, fitB x = true) : TurnInv a b a 0 := ⟨ha, hfa, fun x => by simp, fun x hx => by simp at hx, rfl⟩
theorem merge_in {a b : List PtrD} (ha : PW a) (hb : PW b) {x : PtrD} (h1 : x ∈ a) (h2 : x ∈ b) : mergeF a b = none := by
  rcases merge_spec _ a b (Nat.le_refl _) ha hb with ⟨_, h⟩ | ⟨h, _⟩
  · exact h
  · exact absurd h2 (h x h1)
end Go.Proofs.Ythdheddfimeigaa
