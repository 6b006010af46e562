/- Plain laws of sorted lists: one more; which are lists. -/
import Derived.Test.YthdheddfimeigaaDeadP
set_option linter.unusedSimpArgs false
namespace Go.Proofs.Ythdheddfimeigaa
open Go.RowKit Go.Sort

theorem add_spec (l : List PtrD) (q : PtrD) (hl : PW l) (hf : fitB q = true) : (q ∈ l ∧ addO l q = none) ∨ (q ∉ l ∧ ∃ m, addO l q = some m ∧ PW m ∧ ∀ x, x ∈ m ↔ x = q ∨ x ∈ l) := by
  by_cases hm : q ∈ l
  · exact .inl ⟨hm, by unfold addO; rw [if_neg (by simp [hm])]⟩
  · refine .inr ⟨hm, _, by unfold addO; rw [if_pos ⟨hf, hm⟩], ?_, fun x => ?_⟩
    · have hs := pw_sorted.1 hl
      have hple := posI_le l q
      unfold PW
      rw [List.pairwise_append]
      have hsub := hl
      unfold PW at hsub
      refine ⟨hsub.sublist (List.take_sublist _ _), ?_, ?_⟩
      · rw [List.pairwise_cons]
        refine ⟨fun z hz => ?_, hsub.sublist (List.drop_sublist _ _)⟩
        obtain ⟨j, hj, rfl⟩ := List.getElem_of_mem hz
        rw [List.length_drop] at hj
        rw [List.getElem_drop]
        have hlt : posI l q < l.length := by omega
        have h1 := posI_not l q hlt
        have h2 : l[posI l q] ≠ q := fun e => hm (by rw [← e]; exact List.getElem_mem hlt)
        have h3 : lessB q l[posI l q] = true := by
          cases h4 : lessB q l[posI l q]
          · exact absurd (less_tri h1 h4) h2
          · rfl
        by_cases e : j = 0
        · subst e
          simpa using h3
        · exact less_trans h3 (hs (posI l q) (posI l q + j) (by omega) (by omega))
      · intro y hy z hz
        obtain ⟨i, hi, rfl⟩ := List.getElem_of_mem hy
        rw [List.length_take] at hi
        rw [List.getElem_take]
        have hil : i < l.length := by omega
        have h1 : lessB l[i] q = true := posI_lt i hil (by omega)
        rcases List.mem_cons.1 hz with e | hz
        · rw [e]; exact h1
        · obtain ⟨j, hj, rfl⟩ := List.getElem_of_mem hz
          rw [List.length_drop] at hj
          rw [List.getElem_drop]
          exact hs i (posI l q + j) (by omega) (by omega)
    · rw [List.mem_append, List.mem_cons]
      have : x ∈ l ↔ x ∈ l.take (posI l q) ∨ x ∈ l.drop (posI l q) := by
        rw [← List.mem_append, List.take_append_drop]
      rw [this]
      constructor
      · rintro (h | h | h)
        · exact .inr (.inl h)
        · exact .inl h
        · exact .inr (.inr h)
      · rintro (h | h | h)
        · exact .inr (.inl h)
        · exact .inl h
        · exact .inr (.inr h)
theorem right_iff (l : List PtrD) : rightB l = true ↔ PW l ∧ ∀ x ∈ l, fitB x = true := by
  constructor
  · intro h
    refine ⟨pw_sorted.2 (right_sorted h), fun x hx => ?_⟩
    obtain ⟨i, hi, rfl⟩ := List.getElem_of_mem hx
    have := (rightB_iff l).1 h i hi
    unfold okAt at this
    rw [Bool.and_eq_true] at this
    exact this.1
  · rintro ⟨h1, h2⟩
    rw [rightB_iff]
    intro i hi
    unfold okAt
    rw [Bool.and_eq_true]
    refine ⟨h2 _ (List.getElem_mem hi), ?_⟩
    by_cases h0 : i = 0
    · rw [dif_pos h0]
    · rw [dif_neg h0]
      exact pw_sorted.1 h1 (i - 1) i hi (by omega)
end Go.Proofs.Ythdheddfimeigaa
