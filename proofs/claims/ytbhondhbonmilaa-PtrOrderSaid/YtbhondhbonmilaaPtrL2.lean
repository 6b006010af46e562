/- PtrTells. -/
import Derived.Test.YtbhondhbonmilaaPtrO
import Derived.Deep.RegionHeld3
set_option linter.unusedSimpArgs false
namespace Go.Proofs.Ytbhondhbonmilaa
open Go.RowKit

theorem keep6 {w1 w' : World} {a b c d e f : Addr} {x y z r s t : Value} (h0 : w1.cell? a = some x) (h1 : w1.cell? b = some y) (h2 : w1.cell? c = some z) (h3 : w1.cell? d = some r) (h4 : w1.cell? e = some s) (h5 : w1.cell? f = some t) (h : Up w1 w') :
    Up w1 w' ∧ (w'.cell? a = some x ∧ w'.cell? b = some y ∧ w'.cell? c = some z) ∧ w'.cell? d = some r ∧ w'.cell? e = some s ∧ w'.cell? f = some t :=
  ⟨h, ⟨h.cell h0, h.cell h1, h.cell h2⟩, h.cell h3, h.cell h4, h.cell h5⟩

set_option maxHeartbeats 2000000 in
theorem ptrTells_walk (w : World) (p : PtrD) (_hp : p.wf) (q : PtrD) (_hq : q.wf) (n : Nat) (_hn : n < 18446744073709551616) :
    Calls Try.prog 7 #[ptrV p, ptrV q, .int .u64 (n : Int)] w fun e w' => e = .returned (.bool true) ∧ Up w w' := by
  have R1 := Lib.hid (fun W => right_any W p)
  have R2 := Lib.hid (fun W => refRight_any W p)
  have L1 := Lib.hid (fun W => less_any W p q)
  have L2 := Lib.hid (fun W => refLess_any W p q)
  have S1 := Lib.hid (fun W => since_any W p n)
  have S2 := Lib.hid (fun W => refSince_any W p n)

  obtain ⟨l, b, s⟩ := p
  obtain ⟨l2, b2, s2⟩ := q
  unfold ptrV at *
  simp only at *
  generalize goodB ⟨l, b, s⟩ = g at *
  generalize lessB ⟨l, b, s⟩ ⟨l2, b2, s2⟩ = le at *
  generalize sinceB ⟨l, b, s⟩ n = si at *
  have eg : (g == g) = true := by simp
  have el : (le == le) = true := by simp
  have es : (si == si) = true := by simp
  obtain ⟨w1, hw1⟩ : ∃ w1, w1 = (w.alloc (.cells #[.int .i64 l, .int .u64 b, .int .u32 s] 26)).alloc (.cells #[.int .i64 l2, .int .u64 b2, .int .u32 s2] 26) := ⟨_, rfl⟩
  have up1 : Up w w1 := by rw [hw1]; exact (up_alloc _ _).alloc _
  have a0 : w1.cell? ⟨w.heap.size, 0, none⟩ = some (.int .i64 l) := by rw [hw1]; exact (up_alloc _ _).cell (cell_new w _ _ _ 0 _ rfl)
  have a1 : w1.cell? ⟨w.heap.size, 1, none⟩ = some (.int .u64 b) := by rw [hw1]; exact (up_alloc _ _).cell (cell_new w _ _ _ 1 _ rfl)
  have a2 : w1.cell? ⟨w.heap.size, 2, none⟩ = some (.int .u32 s) := by rw [hw1]; exact (up_alloc _ _).cell (cell_new w _ _ _ 2 _ rfl)
  have b0 : w1.cell? ⟨w.heap.size + 1, 0, none⟩ = some (.int .i64 l2) := by rw [hw1, ← World.size_alloc]; exact cell_new _ _ _ _ 0 _ rfl
  have b1 : w1.cell? ⟨w.heap.size + 1, 1, none⟩ = some (.int .u64 b2) := by rw [hw1, ← World.size_alloc]; exact cell_new _ _ _ _ 1 _ rfl
  have b2' : w1.cell? ⟨w.heap.size + 1, 2, none⟩ = some (.int .u32 s2) := by rw [hw1, ← World.size_alloc]; exact cell_new _ _ _ _ 2 _ rfl
  go_enter Try.func7, Try.ntmps7
  go_wp2_with fail
  rw [← hw1]
  clear hw1
  go_region_held3 (fun w' => Up w1 w' ∧ (w'.cell? ⟨w.heap.size, 0, none⟩ = some (.int .i64 l) ∧ w'.cell? ⟨w.heap.size, 1, none⟩ = some (.int .u64 b) ∧ w'.cell? ⟨w.heap.size, 2, none⟩ = some (.int .u32 s)) ∧
      w'.cell? ⟨w.heap.size + 1, 0, none⟩ = some (.int .i64 l2) ∧ w'.cell? ⟨w.heap.size + 1, 1, none⟩ = some (.int .u64 b2) ∧ w'.cell? ⟨w.heap.size + 1, 2, none⟩ = some (.int .u32 s2))
    ((refine keep6 a0 a1 a2 b0 b1 b2' ?_
      first
        | (refine Up.trans ?_ upc
           first
             | exact Up.refl _
             | exact (Up.refl _).drew
             | assumption
             | exact And.left (by assumption))
        | (exact (Up.refl _).drew)))
    ((first
      | (go_at_call 9; refine (alive_any _).mono ?_; rintro e wn ⟨rfl, upc⟩)
      | (go_at_call 14; refine (R1.out _).mono ?_; rintro e wn ⟨rfl, upc⟩)
      | (go_at_call 15; refine (R2.out _).mono ?_; rintro e wn ⟨rfl, upc⟩)
      | (go_at_call 16; refine (L1.out _).mono ?_; rintro e wn ⟨rfl, upc⟩)
      | (go_at_call 17; refine (L2.out _).mono ?_; rintro e wn ⟨rfl, upc⟩)
      | (go_at_call 18; refine (S1.out _).mono ?_; rintro e wn ⟨rfl, upc⟩)
      | (go_at_call 19; refine (S2.out _).mono ?_; rintro e wn ⟨rfl, upc⟩)))
  all_goals
    have hfin : Up w1 _ := And.left (by assumption)
    go_wp2_with fail
    go_ret
    exact ⟨rfl, up1.trans hfin⟩
end Go.Proofs.Ytbhondhbonmilaa
