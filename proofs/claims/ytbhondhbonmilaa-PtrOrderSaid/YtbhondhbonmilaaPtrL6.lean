/- PtrOrder. -/
import Derived.Test.YtbhondhbonmilaaPtrL2
import Derived.Lib.QuietBelow
set_option linter.unusedSimpArgs false
namespace Go.Proofs.Ytbhondhbonmilaa
open Go.RowKit Go.Sort

structure LessFits (x y : Value) (b : Bool) : Prop where
  fit : ∀ W, Calls Try.prog 16 #[x, y] W fun e w' => BoolUp b W e w'
theorem less_fits (W : World) (x y : Value) (b : Bool) (h : LessFits x y b) : Calls Try.prog 16 #[x, y] W fun e w' => BoolUp b W e w' := h.fit W

theorem keep9 {w1 w' : World} {a b c d e f g h i : Addr} {x y z r s t u v m : Value} (h0 : w1.cell? a = some x) (h1 : w1.cell? b = some y) (h2 : w1.cell? c = some z) (h3 : w1.cell? d = some r) (h4 : w1.cell? e = some s) (h5 : w1.cell? f = some t)
    (h6 : w1.cell? g = some u) (h7 : w1.cell? h = some v) (h8 : w1.cell? i = some m) (hh : Up w1 w') :
    Up w1 w' ∧ (w'.cell? a = some x ∧ w'.cell? b = some y ∧ w'.cell? c = some z) ∧ (w'.cell? d = some r ∧ w'.cell? e = some s ∧ w'.cell? f = some t) ∧ w'.cell? g = some u ∧ w'.cell? h = some v ∧ w'.cell? i = some m :=
  ⟨hh, ⟨hh.cell h0, hh.cell h1, hh.cell h2⟩, ⟨hh.cell h3, hh.cell h4, hh.cell h5⟩, hh.cell h6, hh.cell h7, hh.cell h8⟩

/-- Of two unlike pointers just one stands ahead. -/
theorem tri (l l2 : Int) (b s b2 s2 : Nat) :
    (lessB ⟨l, b, s⟩ ⟨l2, b2, s2⟩ = false ∧ lessB ⟨l2, b2, s2⟩ ⟨l, b, s⟩ = false ∧ l = l2 ∧ b = b2 ∧ s = s2) ∨
    (((lessB ⟨l, b, s⟩ ⟨l2, b2, s2⟩ = true ∧ lessB ⟨l2, b2, s2⟩ ⟨l, b, s⟩ = false) ∨ (lessB ⟨l, b, s⟩ ⟨l2, b2, s2⟩ = false ∧ lessB ⟨l2, b2, s2⟩ ⟨l, b, s⟩ = true)) ∧ ¬ (l = l2 ∧ b = b2 ∧ s = s2)) := by
  simp only [← Bool.not_eq_true, lessB_iff]
  omega
theorem less_less (l l2 l3 : Int) (b s b2 s2 b3 s3 : Nat) (h : lessB ⟨l, b, s⟩ ⟨l2, b2, s2⟩ = true) (h2 : lessB ⟨l2, b2, s2⟩ ⟨l3, b3, s3⟩ = true) : lessB ⟨l, b, s⟩ ⟨l3, b3, s3⟩ = true := by
  rw [lessB_iff] at *
  omega
theorem since_less (l l3 : Int) (b s b3 s3 : Nat) (h : sinceB ⟨l, b, s⟩ b3 = true) : lessB ⟨l3, b3, s3⟩ ⟨l, b, s⟩ = true := by
  rw [sinceB_iff] at h
  rw [lessB_iff]
  omega

set_option maxHeartbeats 40000000 in
theorem ptrOrder_walk (w : World) (p : PtrD) (_hp : p.wf) (q : PtrD) (_hq : q.wf) (r : PtrD) (_hr : r.wf) :
    Calls Try.prog 8 #[ptrV p, ptrV q, ptrV r] w fun e w' => e = .returned (.bool true) ∧ Up w w' := by
  have F1 : LessFits (ptrV p) (ptrV q) (lessB p q) := ⟨fun W => less_any W p q⟩
  have F2 : LessFits (ptrV q) (ptrV p) (lessB q p) := ⟨fun W => less_any W q p⟩
  have F3 : LessFits (ptrV q) (ptrV r) (lessB q r) := ⟨fun W => less_any W q r⟩
  have F4 : LessFits (ptrV p) (ptrV r) (lessB p r) := ⟨fun W => less_any W p r⟩
  have F5 : LessFits (ptrV r) (ptrV p) (lessB r p) := ⟨fun W => less_any W r p⟩
  have S := Lib.hid (fun W => since_any W p r.birth)
  obtain ⟨l, b, s⟩ := p
  obtain ⟨l2, b2, s2⟩ := q
  obtain ⟨l3, b3, s3⟩ := r
  unfold ptrV at *
  simp only at *
  have H1 := Lib.hid (tri l l2 b s b2 s2)
  have H2 := Lib.hid (less_less l l2 l3 b s b2 s2 b3 s3)
  have H3 := Lib.hid (since_less l l3 b s b3 s3)
  generalize lessB ⟨l, b, s⟩ ⟨l2, b2, s2⟩ = c1 at *
  generalize lessB ⟨l2, b2, s2⟩ ⟨l, b, s⟩ = c2 at *
  generalize lessB ⟨l2, b2, s2⟩ ⟨l3, b3, s3⟩ = c3 at *
  generalize lessB ⟨l, b, s⟩ ⟨l3, b3, s3⟩ = c4 at *
  generalize lessB ⟨l3, b3, s3⟩ ⟨l, b, s⟩ = c5 at *
  generalize sinceB ⟨l, b, s⟩ b3 = c6 at *
  have G1 := Lib.hid F1
  have G2 := Lib.hid F2
  have G3 := Lib.hid F3
  have G4 := Lib.hid F4
  have G5 := Lib.hid F5
  clear F1 F2 F3 F4 F5
  obtain ⟨w0, hw0⟩ : ∃ w0, w0 = ((w.alloc (.cells #[.int .i64 l, .int .u64 b, .int .u32 s] 26)).alloc (.cells #[.int .i64 l2, .int .u64 b2, .int .u32 s2] 26)).alloc (.cells #[.int .i64 l3, .int .u64 b3, .int .u32 s3] 26) := ⟨_, rfl⟩
  have up0 : Up w w0 := by rw [hw0]; exact ((up_alloc _ _).alloc _).alloc _
  have a0 : w0.cell? ⟨w.heap.size, 0, none⟩ = some (.int .i64 l) := by rw [hw0]; exact ((up_alloc _ _).alloc _).cell (cell_new w _ _ _ 0 _ rfl)
  have a1 : w0.cell? ⟨w.heap.size, 1, none⟩ = some (.int .u64 b) := by rw [hw0]; exact ((up_alloc _ _).alloc _).cell (cell_new w _ _ _ 1 _ rfl)
  have a2 : w0.cell? ⟨w.heap.size, 2, none⟩ = some (.int .u32 s) := by rw [hw0]; exact ((up_alloc _ _).alloc _).cell (cell_new w _ _ _ 2 _ rfl)
  have b0 : w0.cell? ⟨w.heap.size + 1, 0, none⟩ = some (.int .i64 l2) := by rw [hw0, ← World.size_alloc]; exact (up_alloc _ _).cell (cell_new _ _ _ _ 0 _ rfl)
  have b1 : w0.cell? ⟨w.heap.size + 1, 1, none⟩ = some (.int .u64 b2) := by rw [hw0, ← World.size_alloc]; exact (up_alloc _ _).cell (cell_new _ _ _ _ 1 _ rfl)
  have b2' : w0.cell? ⟨w.heap.size + 1, 2, none⟩ = some (.int .u32 s2) := by rw [hw0, ← World.size_alloc]; exact (up_alloc _ _).cell (cell_new _ _ _ _ 2 _ rfl)
  have d0 : w0.cell? ⟨w.heap.size + 1 + 1, 0, none⟩ = some (.int .i64 l3) := by rw [hw0, ← World.size_alloc, ← World.size_alloc]; exact cell_new _ _ _ _ 0 _ rfl
  have d1 : w0.cell? ⟨w.heap.size + 1 + 1, 1, none⟩ = some (.int .u64 b3) := by rw [hw0, ← World.size_alloc, ← World.size_alloc]; exact cell_new _ _ _ _ 1 _ rfl
  have d2 : w0.cell? ⟨w.heap.size + 1 + 1, 2, none⟩ = some (.int .u32 s3) := by rw [hw0, ← World.size_alloc, ← World.size_alloc]; exact cell_new _ _ _ _ 2 _ rfl
  go_enter Try.func8, Try.ntmps8
  go_wp2_with fail
  rw [← hw0]
  refine (alive_any _).mono ?_
  rintro e w1 ⟨rfl, up1⟩
  have a0 := up1.cell a0
  have a1 := up1.cell a1
  have a2 := up1.cell a2
  have b0 := up1.cell b0
  have b1 := up1.cell b1
  have b2' := up1.cell b2'
  have d0 := up1.cell d0
  have d1 := up1.cell d1
  have d2 := up1.cell d2
  have upw := up0.trans up1
  clear up0 up1 hw0
  have Upw := Lib.hid upw
  clear upw
  go_wp2_with fail
  have Q : ((c1 = false ∧ c2 = false ∧ l = l2 ∧ b = b2 ∧ s = s2) ∨ (c1 = true ∧ c2 = false ∧ ¬ (l = l2 ∧ b = b2 ∧ s = s2)) ∨ (c1 = false ∧ c2 = true ∧ ¬ (l = l2 ∧ b = b2 ∧ s = s2))) := by
    rcases H1.out with h | ⟨h | h, h2⟩
    · exact .inl h
    · exact .inr (.inl ⟨h.1, h.2, h2⟩)
    · exact .inr (.inr ⟨h.1, h.2, h2⟩)
  clear H1
  have K0 := Lib.hid (fun d os => (⟨cell_regrown a0 d os, cell_regrown a1 d os, cell_regrown a2 d os, cell_regrown b0 d os, cell_regrown b1 d os, cell_regrown b2' d os⟩ : _ ∧ _ ∧ _ ∧ _ ∧ _ ∧ _))
  have x0 := fun d os => (K0.out d os).1
  have x1 := fun d os => (K0.out d os).2.1
  have x2 := fun d os => (K0.out d os).2.2.1
  have x3 := fun d os => (K0.out d os).2.2.2.1
  have x4 := fun d os => (K0.out d os).2.2.2.2.1
  have x5 := fun d os => (K0.out d os).2.2.2.2.2
  have Q2 : (c1 = false ∧ c2 = false ∧ (l == l2) = true ∧ ((b : Int) == (b2 : Int)) = true ∧ ((s : Int) == (s2 : Int)) = true) ∨
      (c1 = true ∧ c2 = false ∧ (l == l2) = false ∧ True ∧ True) ∨ (c1 = true ∧ c2 = false ∧ (l == l2) = true ∧ ((b : Int) == (b2 : Int)) = false ∧ True) ∨ (c1 = true ∧ c2 = false ∧ (l == l2) = true ∧ ((b : Int) == (b2 : Int)) = true ∧ ((s : Int) == (s2 : Int)) = false) ∨
      (c1 = false ∧ c2 = true ∧ (l == l2) = false ∧ True ∧ True) ∨ (c1 = false ∧ c2 = true ∧ (l == l2) = true ∧ ((b : Int) == (b2 : Int)) = false ∧ True) ∨ (c1 = false ∧ c2 = true ∧ (l == l2) = true ∧ ((b : Int) == (b2 : Int)) = true ∧ ((s : Int) == (s2 : Int)) = false) := by
    simp only [beq_iff_eq, beq_eq_false_iff_ne, Int.ofNat_inj, and_true, ne_eq]
    by_cases h1 : l = l2 <;> by_cases h2 : b = b2 <;> by_cases h3 : s = s2 <;> simp [h1, h2, h3] at Q ⊢ <;> exact Q
  clear Q
  rcases Q2 with ⟨rfl, rfl, n1, n2, n3⟩ | ⟨rfl, rfl, n1, n2, n3⟩ | ⟨rfl, rfl, n1, n2, n3⟩ | ⟨rfl, rfl, n1, n2, n3⟩ | ⟨rfl, rfl, n1, n2, n3⟩ | ⟨rfl, rfl, n1, n2, n3⟩ | ⟨rfl, rfl, n1, n2, n3⟩
  all_goals
    refine wp_region_quiet_below (by kernel_rfl) (by kernel_rfl) ?_
    repeat (quiet_step ((go_at_call 16; exact Calls.regrown_of (less_fits _ _ _ _ (by first | exact G1.out | exact G2.out)))))
    refine wpQuiet_nil ?_
    intro w2 hw'
    obtain ⟨⟨d, os⟩, hw2⟩ := hw'
    have up2 : Up w1 w2 := by rw [hw2]; exact below_regrown _ _ _
    clear hw2 K0 x0 x1 x2 x3 x4 x5
    have upw2 := Lib.hid (Upw.out.trans up2)
    have a0 := up2.cell a0
    have a1 := up2.cell a1
    have a2 := up2.cell a2
    have b0 := up2.cell b0
    have b1 := up2.cell b1
    have b2' := up2.cell b2'
    have d0 := up2.cell d0
    have d1 := up2.cell d1
    have d2 := up2.cell d2
    clear up2 Upw
    go_wp2_with fail
    refine (less_fits _ _ _ _ G1.out).mono ?_
    rintro e w3 ⟨rfl, up3⟩
    have upw3 := Lib.hid (upw2.out.trans up3)
    have a0 := up3.cell a0
    have a1 := up3.cell a1
    have a2 := up3.cell a2
    have b0 := up3.cell b0
    have b1 := up3.cell b1
    have b2' := up3.cell b2'
    have d0 := up3.cell d0
    have d1 := up3.cell d1
    have d2 := up3.cell d2
    clear up3 upw2 G1 G2
    go_wp2_with fail
  rotate_left 1
  iterate 3
    · refine (less_fits _ _ _ _ G3.out).mono ?_
      rintro e w4 ⟨rfl, up4⟩
      have upw4 := Lib.hid (upw3.out.trans up4)
      have a0 := up4.cell a0
      have a1 := up4.cell a1
      have a2 := up4.cell a2
      have b0 := up4.cell b0
      have b1 := up4.cell b1
      have b2' := up4.cell b2'
      have d0 := up4.cell d0
      have d1 := up4.cell d1
      have d2 := up4.cell d2
      clear up4 upw3
      cases c3
      · go_wp2_with fail
        refine (S.out _).mono ?_
        rintro e w5 ⟨rfl, up5⟩
        have upw5 := Lib.hid (upw4.out.trans up5)
        have a0 := up5.cell a0
        have a1 := up5.cell a1
        have a2 := up5.cell a2
        have b0 := up5.cell b0
        have b1 := up5.cell b1
        have b2' := up5.cell b2'
        have d0 := up5.cell d0
        have d1 := up5.cell d1
        have d2 := up5.cell d2
        clear up5 upw4
        cases c6
        · go_wp2_with fail
          go_ret
          exact ⟨rfl, upw5.out⟩
        · obtain rfl := H3.out rfl
          go_wp2_with fail
          refine (less_fits _ _ _ _ G5.out).mono ?_
          rintro e w6 ⟨rfl, up6⟩
          go_wp2_with fail
          go_ret
          exact ⟨rfl, upw5.out.trans up6⟩
      · obtain rfl : c4 = true := by simpa using H2.out
        go_wp2_with fail
        refine (less_fits _ _ _ _ G4.out).mono ?_
        rintro e w4b ⟨rfl, up4b⟩
        have upw4 := Lib.hid (upw4.out.trans up4b)
        have a0 := up4b.cell a0
        have a1 := up4b.cell a1
        have a2 := up4b.cell a2
        have b0 := up4b.cell b0
        have b1 := up4b.cell b1
        have b2' := up4b.cell b2'
        have d0 := up4b.cell d0
        have d1 := up4b.cell d1
        have d2 := up4b.cell d2
        clear up4b
        go_wp2_with fail
        refine (S.out _).mono ?_
        rintro e w5 ⟨rfl, up5⟩
        have upw5 := Lib.hid (upw4.out.trans up5)
        have a0 := up5.cell a0
        have a1 := up5.cell a1
        have a2 := up5.cell a2
        have b0 := up5.cell b0
        have b1 := up5.cell b1
        have b2' := up5.cell b2'
        have d0 := up5.cell d0
        have d1 := up5.cell d1
        have d2 := up5.cell d2
        clear up5 upw4
        cases c6
        · go_wp2_with fail
          go_ret
          exact ⟨rfl, upw5.out⟩
        · obtain rfl := H3.out rfl
          go_wp2_with fail
          refine (less_fits _ _ _ _ G5.out).mono ?_
          rintro e w6 ⟨rfl, up6⟩
          go_wp2_with fail
          go_ret
          exact ⟨rfl, upw5.out.trans up6⟩
  all_goals
    refine (S.out _).mono ?_
    rintro e w5 ⟨rfl, up5⟩
    have upw5 := Lib.hid (upw3.out.trans up5)
    have a0 := up5.cell a0
    have a1 := up5.cell a1
    have a2 := up5.cell a2
    have b0 := up5.cell b0
    have b1 := up5.cell b1
    have b2' := up5.cell b2'
    have d0 := up5.cell d0
    have d1 := up5.cell d1
    have d2 := up5.cell d2
    clear up5 upw3
    cases c6
    · go_wp2_with fail
      go_ret
      exact ⟨rfl, upw5.out⟩
    · obtain rfl := H3.out rfl
      go_wp2_with fail
      refine (less_fits _ _ _ _ G5.out).mono ?_
      rintro e w6 ⟨rfl, up6⟩
      go_wp2_with fail
      go_ret
      exact ⟨rfl, upw5.out.trans up6⟩
end Go.Proofs.Ytbhondhbonmilaa
