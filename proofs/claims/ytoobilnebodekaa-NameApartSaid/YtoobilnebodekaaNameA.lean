/- NameApart. -/
import Derived.Test.YtoobilnebodekaaNameM
import Derived.OpenShut
import Derived.Lib.QuietBelow
import Derived.ChangeKeysEq
set_option linter.unusedSimpArgs false
namespace Go.Proofs.Ytoobilnebodekaa
open Go.RowKit Go.Sort

def str2V (p : List UInt8 × List UInt8) : Value := .agg #[.string (strOf p.1), .string (strOf p.2)]
theorem cells_str1 : Try.prog.cellsOf 9 = 1 := by kernel_rfl
theorem cells_str2 : Try.prog.cellsOf 32 = 2 := by kernel_rfl

theorem open_str2 {H : Type} {enc : TypeId × Value → H} {W : World} {base : Nat} {v : Value} {d : DataW H} {ps : List MemPlace}
    (hval : Value.okWide Try.prog W .any base 32 v) (hd : DataW.Trod enc Try.prog W 0 (fun _ => true) true 32 v d ps) : ∃ p : List UInt8 × List UInt8, v = str2V p ∧ True := by
  simp only [Value.okWide, Try.underlying32] at hval
  obtain ⟨cs, rfl, _⟩ := hval
  obtain ⟨fuel, hf⟩ := hd
  obtain ⟨xs, n, _, _, hl, hlen, hg⟩ := DataW.trod_array Try.underlying32 hf
  rw [cells_str2] at hl
  obtain ⟨l, hcs⟩ : ∃ l, l = (Value.agg cs).cells.toList := ⟨_, rfl⟩
  rw [← hcs] at hl hg
  have hcs' : l = cs.toList := by rw [hcs]; rfl
  match l, hl with
  | [c0, c1], _ =>
  match xs, hlen with
  | [y0, y1], _ =>
  have g0 := hg 0 (by omega)
  have g1 := hg 1 (by omega)
  simp [cells_str1] at g0 g1
  obtain ⟨s0, h0, _, _⟩ := DataW.trod_string Try.underlying9 g0
  obtain ⟨s1, h1, _, _⟩ := DataW.trod_string Try.underlying9 g1
  simp at h0 h1
  subst h0 h1
  refine ⟨(s0.data.toList, s1.data.toList), ?_, trivial⟩
  unfold str2V
  rw [show cs = cs.toList.toArray from rfl, ← hcs']
  obtain ⟨⟨l0⟩⟩ := s0
  obtain ⟨⟨l1⟩⟩ := s1
  rfl

theorem full_inj {a b c d : List UInt8} (h : fullO a b ≠ []) (h2 : fullO c d ≠ []) : fullO a b = fullO c d ↔ (a = c ∧ b = d) := by
  constructor
  · intro e
    have h3 := full_split h
    rw [e, full_split h2] at h3
    simp only [Option.some.injEq, Prod.mk.injEq] at h3
    exact ⟨h3.1.symm, h3.2.symm⟩
  · rintro ⟨rfl, rfl⟩; rfl
theorem full_right {a b : List UInt8} (h : fullO a b ≠ []) : nameB (fullO a b) = decide (b = []) := by
  unfold fullO at *
  split at h
  · rename_i ha
    rw [if_pos ha]
    split at h
    · rename_i hb
      rw [if_pos hb, ha]; simp [hb]
    · rename_i hb
      rw [if_neg hb]
      split at h
      · rename_i hb2
        rw [if_pos hb2]
        simp only [hb, decide_false]
        rw [← Bool.not_eq_true]
        intro hn
        exact name_no_at hn a.length (by simp)
      · exact absurd rfl h
  · exact absurd rfl h

structure FullFits (x y z : ByteArray) : Prop where
  fit : ∀ W, Calls Try.prog 14 #[.string x, .string y] W fun e w' => e = .returned (.string z) ∧ Up W w'
theorem full_fits (W : World) (x y z : ByteArray) (h : FullFits x y z) : Calls Try.prog 14 #[.string x, .string y] W fun e w' => e = .returned (.string z) ∧ Up W w' := h.fit W

theorem cell_newA (w : World) (cs : Array Value) (t : TypeId) (fr : Nat × Nat) (i : Nat) (v : Value) (h : cs[i]? = some v) : (w.alloc (.cells cs t fr)).cell? ⟨w.heap.size, i, none⟩ = some v := by
  have hh : (w.alloc (.cells cs t fr)).heap[w.heap.size]? = some (.cells cs t fr) := by
    show (w.heap.push _)[w.heap.size]? = _
    simp
  unfold World.cell?
  rw [hh]
  exact h

theorem str2_eq (s0 s1 t0 t1 : ByteArray) (W : World) : (Op.equalIn 10000 32 (.agg #[.string s0, .string s1]) (.agg #[.string t0, .string t1])).run Try.prog W = .ok ((s0.toList == t0.toList) && (s1.toList == t1.toList)) W := by
  obtain ⟨i, hi⟩ : ∃ i, Try.prog.info? 9 = some i := Option.isSome_iff_exists.1 (by kernel_rfl)
  rw [run_equalIn_array W 9999 _ _ Try.underlying32 hi, cells_str1]
  have hr : List.range 2 = [0, 1] := rfl
  rw [hr]
  clear hr hi
  unfold Op.eqItems Op.eqItems Op.eqItems
  cases h : (s0.toList == t0.toList) <;> cases h2 : (s1.toList == t1.toList)
  all_goals go_simp

set_option maxHeartbeats 4000000 in
theorem nameApart_walk (w : World) (p : List UInt8 × List UInt8) (_hp : True) (q : List UInt8 × List UInt8) (_hq : True) :
    Calls Try.prog 7 #[str2V p, str2V q] w fun e w' => e = .returned (.bool true) ∧ Up w w' := by
  obtain ⟨a, b⟩ := p
  obtain ⟨c, d⟩ := q
  have F1 : FullFits (strOf a) (strOf b) (strOf (fullO a b)) := ⟨fun W => full_any W a b⟩
  have F2 : FullFits (strOf c) (strOf d) (strOf (fullO c d)) := ⟨fun W => full_any W c d⟩
  have R : ∀ W, Calls Try.prog 12 #[.string (strOf (fullO a b))] W fun e w' => e = .returned (.bool (nameB (fullO a b))) ∧ Up W w' := fun W => right_any W (fullO a b)
  have t1 := eq_nil_test (fullO a b)
  have t2 := eq_nil_test (fullO c d)
  have t3 := eq_nil_test b
  have E : ∀ W, (Op.equalIn 10000 32 (.agg #[.string (strOf a), .string (strOf b)]) (.agg #[.string (strOf c), .string (strOf d)])).run Try.prog W = .ok (decide (a = c ∧ b = d)) W := by
    intro W
    rw [str2_eq]
    rw [ByteArray.toList_eq, ByteArray.toList_eq, ByteArray.toList_eq, ByteArray.toList_eq, strOf_data, strOf_data, strOf_data, strOf_data]
    congr 1
    rw [Bool.eq_iff_iff]
    simp
  have t4 : fullO a b ≠ [] → fullO c d ≠ [] → ((strOf (fullO a b)).toList == (strOf (fullO c d)).toList) = decide (a = c ∧ b = d) := by
    intro h1 h2
    rw [ByteArray.toList_eq, ByteArray.toList_eq, strOf_data, strOf_data, Bool.eq_iff_iff]
    simp only [beq_iff_eq, decide_eq_true_eq]
    exact full_inj h1 h2
  have hr : fullO a b ≠ [] → nameB (fullO a b) = decide (b = []) := fun h => full_right h
  unfold str2V
  simp only
  generalize strOf (fullO a b) = X at *
  generalize strOf (fullO c d) = Y at *
  generalize strOf a = A at *
  generalize strOf b = B at *
  generalize strOf c = C at *
  generalize strOf d = D at *
  have G1 := Lib.hid F1
  have G2 := Lib.hid F2
  have HR := Lib.hid R
  clear F1 F2 R
  obtain ⟨w0, hw0⟩ : ∃ w0, w0 = (w.alloc (.cells #[.string A, .string B] 32)).alloc (.cells #[.string C, .string D] 32) := ⟨_, rfl⟩
  have up0 : Up w w0 := by rw [hw0]; exact (up_alloc _ _).alloc _
  have a0 : w0.cell? ⟨w.heap.size, 0, none⟩ = some (.string A) := by rw [hw0]; exact (up_alloc _ _).cell (cell_newA w _ _ _ 0 _ rfl)
  have a1 : w0.cell? ⟨w.heap.size, 1, none⟩ = some (.string B) := by rw [hw0]; exact (up_alloc _ _).cell (cell_newA w _ _ _ 1 _ rfl)
  have b0 : w0.cell? ⟨w.heap.size + 1, 0, none⟩ = some (.string C) := by rw [hw0, ← World.size_alloc]; exact cell_newA _ _ _ _ 0 _ rfl
  have b1 : w0.cell? ⟨w.heap.size + 1, 1, none⟩ = some (.string D) := by rw [hw0, ← World.size_alloc]; exact cell_newA _ _ _ _ 1 _ rfl
  have Q : ((X.toList == []) = true) ∨ ((X.toList == []) = false ∧ (Y.toList == []) = true) ∨ ((X.toList == []) = false ∧ (Y.toList == []) = false ∧ (X.toList == Y.toList) = decide (a = c ∧ b = d) ∧ nameB (fullO a b) = decide (b = [])) := by
    by_cases h1 : fullO a b = []
    · exact .inl (by rw [t1]; simpa using h1)
    · have e1 : (X.toList == []) = false := by rw [t1]; simpa using h1
      by_cases h2 : fullO c d = []
      · exact .inr (.inl ⟨e1, by rw [t2]; simpa using h2⟩)
      · exact .inr (.inr ⟨e1, by rw [t2]; simpa using h2, t4 h1 h2, hr h1⟩)
  clear t1 t2 t4 hr
  generalize nameB (fullO a b) = nb at *
  generalize decide (a = c ∧ b = d) = eqb at *
  generalize decide (b = []) = eb at *
  have QQ := Lib.hid Q
  have T3 := Lib.hid t3
  have EE := Lib.hid E
  clear Q t3 E
  go_enter Try.func7, Try.ntmps7
  go_wp2_with fail
  rw [← hw0]
  clear hw0
  refine (alive_any _).mono ?_
  rintro e w1 ⟨rfl, up1⟩
  have upw := Lib.hid (up0.trans up1)
  have a0 := up1.cell a0
  have a1 := up1.cell a1
  have b0 := up1.cell b0
  have b1 := up1.cell b1
  clear up0 up1
  go_wp2_with fail
  have x0 := cell_regrown a0
  have x1 := cell_regrown a1
  have x2 := cell_regrown b0
  have x3 := cell_regrown b1
  refine wp_region_quiet_below (by kernel_rfl) (by kernel_rfl) ?_
  repeat (quiet_step ((go_at_call 14; exact Calls.regrown_of (full_fits _ _ _ _ (by first | exact G1.out | exact G2.out)))))
  refine wpQuiet_nil ?_
  intro w2 hw'
  obtain ⟨⟨dd, os⟩, hw2⟩ := hw'
  have up2 : Up w1 w2 := by rw [hw2]; exact below_regrown _ _ _
  clear hw2 x0 x1 x2 x3 G1 G2
  have upw2 := Lib.hid (upw.out.trans up2)
  have a0 := up2.cell a0
  have a1 := up2.cell a1
  have b0 := up2.cell b0
  have b1 := up2.cell b1
  clear up2 upw
  rcases QQ.out with h1 | ⟨h1, h2⟩ | ⟨h1, h2, h3, h4⟩
  · go_wp2_with fail
    go_ret
    exact ⟨rfl, upw2.out⟩
  · go_wp2_with fail
    go_ret
    exact ⟨rfl, upw2.out⟩
  · subst h4
    have t3 := T3.out
    have E := EE.out
    clear T3 EE QQ
    have e1 : (eqb == eqb) = true := by simp
    have e2 : (nb == nb) = true := by simp
    go_wp2_with fail
    have x0 := cell_regrown a0
    have x1 := cell_regrown a1
    have x2 := cell_regrown b0
    have x3 := cell_regrown b1
    refine wp_region_quiet_below (by kernel_rfl) (by kernel_rfl) ?_
    repeat (quiet_step ((go_at_call 12; exact Calls.regrown_of (HR.out _))))
    refine wpQuiet_nil ?_
    intro w3 hw'
    obtain ⟨⟨d3, os3⟩, hw3⟩ := hw'
    have up3 : Up w2 w3 := by rw [hw3]; exact below_regrown _ _ _
    clear hw3
    go_wp2_with fail
    go_ret
    exact ⟨rfl, upw2.out.trans up3⟩
end Go.Proofs.Ytoobilnebodekaa
