/- deadAlive; DeadNames; DeadCuts. -/
import Derived.Test.YthdheddfimeigaaDeadC
import Derived.Test.YthdheddfimeigaaRowO
set_option linter.unusedSimpArgs false
namespace Go.Proofs.Ythdheddfimeigaa
open Go.RowKit Go.Sort

def exL : List PtrD := [⟨9, 1, 0⟩, ⟨4, 5, 0⟩]
def exQ : PtrD := ⟨5, 2, 0⟩
def exM : List PtrD := [⟨9, 1, 0⟩, ⟨5, 2, 0⟩, ⟨4, 5, 0⟩]
theorem exL_right : rightB exL = true := by decide
theorem exM_right : rightB exM = true := by decide
theorem ex_add : addO exL exQ = some exM := by decide
theorem ex_old : oldL 2 exM = [⟨9, 1, 0⟩, ⟨5, 2, 0⟩] := by decide
theorem ex_young : youngL 2 exM = [⟨4, 5, 0⟩] := by decide
theorem exL_lit (w : World) : IsPtrs (w.alloc (.cells #[.int .i64 9, .int .u64 1, .int .u32 0, .int .i64 4, .int .u64 5, .int .u32 0] 29)) (.slice (some ⟨w.heap.size, 0, none⟩) 2 2) exL :=
  IsRow.litAt w _ rfl _ _ _ _ _ rfl (by unfold maxLen; omega) rfl

set_option maxHeartbeats 2000000 in
theorem alive_any (w : World) : Calls Try.prog 11 #[] w fun e w' => e = .returned (.bool true) ∧ Up w w' := by
  have AD := Lib.hid (show ∀ W v, IsPtrs W v exL → Calls Try.prog 10 #[v, .agg #[.int .i64 5, .int .u64 2, .int .u32 0]] W fun e w' => AddPost (some exM) W e w' from fun W v h => by
    have := add_any W v exL h (right_sorted exL_right) exQ (by decide)
    rw [ex_add] at this
    exact this)
  go_enter Try.func11, Try.ntmps11
  go_wp2_with fail
  refine (AD.out _ _ (exL_lit w)).mono ?_
  rintro e w1 ⟨u, rfl, ho1, up1⟩
  have up01 := (up_alloc _ _).trans up1
  have h1 := OwnRow.row ho1 pw
  obtain ⟨a1, c1, rfl⟩ := h1.slice
  have SP := Lib.hid (fun W (up : Up w1 W) => split_any W _ exM (IsRow.up h1 up) 2 (by decide))
  have RT := Lib.hid (fun W (up : Up w1 W) => lright_any W _ exM (IsRow.up h1 up))
  rw [exM_right] at RT
  rw [ex_old, ex_young] at SP
  have hlen : exM.length = 3 := rfl
  rw [hlen] at SP RT ⊢
  clear h1 ho1 hlen
  go_wp2_with fail
  refine (SP.out _ (Up.refl _)).mono ?_
  rintro e w2 ⟨u1, u2, rfl, ho2, ho3, up2⟩
  have h2 := OwnRow.row ho2 pw
  have h3 := OwnRow.row ho3 pw
  obtain ⟨a2, c2, rfl⟩ := h2.slice
  obtain ⟨a3, c3, rfl⟩ := h3.slice
  obtain ⟨b, off, rfl, _, _, hc⟩ := ptrs_at h3 (by decide)
  have g0 := (hc 0 (by decide)).1
  simp only [Nat.zero_mul, Nat.add_zero, List.getElem_cons_zero] at g0
  have l2 : ([⟨9, 1, 0⟩, ⟨5, 2, 0⟩] : List PtrD).length = 2 := rfl
  have l3 : ([⟨4, 5, 0⟩] : List PtrD).length = 1 := rfl
  rw [l2, l3]
  clear l2 l3 h2 h3 ho2 ho3 hc
  go_wp2_with fail
  refine (RT.out _ up2).mono ?_
  rintro e w3 ⟨rfl, up3⟩
  go_wp2_with fail
  go_ret
  exact ⟨rfl, up01.trans (up2.trans up3)⟩

theorem add_nil (w : World) : Calls Try.prog 10 #[.slice none 0 0, .agg #[.int .i64 0, .int .u64 0, .int .u32 0]] w fun e w' => e = .returned (.tuple #[.slice none 0 0, .int .i64 131]) ∧ Up w w' := by
  have h := add_any w (.slice none 0 0) [] (IsRow.nil _ _) (fun i j hj => by simp at hj) ⟨0, 0, 0⟩ (by decide)
  rw [show addO [] ⟨0, 0, 0⟩ = none from by decide] at h
  exact h

theorem deadNames_walk (w : World) : Calls Try.prog 3 #[] w fun e w' => e = .returned (.bool true) ∧ Up w w' := by
  have RT := Lib.hid (fun W => lright_any W (.slice none 0 0) [] (IsRow.nil _ W))
  rw [show rightB [] = true from by decide] at RT
  have BI := Lib.hid (fun W => births_any W (.slice none 0 0) [] (IsRow.nil _ W) (by decide))
  rw [show birthsL [] = [] from rfl] at BI
  go_enter Try.func3, Try.ntmps3
  go_wp2_with fail
  refine (add_nil _).mono ?_
  rintro e w1 ⟨rfl, up1⟩
  go_wp2_with fail
  refine (alive_any _).mono ?_
  rintro e w2 ⟨rfl, up2⟩
  go_wp2_with fail
  refine (RT.out _).mono ?_
  rintro e w3 ⟨rfl, up3⟩
  go_wp2_with fail
  refine (BI.out _).mono ?_
  rintro e w4 ⟨u, rfl, ho, up4⟩
  obtain ⟨a, c, rfl⟩ := ho.ones.slice
  rw [show ([] : List Nat).length = 0 from rfl]
  clear ho
  go_wp2_with fail
  go_ret
  exact ⟨rfl, up1.trans (up2.trans (up3.trans up4))⟩
end Go.Proofs.Ythdheddfimeigaa
