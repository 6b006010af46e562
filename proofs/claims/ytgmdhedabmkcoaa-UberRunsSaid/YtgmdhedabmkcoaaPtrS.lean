/- The pointer of bytes: the document's walk. -/
import Derived.Test.YtgmdhedabmkcoaaPtrR
set_option linter.unusedSimpArgs false
namespace Go.Proofs.Ytgmdhedabmkcoaa
open Go.RowKit

def Fits (w : World) (v : Value) (n : Nat) : Prop := ∃ l : List UInt8, IsBytes w v l ∧ l.length ≤ 8 ∧ numVal l = n
theorem value_fits (w W : World) (v : Value) (n : Nat) (hu : Up w W) (h : Fits w v n) :
    Calls Try.prog 43 #[v] W fun e w' => e = .returned (.int .u64 n) ∧ W = w' := by
  obtain ⟨l, h1, h2, rfl⟩ := h
  exact value_any W v l (h1.up hu) h2

set_option maxHeartbeats 1000000 in
theorem refRead_any (w : World) (v : Value) (l : List UInt8) (hv : IsBytes w v l) :
    Calls Try.prog 42 #[v] w fun e w' => PRead l w e w' := by
  have hll := hv.length_le
  obtain ⟨a, cap, rfl⟩ := hv.slice
  by_cases hl : l.length = 16
  case neg =>
    have ht : ((l.length : Int) != 16) = true := by simp; omega
    have hb : readB l = none := by simp [readB, hl]
    have Hb := Lib.hid hb
    clear hb hl
    go_enter Try.func42, Try.ntmps42
    go_wp2_with fail
    (try simp only [Exit.inBlock, Exit.then])
    refine bodyPost_ret (v := .tuple #[ptrV hole, .int .i64 51]) ?_ rfl ?_
    · rw [results_cell_tmp rfl]
      go_simp
      try rfl
    exact .inr ⟨Hb.out, rfl, up_alloc w _⟩
  have hcap : 16 ≤ cap := by
    rcases hv with ⟨rfl, _⟩ | ⟨b, off, cap', hx, _, h1, _⟩
    · simp at hl
    · simp at hx; omega
  rw [hl] at hv hll ⊢
  have HR := Lib.hid (refRight_any (p := ptrOf l))
  have hs1 : ∀ W, (Instr.slice 76 (.slice a 16 cap) none (some (.int .i64 4)) none).run Try.prog W = .ok (pieceOf a 0 4 cap) W := run_piece_to (P := Try.prog) 76 bytes_elem bytes_size a 16 cap 4 (by omega)
  have hs2 : ∀ W, (Instr.slice 76 (.slice a 16 cap) (some (.int .i64 4)) (some (.int .i64 12)) none).run Try.prog W = .ok (pieceOf a 4 12 cap) W := run_piece (P := Try.prog) 76 bytes_elem bytes_size a 16 cap 4 12 (by omega) (by omega)
  have hs3 : ∀ W, (Instr.slice 76 (.slice a 16 cap) (some (.int .i64 12)) none none).run Try.prog W = .ok (pieceOf a 12 16 cap) W := run_piece_from (P := Try.prog) 76 bytes_elem bytes_size a 16 cap 12 (by omega)
  have hp1 : IsBytes w (pieceOf a 0 4 cap) (l.take 4) := by simpa using hv.piece (lo := 0) (hi := 4) (by omega) (by omega)
  have hp2 : IsBytes w (pieceOf a 4 12 cap) ((l.drop 4).take 8) := by
    have := hv.piece (lo := 4) (hi := 12) (by omega) (by omega)
    rwa [show (l.take 12).drop 4 = (l.drop 4).take 8 from by rw [List.drop_take]] at this
  have hp3 : IsBytes w (pieceOf a 12 16 cap) (l.drop 12) := by
    have := hv.piece (lo := 12) (hi := 16) (by omega) (by omega)
    rwa [List.take_of_length_le (by omega)] at this
  have k1 : (l.take 4).length ≤ 8 := by simp; omega
  have k2 : ((l.drop 4).take 8).length ≤ 8 := by simp; omega
  have k3 : (l.drop 12).length ≤ 8 := by simp; omega
  have q1 : numVal (l.take 4) < 4294967296 := numVal_le (k := 4) (by simp; omega)
  have q2 : numVal ((l.drop 4).take 8) < 18446744073709551616 := numVal_le (k := 8) (by simp; omega)
  have q3 : numVal (l.drop 12) < 4294967296 := numVal_le (k := 4) (by simp; omega)
  have F1 : Fits w (pieceOf a 0 4 cap) _ := ⟨_, hp1, k1, rfl⟩
  have F2 : Fits w (pieceOf a 4 12 cap) _ := ⟨_, hp2, k2, rfl⟩
  have F3 : Fits w (pieceOf a 12 16 cap) _ := ⟨_, hp3, k3, rfl⟩
  have Hok := Lib.hid hl
  clear hl hp1 hp2 hp3 k1 k2 k3 hv
  have hp : ptrOf l = ⟨(numVal (l.take 4) : Nat), numVal ((l.drop 4).take 8), numVal (l.drop 12)⟩ := rfl
  rw [hp] at HR
  have Hp := Lib.hid hp
  clear hp
  unfold ptrV at HR
  simp only at HR
  generalize numVal (l.take 4) = x at *
  generalize numVal ((l.drop 4).take 8) = y at *
  generalize numVal (l.drop 12) = z at *
  generalize pieceOf a 0 4 cap = v1 at *
  generalize pieceOf a 4 12 cap = v2 at *
  generalize pieceOf a 12 16 cap = v3 at *
  have wx := wrap_i64_nat x (by omega)
  have wz := wrap_u32_nat z q3
  have ht : ((16 : Int) != 16) = false := by simp
  go_enter Try.func42, Try.ntmps42
  go_wp2_with fail
  go_region_held3 (fun w' => Up w w')
    ((show Up _ _
      (repeat (first | exact Up.refl _ | apply Up.alloc | refine Up.setCell ?_ (by simp) _ | apply Up.drew))
      done))
    ((go_at_call 43
      refine (value_fits w _ _ _ ?_ (by first | exact F1 | exact F2 | exact F3)).mono ?_
      · (repeat (first | exact Up.refl _ | apply Up.alloc | apply Up.drew))
      rintro e w2 ⟨rfl, rfl⟩))
  all_goals
    go_wp2_with fail
    refine (HR.out _).mono ?_
    rintro e w5 ⟨rfl, up5⟩
    have up35 := ((up_alloc (w.alloc (.cells #[.int .i64 0, .int .u64 0, .int .u32 0] 25)) (.cells #[.int .i64 x, .int .u64 y, .int .u32 z] 25)).drew).trans up5
    have g0 : w5.cell? ⟨w.heap.size + 1, 0, none⟩ = some (.int .i64 x) := by rw [← World.size_alloc]; exact up5.cell (cell_new _ _ _ _ 0 _ rfl)
    have g1 : w5.cell? ⟨w.heap.size + 1, 1, none⟩ = some (.int .u64 y) := by rw [← World.size_alloc]; exact up5.cell (cell_new _ _ _ _ 1 _ rfl)
    have g2 : w5.cell? ⟨w.heap.size + 1, 2, none⟩ = some (.int .u32 z) := by rw [← World.size_alloc]; exact up5.cell (cell_new _ _ _ _ 2 _ rfl)
    have d0 : w5.cell? ⟨w.heap.size, 0, none⟩ = some (.int .i64 0) := up35.cell (cell_new w _ _ _ 0 _ rfl)
    have d1 : w5.cell? ⟨w.heap.size, 1, none⟩ = some (.int .u64 0) := up35.cell (cell_new w _ _ _ 1 _ rfl)
    have d2 : w5.cell? ⟨w.heap.size, 2, none⟩ = some (.int .u32 0) := up35.cell (cell_new w _ _ _ 2 _ rfl)
    have f0 : w5.frozen? ⟨w.heap.size, 0, none⟩ = false := (up35.frozen (by simp)).trans (frozen_new w _ _ 0)
    have f1 : w5.frozen? ⟨w.heap.size, 1, none⟩ = false := (up35.frozen (by simp)).trans (frozen_new w _ _ 1)
    have f2 : w5.frozen? ⟨w.heap.size, 2, none⟩ = false := (up35.frozen (by simp)).trans (frozen_new w _ _ 2)
    have hup5 := (up_alloc w _).trans up35
    have hrd : readB l = if goodB ⟨x, y, z⟩ = true then some ⟨x, y, z⟩ else none := by simp [readB, Hok.out, Hp.out]
    clear up35 HR up5
    generalize goodB ⟨x, y, z⟩ = gb at *
    have Hrd := Lib.hid hrd
    clear hrd
    cases gb
    · go_wp2_with fail
      (try simp only [Exit.inBlock, Exit.then])
      refine bodyPost_ret (v := .tuple #[ptrV hole, .int .i64 51]) ?_ rfl ?_
      · rw [results_cell_tmp rfl]
        go_simp
        try rfl
      exact .inr ⟨by rw [Hrd.out]; rfl, rfl, ((hup5.setCell (Nat.le_refl _) _).setCell (Nat.le_refl _) _).setCell (Nat.le_refl _) _⟩
    · go_wp2_with fail
      (try simp only [Exit.inBlock, Exit.then])
      refine bodyPost_ret (v := .tuple #[.agg #[.int .i64 x, .int .u64 y, .int .u32 z], .int .i64 0]) ?_ rfl ?_
      · rw [results_cell_tmp rfl]
        go_simp
        try rfl
      exact .inl ⟨⟨x, y, z⟩, by rw [Hrd.out]; rfl, rfl, ((hup5.setCell (Nat.le_refl _) _).setCell (Nat.le_refl _) _).setCell (Nat.le_refl _) _⟩
end Go.Proofs.Ytgmdhedabmkcoaa
