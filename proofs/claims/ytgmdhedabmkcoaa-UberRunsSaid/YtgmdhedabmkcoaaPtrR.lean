/- The pointer of bytes: the walks of both sides. -/
import Derived.Test.YtgmdhedabmkcoaaPtrB
import Derived.Laws.ResultCell
set_option linter.unusedSimpArgs false
namespace Go.Proofs.Ytgmdhedabmkcoaa
open Go.RowKit

def ptrOf (l : List UInt8) : PtrD := ⟨(numVal (l.take 4) : Nat), numVal ((l.drop 4).take 8), numVal (l.drop 12)⟩
def readB (l : List UInt8) : Option PtrD := if l.length = 16 ∧ goodB (ptrOf l) = true then some (ptrOf l) else none

def PRead (l : List UInt8) (w : World) (e : Ending) (w' : World) : Prop :=
  (∃ p, readB l = some p ∧ e = .returned (.tuple #[ptrV p, .int .i64 0]) ∧ Up w w') ∨
  (readB l = none ∧ e = .returned (.tuple #[ptrV hole, .int .i64 51]) ∧ Up w w')

theorem okGet_ptr (l : List UInt8) : okGet ptrWs l ↔ l.length = 16 := by
  simp [okGet, ptrWs, okWs, total]
theorem numVal_le {l : List UInt8} {k : Nat} (h : l.length ≤ k) : numVal l < 256 ^ k :=
  Nat.lt_of_lt_of_le (numVal_lt l) (Nat.pow_le_pow_right (by omega) h)
theorem getNums_ptr (l : List UInt8) (h : l.length = 16) : getNums ptrWs l = [numVal (l.take 4), numVal ((l.drop 4).take 8), numVal (l.drop 12)] := by
  simp [getNums, ptrWs, List.drop_drop]
  rw [List.take_of_length_le (by simp; omega)]

theorem frozen_new (w : World) (cs : Array Value) (t : TypeId) (i : Nat) : (w.alloc (.cells cs t)).frozen? ⟨w.heap.size, i, none⟩ = false := by
  have hh : (w.alloc (.cells cs t)).heap[w.heap.size]? = some (.cells cs t) := by
    show (w.heap.push _)[w.heap.size]? = _
    simp
  unfold World.frozen?
  rw [hh]
  simp

theorem wrap_i64_nat (n : Nat) (h : n < 9223372036854775808) : IntKind.i64.wrap (n : Int) = (n : Int) := IntWalk.i64_in _ (by omega)
theorem wrap_u32_nat (n : Nat) (h : n < 4294967296) : IntKind.u32.wrap (n : Int) = (n : Int) := by
  simp [IntKind.wrap, IntKind.bits, IntKind.signed]
  omega

set_option maxHeartbeats 4000000 in
theorem read_any (w : World) (v : Value) (l : List UInt8) (hv : IsBytes w v l) :
    Calls Try.prog 41 #[v] w fun e w' => PRead l w e w' := by
  have HR := Lib.hid (right_any (p := ptrOf l))
  go_enter Try.func41, Try.ntmps41
  go_wp2_with fail
  refine (widths_any _).mono ?_
  rintro e w1 ⟨rfl, rfl⟩
  go_wp2_with fail
  refine (get_any _ _ ptrWs (IsOnes.litAt _ _ (by simp) _ _ _ ptrWs 3 rfl three_le rfl) (by simp [ptrWs]) _ l (hv.up ((up_alloc _ _).alloc _))).mono ?_
  rintro e w3 h3
  have up3 : Up (w.alloc (.cells #[.int .i64 0, .int .u64 0, .int .u32 0] 25)) w3 := by
    rcases h3 with ⟨_, _, _, _, h⟩ | ⟨_, _, h⟩ <;> exact (up_alloc _ _).trans h
  have d0 : w3.cell? ⟨w.heap.size, 0, none⟩ = some (.int .i64 0) := up3.cell (cell_new w _ _ _ 0 _ rfl)
  have d1 : w3.cell? ⟨w.heap.size, 1, none⟩ = some (.int .u64 0) := up3.cell (cell_new w _ _ _ 1 _ rfl)
  have d2 : w3.cell? ⟨w.heap.size, 2, none⟩ = some (.int .u32 0) := up3.cell (cell_new w _ _ _ 2 _ rfl)
  have f0 : w3.frozen? ⟨w.heap.size, 0, none⟩ = false := (up3.frozen (by simp)).trans (frozen_new w _ _ 0)
  have f1 : w3.frozen? ⟨w.heap.size, 1, none⟩ = false := (up3.frozen (by simp)).trans (frozen_new w _ _ 1)
  have f2 : w3.frozen? ⟨w.heap.size, 2, none⟩ = false := (up3.frozen (by simp)).trans (frozen_new w _ _ 2)
  have hup := (up_alloc w _).trans up3
  obtain (⟨hok, vv, rfl, hvv, _⟩ | ⟨hno, rfl, _⟩) := h3
  case inr =>
    have hb : readB l = none := by rw [okGet_ptr] at hno; simp [readB, hno]
    have Hb := Lib.hid hb
    clear hb hno
    go_wp2_with fail
    (try simp only [Exit.inBlock, Exit.then])
    refine bodyPost_ret (v := .tuple #[ptrV hole, .int .i64 51]) ?_ rfl ?_
    · rw [results_cell_tmp rfl]
      go_simp
      try rfl
    exact .inr ⟨Hb.out, rfl, ((hup.setCell (Nat.le_refl _) _).setCell (Nat.le_refl _) _).setCell (Nat.le_refl _) _⟩
  rw [okGet_ptr] at hok
  rw [getNums_ptr l hok] at hvv
  have q1 : numVal (l.take 4) < 4294967296 := numVal_le (k := 4) (by simp; omega)
  have q2 : numVal ((l.drop 4).take 8) < 18446744073709551616 := numVal_le (k := 8) (by simp; omega)
  have q3 : numVal (l.drop 12) < 4294967296 := numVal_le (k := 4) (by simp; omega)
  have Hok := Lib.hid hok
  clear hok
  have hp : ptrOf l = ⟨(numVal (l.take 4) : Nat), numVal ((l.drop 4).take 8), numVal (l.drop 12)⟩ := rfl
  rw [hp] at HR
  have Hp := Lib.hid hp
  clear hp
  unfold ptrV at HR
  simp only at HR
  generalize numVal (l.take 4) = x at *
  generalize numVal ((l.drop 4).take 8) = y at *
  generalize numVal (l.drop 12) = z at *
  obtain ⟨a5, c5, rfl⟩ := hvv.ones.slice
  obtain ⟨b5, o5, rfl, _, hc⟩ := get_of_ones hvv.ones rfl (by simp)
  have e0 : w3.cell? ⟨b5, o5, none⟩ = some (.int .u64 x) := hc 0 (by simp)
  have e1 : w3.cell? ⟨b5, o5 + 1, none⟩ = some (.int .u64 y) := hc 1 (by simp)
  have e2 : w3.cell? ⟨b5, o5 + 2, none⟩ = some (.int .u64 z) := hc 2 (by simp)
  clear hc hvv
  go_wp2_with fail
  have wx := wrap_i64_nat x (by omega)
  have wz := wrap_u32_nat z q3
  go_region_held3 (fun w' => Up w3 w' ∧ w'.cell? ⟨b5, o5, none⟩ = some (.int .u64 x) ∧ w'.cell? ⟨b5, o5 + 1, none⟩ = some (.int .u64 y) ∧ w'.cell? ⟨b5, o5 + 2, none⟩ = some (.int .u64 z))
    ((refine keep_of e0 e1 e2 ?_
      (repeat (first | exact Up.refl _ | apply Up.alloc | refine Up.setCell ?_ (Nat.le_refl _) _ | apply Up.drew))
      done))
    (fail)
  go_wp2_with fail
  refine (HR.out _).mono ?_
  rintro e w5 ⟨rfl, up5⟩
  have up35 := ((up_alloc w3 (.cells #[.int .i64 x, .int .u64 y, .int .u32 z] 25)).drew).trans up5
  have g0 : w5.cell? ⟨w3.heap.size, 0, none⟩ = some (.int .i64 x) := up5.cell (cell_new w3 _ _ _ 0 _ rfl)
  have g1 : w5.cell? ⟨w3.heap.size, 1, none⟩ = some (.int .u64 y) := up5.cell (cell_new w3 _ _ _ 1 _ rfl)
  have g2 : w5.cell? ⟨w3.heap.size, 2, none⟩ = some (.int .u32 z) := up5.cell (cell_new w3 _ _ _ 2 _ rfl)
  have f0' : w5.frozen? ⟨w.heap.size, 0, none⟩ = false := (up35.frozen (World.block_lt_of_cell? w3 _ d0)).trans f0
  have f1' : w5.frozen? ⟨w.heap.size, 1, none⟩ = false := (up35.frozen (World.block_lt_of_cell? w3 _ d1)).trans f1
  have f2' : w5.frozen? ⟨w.heap.size, 2, none⟩ = false := (up35.frozen (World.block_lt_of_cell? w3 _ d2)).trans f2
  have d0' := up35.cell d0
  have d1' := up35.cell d1
  have d2' := up35.cell d2
  have hup5 := hup.trans up35
  have hrd : readB l = if goodB ⟨x, y, z⟩ = true then some ⟨x, y, z⟩ else none := by simp [readB, Hok.out, Hp.out]
  clear up35 HR
  generalize goodB ⟨x, y, z⟩ = gb at *
  have Hrd := Lib.hid hrd
  clear hrd
  cases gb
  · go_wp2_with fail
    (try simp only [Exit.inBlock, Exit.then])
    refine bodyPost_ret (v := .tuple #[ptrV hole, .int .i64 51]) ?_ rfl ?_
    · rw [results_cell_tmp rfl]
      go_simp
      try rfl
    exact .inr ⟨by rw [Hrd.out]; rfl, rfl, ((hup5.setCell (Nat.le_refl _) _).setCell (Nat.le_refl _) _).setCell (Nat.le_refl _) _⟩
  · go_wp2_with fail
    (try simp only [Exit.inBlock, Exit.then])
    refine bodyPost_ret (v := .tuple #[.agg #[.int .i64 x, .int .u64 y, .int .u32 z], .int .i64 0]) ?_ rfl ?_
    · rw [results_cell_tmp rfl]
      go_simp
      try rfl
    exact .inl ⟨⟨x, y, z⟩, by rw [Hrd.out]; rfl, rfl, ((hup5.setCell (Nat.le_refl _) _).setCell (Nat.le_refl _) _).setCell (Nat.le_refl _) _⟩

end Go.Proofs.Ytgmdhedabmkcoaa
