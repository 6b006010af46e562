/- SumZeros: the walk. -/
import Derived.Test.YtmaoejdlcnlkmaaSumL4
import Derived.Deep.RegionWith
namespace Go.Proofs.Ytmaoejdlcnlkmaa
open Go.RowKit

/-- n zeros, as a make lays them. -/
def zeroRow (n : Nat) : Array Value := madeCells (Value.int .u8 0).cells (n * 1)
theorem zeroRow_list (n : Nat) : (zeroRow n).toList = (List.replicate n (0 : UInt8)).map byteCell := by
  unfold zeroRow
  rw [Nat.mul_one, show (Value.int .u8 0).cells = #[.int .u8 0] from rfl, toList_madeCells_one, List.map_replicate]
  rfl
theorem run_zeros (n : Nat) (hn : n ≤ 281474976710656) (w : World) : (Instr.makeSlice 24 (.int .i64 (n : Int)) (.int .i64 (n : Int))).run Try.prog w = .ok (.slice (some ⟨w.heap.size, 0, none⟩) n n) (w.alloc (.cells (zeroRow n) 5)) := by
  obtain ⟨i, hi, hz0, hz1, hz2⟩ := info_parts info_u8
  have := run_make (P := Try.prog) w 24 5 i (.int .u8 0) Try.underlying24 hi hz0 .i64 .i64 n n (by omega) (by omega) (by rw [hz2]; omega) (by omega)
  rw [hz1] at this
  simpa [zeroRow] using this
theorem isBytes_zeros {w : World} {b n : Nat} (hn : n ≤ 281474976710656) (h : w.heap[b]? = some (.cells (zeroRow n) 5)) : IsBytes w (.slice (some ⟨b, 0, none⟩) n n) (List.replicate n 0) := by
  have hl : (List.replicate n (0 : UInt8)).length = n := List.length_replicate
  by_cases h0 : n = 0
  · subst h0
    exact .inl ⟨rfl, _, 0, rfl, Nat.zero_le _, fun h => by cases h⟩
  · refine .inr ⟨b, 0, n, by rw [hl], by omega, by omega, by unfold maxLen; omega, fun i hi => ?_⟩
    have hc : w.cell? ⟨b, 0 + i, none⟩ = (zeroRow n)[0 + i]? := by unfold World.cell?; rw [h]; rfl
    rw [hc, Nat.zero_add]
    have h1 : (zeroRow n).toList[i]? = ((List.replicate n (0 : UInt8)).map byteCell)[i]? := by rw [zeroRow_list]
    simp at h1 hi
    rw [h1]
    simp [hi]
theorem of_zeros (b n : Nat) (w : World) (hn : n ≤ 281474976710656) (h : w.heap[b]? = some (.cells (zeroRow n) 5)) :
    Calls Try.prog 9 #[.slice (some ⟨b, 0, none⟩) n n] w fun e w' => e = .returned (.int .u32 (crcMore 0 (List.replicate n 0) : Nat)) ∧ w = w' := of_any _ _ _ (isBytes_zeros hn h)

theorem heap_at0 (w : World) (o : Obj) : (w.alloc o).heap[w.heap.size]? = some o := by show (w.heap.push o)[_]? = _; simp
theorem heap_at1 (w : World) (o o' : Obj) : ((w.alloc o).alloc o').heap[w.heap.size]? = some o := by show ((w.heap.push o).push o')[_]? = _; simp [Array.getElem?_push]
theorem heap_at2 (w : World) (o o' : Obj) : ((w.alloc o).alloc o').heap[w.heap.size + 1]? = some o' := by show ((w.heap.push o).push o')[_]? = _; rw [Array.getElem?_push, if_pos (by simp)]

set_option maxHeartbeats 1000000 in
theorem sumZeros_in (w : World) (n m : Nat) (hn : n ≤ 3000) (hm : m ≤ 3000) :
    Calls Try.prog 8 #[.int .i64 (n : Int), .int .i64 (m : Int)] w fun e w' => e = .returned (.bool true) ∧ Up w w' := by
  have mk1 := run_zeros n (by omega)
  have mk2 := run_zeros m (by omega)
  have hz : (((crcMore 0 (List.replicate n 0) : Nat) : Int) == ((crcMore 0 (List.replicate m 0) : Nat) : Int)) = ((n : Int) == (m : Int)) := by
    have := crc_zeros hn hm
    rw [Bool.eq_iff_iff]
    simp only [beq_iff_eq]
    omega
  have Hz := Lib.hid hz
  clear hz
  go_enter Try.func8, Try.ntmps8
  go_wp2_with fail
  refine (sumNames_walk _).mono ?_
  rintro e w2 ⟨rfl, up2⟩
  go_wp2_with fail
  go_region_with ((go_at_call 9; refine (of_zeros _ _ _ (by omega) (by first | exact heap_at0 _ _ | exact heap_at1 _ _ _ | exact heap_at2 _ _ _)).mono ?_; rintro e w4 ⟨rfl, rfl⟩))
  all_goals
    go_wp2_with fail
    go_ret
    exact ⟨by rw [Hz.out]; simp [Act.put], by repeat (first | exact up2 | apply Up.drew | apply Up.alloc)⟩

set_option maxHeartbeats 400000 in
theorem sumZeros_walk (w : World) (n : Int) (hn : -9223372036854775808 ≤ n ∧ n ≤ 9223372036854775807) (m : Int) (hm : -9223372036854775808 ≤ m ∧ m ≤ 9223372036854775807) :
    Calls Try.prog 8 #[.int .i64 n, .int .i64 m] w fun e w' => e = .returned (.bool true) ∧ Up w w' := by
  by_cases hall : 0 ≤ n ∧ n ≤ 3000 ∧ 0 ≤ m ∧ m ≤ 3000
  · obtain ⟨k, rfl⟩ := Int.eq_ofNat_of_zero_le hall.1
    obtain ⟨j, rfl⟩ := Int.eq_ofNat_of_zero_le hall.2.2.1
    exact sumZeros_in w k j (by omega) (by omega)
  · by_cases t1 : n < 0
    · clear hall
      go_enter Try.func8, Try.ntmps8
      go_wp2_with fail
      refine (sumNames_walk _).mono ?_
      rintro e w2 ⟨rfl, up2⟩
      go_wp2_with fail
      all_goals (go_ret; exact ⟨rfl, up2⟩)
    by_cases t2 : 3000 < n
    · clear hall
      go_enter Try.func8, Try.ntmps8
      go_wp2_with fail
      refine (sumNames_walk _).mono ?_
      rintro e w2 ⟨rfl, up2⟩
      go_wp2_with fail
      all_goals (go_ret; exact ⟨rfl, up2⟩)
    by_cases t3 : m < 0
    · clear hall
      go_enter Try.func8, Try.ntmps8
      go_wp2_with fail
      refine (sumNames_walk _).mono ?_
      rintro e w2 ⟨rfl, up2⟩
      go_wp2_with fail
      all_goals (go_ret; exact ⟨rfl, up2⟩)
    have t4 : 3000 < m := by omega
    clear hall
    go_enter Try.func8, Try.ntmps8
    go_wp2_with fail
    refine (sumNames_walk _).mono ?_
    rintro e w2 ⟨rfl, up2⟩
    go_wp2_with fail
    all_goals (go_ret; exact ⟨rfl, up2⟩)
end Go.Proofs.Ytmaoejdlcnlkmaa
