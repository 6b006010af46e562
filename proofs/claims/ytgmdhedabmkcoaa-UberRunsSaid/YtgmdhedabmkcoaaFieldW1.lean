/- The walks of field's room and the document's Number. -/
import Derived.Test.YtgmdhedabmkcoaaField
import Derived.Test.YtgmdhedabmkcoaaLaws
namespace Go.Proofs.Ytgmdhedabmkcoaa
open Go.RowKit

theorem info_u8 : (Try.prog.info? 5).map (fun i => (i.zero, i.size, i.bytes)) = some (some (.int .u8 0), 1, 1) := by kernel_rfl
theorem info_u64 : (Try.prog.info? 22).map (fun i => (i.zero, i.size, i.bytes)) = some (some (.int .u64 0), 1, 8) := by kernel_rfl
theorem info_int : (Try.prog.info? 3).map (fun i => (i.zero, i.size, i.bytes)) = some (some (.int .i64 0), 1, 8) := by kernel_rfl

def RoomPost (ws : List Int) (e : Ending) : Prop :=
  (okWs ws ∧ e = .returned (.tuple #[.int .i64 (total ws : Nat), .bool true])) ∨ (¬ okWs ws ∧ e = .returned (.tuple #[.int .i64 0, .bool false]))

set_option maxHeartbeats 400000 in
theorem room_any (w : World) (v : Value) (ws : List Int) (h : IsOnes intCell w v ws) (hlen : ws.length * 8 ≤ 140737488351232) :
    Calls Try.prog 60 #[v] w fun e w' => RoomPost ws e ∧ w = w' := by
  obtain ⟨a, cap, rfl⟩ := h.slice
  go_enter Try.func60, Try.ntmps60
  go_wp2_with fail
  go_loop [4, 9] (fun s i => ∃ k : Nat, k ≤ ws.length ∧ i = .int .i64 k ∧ s = .int .i64 (total (ws.take k) : Nat) ∧ okWs (ws.take k)) (fun _ i => ws.length - (intOf i).toNat)
  case atStart => exact ⟨0, Nat.zero_le _, rfl, rfl, by intro x hx; simp at hx⟩
  case round =>
    obtain ⟨k, hk, rfl, rfl, hok⟩ := hrel
    have htl := total_le hok
    have hln : (ws.take k).length ≤ k := List.length_take_le _ _
    by_cases hlt : k < ws.length
    · obtain ⟨b, off, rfl, _, hc⟩ := get_of_ones h rfl (by omega)
      have hcell := hc k hlt
      unfold intCell at hcell
      have hts := total_take_succ ws k hlt
      have hmem : ws[k] ∈ ws := List.getElem_mem hlt
      have hokk : 1 ≤ ws[k] ∧ ws[k] ≤ 8 → okWs (ws.take (k + 1)) := by
        intro h1 x hx
        rw [take_snoc' ws k hlt] at hx
        rcases List.mem_append.1 hx with hx | hx
        · exact hok x hx
        · simp at hx; subst hx; exact h1
      clear hc
      generalize hx : ws[k] = x at *
      have Hmem := Lib.hid hmem
      have Hts := Lib.hid hts
      have Hokk := Lib.hid hokk
      have Hok := Lib.hid hok
      clear hmem hts hokk hok hx
      by_cases h1 : x < 1
      · go_wp2_with fail
        go_ret2
        exact ⟨.inr ⟨fun hh => by have := hh x Hmem.out; omega, rfl⟩, rfl⟩
      by_cases h8 : 8 < x
      · go_wp2_with fail
        go_ret2
        exact ⟨.inr ⟨fun hh => by have := hh x Hmem.out; omega, rfl⟩, rfl⟩
      obtain ⟨y, rfl⟩ := Int.eq_ofNat_of_zero_le (show 0 ≤ x by omega)
      generalize total (ws.take k) = tk at *
      go_wp2_with fail
      all_goals
        go_round
        case rel => exact ⟨k + 1, by omega, by go_num, by rw [Hts.out]; simp, Hokk.out ⟨by omega, by omega⟩⟩
        case measure => simp [intOf]; omega
    · obtain rfl : k = ws.length := by omega
      rw [List.take_length] at *
      go_wp2_with fail
      go_ret2
      exact ⟨.inl ⟨hok, rfl⟩, rfl⟩

def NumberPost (n : Nat) (k : Nat) (w : World) (e : Ending) (w' : World) : Prop :=
  ∃ v, e = .returned (.tuple #[v, .bool (n / 256 ^ k == 0)]) ∧ Own byteCell 5 w' w.heap.size v (numBytes n k) ∧ Up w w'

set_option maxHeartbeats 400000 in
theorem number_any (w : World) (n : Nat) (hn : n < 18446744073709551616) (k : Nat) (hk : k ≤ 1000) :
    Calls Try.prog 37 #[.int .u64 (n : Int), .int .i64 (k : Int)] w fun e w' => NumberPost n k w e w' := by
  go_enter Try.func37, Try.ntmps37
  go_wp2_with fail
  go_loopw [0, 6, 7] (fun x v i wr => ∃ j : Nat, j ≤ k ∧ i = .int .i64 j ∧ x = .int .u64 (n / 256 ^ j : Nat) ∧ Own byteCell 5 wr w.heap.size v (numBytes n j) ∧ Up w wr) (fun _ _ i _ => k - (intOf i).toNat)
  case atStart => exact ⟨0, Nat.zero_le _, rfl, by simp, Own.made byteCell _ w _ (Nat.le_refl _), up_alloc _ _⟩
  case round =>
    obtain ⟨j, hj, rfl, rfl, hown, upr⟩ := hrel
    by_cases hlt : j < k
    · have hsn := numBytes_snoc j n
      have hdv : n / 256 ^ (j + 1) = n / 256 ^ j / 256 := by rw [Nat.div_div_eq_div_mul, Nat.pow_succ]
      have hle : n / 256 ^ j ≤ n := Nat.div_le_self _ _
      have hlen := numBytes_length j n
      generalize n / 256 ^ j = x at *
      have hx8 := u8_mod x
      generalize hc : UInt8.ofNat (x % 256) = c at *
      have Hsn := Lib.hid hsn
      have Hdv := Lib.hid hdv
      have Hc8 := Lib.hid hx8
      clear hsn hdv hc hx8
      have e1 : IntKind.u8.wrap ((x : Int) % 256) = (c.toNat : Int) := by rw [Hc8.out, IntKind.wrap_u8']; omega
      go_wp2_with (at_builtin; refine wpList_append_ones byteCell byteCell_one rfl (.tmp 14) (.tmp 18) 76 rfl w.heap.size 5 (.int .u8 0) 1 Try.underlying76 info_u8 rfl _ _ rfl (hown.up (up_alloc wr _)) (.slice (some ⟨wr.heap.size, 0, none⟩) 1 1) [c] rfl (IsOnes.lit wr #[.int .u8 (c.toNat : Int)] 5 (0, 0) [c] 1 rfl (by unfold maxLen; omega) rfl) (by simp; omega) (by simp; omega) ((upr.alloc _).size) ?_)
      intro v' w3 hown3 _ hb3
      go_wp2_with fail
      go_roundw
      case rel => exact ⟨j + 1, by omega, by go_num, by rw [Hdv.out]; rfl, by rw [Hsn.out]; exact hown3, (upr.alloc _).below_trans hb3 (Nat.le_refl _)⟩
      case measure => simp [intOf]; omega
    · obtain rfl : j = k := by omega
      generalize hx : n / 256 ^ j = x at *
      have Hx := Lib.hid hx
      clear hx
      have hb : ((x : Int) == 0) = (x == 0) := by rw [Bool.eq_iff_iff]; simp
      go_wp2_with fail
      go_ret2
      refine ⟨_, ?_, hown, upr⟩
      rw [Hx.out]
      rfl

def PutPost (ws : List Int) (ns : List Nat) (w : World) (e : Ending) (w' : World) : Prop :=
  (okPut ws ns ∧ ∃ v, e = .returned (.tuple #[v, .int .i64 0]) ∧ Own byteCell 5 w' w.heap.size v (putBytes ws ns) ∧ Up w w') ∨
  (¬ okPut ws ns ∧ e = .returned (.tuple #[.slice none 0 0, .int .i64 21]) ∧ Up w w')

end Go.Proofs.Ytgmdhedabmkcoaa
