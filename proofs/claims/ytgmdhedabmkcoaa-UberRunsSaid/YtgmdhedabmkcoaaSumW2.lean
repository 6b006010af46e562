/- The walk of the document's More. -/
import Derived.Test.YtgmdhedabmkcoaaSumW
namespace Go.Proofs.Ytgmdhedabmkcoaa
open Go.RowKit

theorem ret_u32 {a b : Int} (h : a = b) : Ending.returned (.int .u32 a) = .returned (.int .u32 b) := by rw [h]

set_option maxHeartbeats 400000 in
theorem refMore_some (s : Nat) (hs : s < 4294967296) (l : List UInt8) (b off cap : Nat) (w : World) (hl : l.length ≤ 9223372036854775807)
    (hc : ∀ i (h : i < l.length), w.cell? ⟨b, off + i, none⟩ = some (.int .u8 (l[i].toNat : Int))) :
    Calls Try.prog 39 #[.int .u32 (s : Int), .slice (some ⟨b, off, none⟩) l.length cap] w fun e w' => e = .returned (.int .u32 (crcMore s l : Nat)) ∧ w = w' := by
  have Hc := Lib.hid hc; clear hc
  go_enter Try.func39, Try.ntmps39
  go_wp2
  obtain ⟨n0, hn0⟩ : ∃ n0, n0 = 4294967295 - s := ⟨_, rfl⟩
  have hn0' : n0 < 4294967296 := by omega
  have hn1 : ((4294967295 : Int) - (s : Int)) = (n0 : Int) := by omega
  rw [hn1]
  have Hn0 := Lib.hid hn0; clear hn0 hn1
  go_loop [5, 13] (fun r i => ∃ k : Nat, k ≤ l.length ∧ i = .int .i64 k ∧ r = .int .u32 (crcList n0 (l.take k) : Nat)) (fun _ i => l.length - (intOf i).toNat)
  case atStart => exact ⟨0, Nat.zero_le _, rfl, rfl⟩
  case round =>
    obtain ⟨k, hk, rfl, rfl⟩ := hrel
    have hlt0 : crcList n0 (l.take k) < 4294967296 := crcList_lt _ hn0'
    by_cases hlt : k < l.length
    · have hcell := Hc.out k hlt
      obtain ⟨m, hm⟩ : ∃ m, m = crcList n0 (l.take k) := ⟨_, rfl⟩
      have hsn : crcList n0 (l.take (k + 1)) = crcByte m l[k] := by rw [take_snoc l k hlt, crcList_snoc, hm]
      obtain ⟨c, hcc⟩ : ∃ c, c = l[k] := ⟨_, rfl⟩
      rw [← hcc] at hsn hcell
      have hc256 : c.toNat < 256 := c.toNat_lt
      rw [← hm] at hlt0 ⊢
      rw [← refBits_byte] at hsn
      have Hsn := Lib.hid hsn
      clear hm hsn hcc
      go_wp2
      go_loop [5, 7] (fun r i => ∃ j : Nat, j ≤ 8 ∧ i = .int .i64 j ∧ r = .int .u32 (refBits m c.toNat j : Nat)) (fun _ i => 8 - (intOf i).toNat)
      case atStart => exact ⟨0, by omega, rfl, rfl⟩
      case round =>
        obtain ⟨j, hj, rfl, rfl⟩ := hrel
        by_cases hjlt : j < 8
        · have hb : refBits m c.toNat j < 4294967296 := refBits_lt m _ j hlt0
          have hs2 : refBits m c.toNat (j + 1) = refStep (refBits m c.toNat j) c.toNat j := rfl
          obtain ⟨y, hy⟩ : ∃ y, y = refBits m c.toNat j := ⟨_, rfl⟩
          rw [← hy] at hb hs2 ⊢
          obtain ⟨z, hz⟩ : ∃ z, z = c.toNat >>> j % 2 := ⟨_, rfl⟩
          have hz2 : z < 2 := by omega
          obtain ⟨x, hx⟩ : ∃ x, x = y ^^^ z := ⟨_, rfl⟩
          have hxl : x < 4294967296 := by have : y ^^^ z < 2 ^ 32 := Nat.xor_lt_two_pow (by omega) (by omega); omega
          have e1 : bits .and .u32 ((c.toNat : Int) / 2 ^ j) 1 = (z : Int) := by
            have hle : c.toNat / 2 ^ j ≤ c.toNat := Nat.div_le_self _ _
            have := u32_and_nat (c.toNat / 2 ^ j) 1 (by omega) (by omega)
            rw [Int.natCast_ediv, and_one, ← Nat.shiftRight_eq_div_pow, ← hz] at this
            simpa using this
          have e2 : bits .xor .u32 (y : Int) (z : Int) = (x : Int) := by rw [hx]; exact u32_xor_nat y z hb (by omega)
          have e3 : bits .xor .u32 ((y : Int) / 2) 2197175160 = (((y / 2) ^^^ 2197175160 : Nat) : Int) := by
            have := u32_xor_nat (y / 2) 2197175160 (by omega) (by omega); rw [Int.natCast_ediv] at this; exact this
          unfold refStep at hs2
          rw [← hz, ← hx] at hs2
          clear hy hz hx
          by_cases hp : x % 2 = 1
          · have ht : ((x : Int) % 2 == 1) = true := by simp; omega
            rw [if_pos hp] at hs2
            have Hs2 := Lib.hid hs2; clear hs2 hp
            go_wp2
            go_round
            case rel => exact ⟨j + 1, by omega, by go_num, by rw [Hs2.out]⟩
            case measure => simp [intOf]; omega
          · have ht : ((x : Int) % 2 == 1) = false := by simp; omega
            rw [if_neg hp] at hs2
            have Hs2 := Lib.hid hs2; clear hs2 hp
            go_wp2
            go_round
            case rel => exact ⟨j + 1, by omega, by go_num, by rw [Hs2.out]; rfl⟩
            case measure => simp [intOf]; omega
        · obtain rfl : j = 8 := by omega
          go_wp2
          go_round
          case rel => exact ⟨k + 1, by omega, by go_num, by rw [Hsn.out]⟩
          case measure => simp [intOf]; omega
    · obtain rfl : k = l.length := by omega
      rw [List.take_length] at *
      have hfin : crcMore s l = 4294967295 - crcList n0 l := by unfold crcMore; rw [Hn0.out]
      obtain ⟨m, hm⟩ : ∃ m, m = crcList n0 l := ⟨_, rfl⟩
      rw [← hm] at hfin hlt0 ⊢
      have Hfin := Lib.hid hfin
      clear hfin hm
      go_wp2
      go_ret
      exact ⟨by rw [Hfin.out]; exact ret_u32 (by omega), rfl⟩

theorem refMore_nil (s : Nat) (hs : s < 4294967296) (a : Option Addr) (cap : Nat) (w : World) :
    Calls Try.prog 39 #[.int .u32 (s : Int), .slice a 0 cap] w fun e w' => e = .returned (.int .u32 (crcMore s [] : Nat)) ∧ w = w' := by
  have hfin : crcMore s [] = s := by unfold crcMore crcList; simp; omega
  rw [hfin]
  clear hfin
  go_enter Try.func39, Try.ntmps39
  go_wp2
  go_loop [5, 13] (fun r i => i = .int .i64 0 ∧ r = .int .u32 (4294967295 - (s : Int))) (fun _ _ => 0)
  case atStart => exact ⟨rfl, rfl⟩
  case round =>
    obtain ⟨rfl, rfl⟩ := hrel
    go_wp2
    go_ret
    exact ⟨ret_u32 (by omega), rfl⟩

theorem refMore_any (s : Nat) (hs : s < 4294967296) (v : Value) (l : List UInt8) (w : World) (h : IsBytes w v l) :
    Calls Try.prog 39 #[.int .u32 (s : Int), v] w fun e w' => e = .returned (.int .u32 (crcMore s l : Nat)) ∧ w = w' := by
  have hl := h.length_le
  rcases h with ⟨rfl, a, cap, rfl, _⟩ | ⟨b, off, cap, rfl, _, _, _, hc⟩
  · exact refMore_nil s hs a cap w
  · exact refMore_some s hs l b off cap w hl hc
end Go.Proofs.Ytgmdhedabmkcoaa
