/- The walks of sum.More, sum.Of and the document's More. -/
import Derived.Test.YtgmdhedabmkcoaaBase
import Derived.Test.YtgmdhedabmkcoaaSum
namespace Go.Proofs.Ytgmdhedabmkcoaa
open Go.RowKit

theorem u32max : IntKind.u32.max = 4294967295 := by decide
theorem take_snoc {α : Type} (l : List α) (k : Nat) (h : k < l.length) : l.take (k + 1) = l.take k ++ [l[k]] := by
  rw [List.take_succ_eq_append_getElem h]
theorem and_one (n : Nat) : n &&& 1 = n % 2 := Nat.and_one_is_mod n

set_option maxHeartbeats 400000 in
theorem more_some (s : Nat) (hs : s < 4294967296) (l : List UInt8) (b off cap : Nat) (w : World) (hl : l.length ≤ 9223372036854775807)
    (hc : ∀ i (h : i < l.length), w.cell? ⟨b, off + i, none⟩ = some (.int .u8 (l[i].toNat : Int))) :
    Calls Try.prog 62 #[.int .u32 (s : Int), .slice (some ⟨b, off, none⟩) l.length cap] w fun e w' => e = .returned (.int .u32 (crcMore s l : Nat)) ∧ w = w' := by
  have Hc := Lib.hid hc; clear hc
  obtain ⟨n0, hn0⟩ : ∃ n0, n0 = 4294967295 - s := ⟨_, rfl⟩
  have hn0' : n0 < 4294967296 := by omega
  have e0 : bits .xor .u32 IntKind.u32.max (s : Int) = (n0 : Int) := by rw [u32max, hn0]; exact u32_not s hs
  have Hn0 := Lib.hid hn0; clear hn0
  go_enter Try.func62, Try.ntmps62
  go_wp2
  clear e0
  go_loop [0, 12] (fun r i => ∃ k : Nat, k ≤ l.length ∧ i = .int .i64 k ∧ r = .int .u32 (crcList n0 (l.take k) : Nat)) (fun _ i => l.length - (intOf i).toNat)
  case atStart => exact ⟨0, Nat.zero_le _, rfl, rfl⟩
  case round =>
    obtain ⟨k, hk, rfl, rfl⟩ := hrel
    have hlt0 : crcList n0 (l.take k) < 4294967296 := crcList_lt _ hn0'
    by_cases hlt : k < l.length
    · have hcell := Hc.out k hlt
      obtain ⟨m, hm⟩ : ∃ m, m = crcList n0 (l.take k) := ⟨_, rfl⟩
      have hsn : crcList n0 (l.take (k + 1)) = crcByte m l[k] := by rw [take_snoc l k hlt, crcList_snoc, hm]
      obtain ⟨c, hcc⟩ : ∃ c, c = l[k] := ⟨_, rfl⟩
      rw [← hcc] at hsn hcell
      have hc256 : c.toNat < 256 := c.toNat_lt
      rw [← hm] at hlt0 ⊢
      have hx : m ^^^ c.toNat < 4294967296 := by have : m ^^^ c.toNat < 2 ^ 32 := Nat.xor_lt_two_pow (by omega) (by omega); omega
      unfold crcByte at hsn
      obtain ⟨x, hxx⟩ : ∃ x, x = m ^^^ c.toNat := ⟨_, rfl⟩
      have e1 : bits .xor .u32 (m : Int) (c.toNat : Int) = (x : Int) := by rw [hxx]; exact u32_xor_nat _ _ hlt0 (by omega)
      rw [← hxx] at hsn hx
      have Hsn := Lib.hid hsn
      clear hm hsn hcc hxx
      go_wp2
      clear e1 hcell
      go_loop [0, 20] (fun r i => ∃ j : Nat, j ≤ 8 ∧ i = .int .i64 j ∧ r = .int .u32 (crcBits j x : Nat)) (fun _ i => 8 - (intOf i).toNat)
      case atStart => exact ⟨0, by omega, rfl, rfl⟩
      case round =>
        obtain ⟨j, hj, rfl, rfl⟩ := hrel
        by_cases hjlt : j < 8
        · have hb : crcBits j x < 4294967296 := crcBits_lt j hx
          have hs2 : crcBits (j + 1) x = crcBit (crcBits j x) := rfl
          obtain ⟨y, hy⟩ : ∃ y, y = crcBits j x := ⟨_, rfl⟩
          rw [← hy] at hb hs2 ⊢
          have Hs2 := Lib.hid hs2
          clear hs2 hy
          have e1 : bits .and .u32 (y : Int) 1 = ((y % 2 : Nat) : Int) := by have := u32_and_nat y 1 hb (by omega); rw [and_one] at this; exact this
          have e3 : bits .xor .u32 ((y : Int) / 2) 2197175160 = (((y / 2) ^^^ 2197175160 : Nat) : Int) := by
            have := u32_xor_nat (y / 2) 2197175160 (by omega) (by omega); rw [Int.natCast_ediv] at this; exact this
          by_cases hp : y % 2 = 1
          · have ht : ((y : Int) % 2 == 1) = true := by simp; omega
            have hb2 : crcBit y = (y / 2) ^^^ 2197175160 := by unfold crcBit; rw [if_pos hp]
            have Hb2 := Lib.hid hb2; clear hb2 hp
            go_wp2
            go_round
            case rel => exact ⟨j + 1, by omega, by go_num, by rw [Hs2.out, Hb2.out]⟩
            case measure => simp [intOf]; omega
          · have ht : ((y : Int) % 2 == 1) = false := by simp; omega
            have hb2 : crcBit y = y / 2 := by unfold crcBit; rw [if_neg hp]
            have Hb2 := Lib.hid hb2; clear hb2 hp
            go_wp2
            go_round
            case rel => exact ⟨j + 1, by omega, by go_num, by rw [Hs2.out, Hb2.out]; rfl⟩
            case measure => simp [intOf]; omega
        · obtain rfl : j = 8 := by omega
          go_wp2
          go_round
          case rel => exact ⟨k + 1, by omega, by go_num, by rw [Hsn.out]⟩
          case measure => simp [intOf]; omega
    · obtain rfl : k = l.length := by omega
      rw [List.take_length] at *
      have hfin : crcMore s l = 4294967295 - crcList n0 l := by unfold crcMore; rw [Hn0.out]
      obtain ⟨m, hm⟩ : ∃ m, m = crcList n0 l := ⟨_, rfl⟩
      rw [← hm] at hfin hlt0 ⊢
      have Hfin := Lib.hid hfin
      clear hfin hm
      have e0 : bits .xor .u32 IntKind.u32.max (m : Int) = ((4294967295 - m : Nat) : Int) := by rw [u32max]; exact u32_not m hlt0
      go_wp2
      go_ret
      exact ⟨by rw [Hfin.out]; rfl, rfl⟩

theorem more_nil (s : Nat) (hs : s < 4294967296) (a : Option Addr) (cap : Nat) (w : World) :
    Calls Try.prog 62 #[.int .u32 (s : Int), .slice a 0 cap] w fun e w' => e = .returned (.int .u32 (crcMore s [] : Nat)) ∧ w = w' := by
  obtain ⟨n0, hn0⟩ : ∃ n0, n0 = 4294967295 - s := ⟨_, rfl⟩
  have hn0' : n0 < 4294967296 := by omega
  have hfin : crcMore s [] = s := by unfold crcMore crcList; simp; omega
  have e0 : bits .xor .u32 IntKind.u32.max (s : Int) = (n0 : Int) := by rw [u32max, hn0]; exact u32_not s hs
  have e1 : bits .xor .u32 IntKind.u32.max (n0 : Int) = (s : Int) := by
    rw [u32max, u32_not n0 hn0']; omega
  rw [hfin]
  clear hn0 hfin
  go_enter Try.func62, Try.ntmps62
  go_wp2
  go_loop [0, 12] (fun r i => i = .int .i64 0 ∧ r = .int .u32 (n0 : Int)) (fun _ _ => 0)
  case atStart => exact ⟨rfl, rfl⟩
  case round =>
    obtain ⟨rfl, rfl⟩ := hrel
    go_wp2
    go_ret
    exact ⟨rfl, rfl⟩

theorem more_any (s : Nat) (hs : s < 4294967296) (v : Value) (l : List UInt8) (w : World) (h : IsBytes w v l) :
    Calls Try.prog 62 #[.int .u32 (s : Int), v] w fun e w' => e = .returned (.int .u32 (crcMore s l : Nat)) ∧ w = w' := by
  have hl := h.length_le
  rcases h with ⟨rfl, a, cap, rfl, _⟩ | ⟨b, off, cap, rfl, _, _, _, hc⟩
  · exact more_nil s hs a cap w
  · exact more_some s hs l b off cap w hl hc

theorem of_any (v : Value) (l : List UInt8) (w : World) (h : IsBytes w v l) :
    Calls Try.prog 36 #[v] w fun e w' => e = .returned (.int .u32 (crcMore 0 l : Nat)) ∧ w = w' := by
  have H := more_any 0 (by omega) v l w h
  obtain ⟨a, c, rfl⟩ := h.slice
  go_enter Try.func36, Try.ntmps36
  go_wp2_with fail
  refine H.mono ?_
  rintro e w' ⟨rfl, rfl⟩
  go_wp2_with fail
  go_ret
  exact ⟨rfl, rfl⟩
end Go.Proofs.Ytgmdhedabmkcoaa
