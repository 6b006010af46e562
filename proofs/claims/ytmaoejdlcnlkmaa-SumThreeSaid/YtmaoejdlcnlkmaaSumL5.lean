/- SumThree: the walk. -/
import Derived.Test.YtmaoejdlcnlkmaaSumL4
import Derived.Deep.RegionLaw
import Derived.Deep.LoopGhost
namespace Go.Proofs.Ytmaoejdlcnlkmaa
open Go.RowKit

theorem get_of_ones {α : Type} {f : α → Value} {w : World} {a : Option Addr} {cap : Nat} {l : List α} {n : Nat} (h : IsOnes f w (.slice a n cap) l) (hn : n = l.length) (h0 : 0 < l.length) :
    ∃ b off, a = some ⟨b, off, none⟩ ∧ b < w.heap.size ∧ ∀ i (h : i < l.length), w.cell? ⟨b, off + i, none⟩ = some (f l[i]) := by
  rcases h with ⟨rfl, _⟩ | ⟨b, off, cap', hv, _, _, _, hc⟩
  · simp at h0
  · simp at hv
    exact ⟨b, off, hv.1, World.block_lt_of_cell? w _ (hc 0 h0), hc⟩

def three (a b c : List UInt8) : List UInt8 := (a.zipWith (· ^^^ ·) b).zipWith (· ^^^ ·) c
theorem three_length (a b c : List UInt8) (h1 : a.length = b.length) (h2 : b.length = c.length) : (three a b c).length = a.length := by simp [three]; omega
theorem three_snoc (a b c : List UInt8) (k : Nat) (h1 : a.length = b.length) (h2 : b.length = c.length) (hk : k < a.length) :
    (three a b c).take (k + 1) = (three a b c).take k ++ [a[k] ^^^ b[k] ^^^ c[k]] := by
  rw [take_snoc _ k (by rw [three_length a b c h1 h2]; exact hk)]
  simp [three]

set_option maxHeartbeats 1000000 in
theorem sumThree_loop (w : World) (u1 : Value) (l1 : List UInt8) (h1 : IsBytes w u1 l1) (u2 : Value) (l2 : List UInt8) (h2 : IsBytes w u2 l2) (u3 : Value) (l3 : List UInt8) (h3 : IsBytes w u3 l3)
    (e1 : l1.length = l2.length) (e2 : l2.length = l3.length) (e3 : l1.length ≤ 5000) :
    Calls Try.prog 7 #[u1, u2, u3] w fun e w' => e = .returned (.bool true) ∧ Up w w' := by
  obtain ⟨a1, c1, rfl⟩ := h1.slice
  obtain ⟨a2, c2, rfl⟩ := h2.slice
  obtain ⟨a3, c3, rfl⟩ := h3.slice
  obtain ⟨n, hn⟩ : ∃ n, n = l1.length := ⟨_, rfl⟩
  rw [← hn] at e1 e3 h1
  rw [← e1] at e2 h2
  rw [← e2] at h3
  have Hn := Lib.hid hn
  have E1 := Lib.hid e1
  have E2 := Lib.hid e2
  rw [← hn, ← e1, ← e2]
  clear hn e1 e2
  have t1 : ((n : Int) != (n : Int)) = false := by simp
  go_enter Try.func7, Try.ntmps7
  go_wp2_with fail
  refine (sumNames_walk _).mono ?_
  rintro e w2 ⟨rfl, up2⟩
  go_wp2_with fail
  go_loopw [7, 31] (fun v i wr => ∃ k : Nat, k ≤ n ∧ i = .int .i64 k ∧ Own byteCell 5 wr w2.heap.size v ((three l1 l2 l3).take k) ∧ Up w2 wr) (fun _ i _ => n - (intOf i).toNat)
  case atStart => exact ⟨0, by omega, rfl, Own.made byteCell _ w2 _ (Nat.le_refl _), up_alloc _ _⟩
  case round =>
    obtain ⟨k, hk, rfl, hown, upr⟩ := hrel
    have hlen : ((three l1 l2 l3).take k).length ≤ k := List.length_take_le _ _
    by_cases hlt : k < n
    · obtain ⟨b1, o1, rfl, hb1, hc1⟩ := get_of_ones h1 Hn.out (by have := Hn.out; omega)
      obtain ⟨b2, o2, rfl, hb2, hc2⟩ := get_of_ones h2 E1.out (by have := E1.out; omega)
      obtain ⟨b3, o3, rfl, hb3, hc3⟩ := get_of_ones h3 E2.out (by have := E2.out; omega)
      have d1 := (up2.trans upr).cell (hc1 k (by have := Hn.out; omega))
      have d2 := (up2.trans upr).cell (hc2 k (by have := E1.out; omega))
      have d3 := (up2.trans upr).cell (hc3 k (by have := E2.out; omega))
      have hsn := three_snoc l1 l2 l3 k (Hn.out.symm.trans E1.out) (E1.out.symm.trans E2.out) (by have := Hn.out; omega)
      clear hc1 hc2 hc3
      generalize (l1[k]'(by have := Hn.out; omega)) = x1 at *
      generalize (l2[k]'(by have := E1.out; omega)) = x2 at *
      generalize (l3[k]'(by have := E2.out; omega)) = x3 at *
      have Hsn := Lib.hid hsn
      clear hsn
      unfold byteCell at d1 d2 d3
      have q1 : bits .xor .u8 (x1.toNat : Int) (x2.toNat : Int) = ((x1 ^^^ x2).toNat : Int) := by rw [u8_xor_nat _ _ x1.toNat_lt x2.toNat_lt, UInt8.toNat_xor]
      have q2 : bits .xor .u8 ((x1 ^^^ x2).toNat : Int) (x3.toNat : Int) = ((x1 ^^^ x2 ^^^ x3).toNat : Int) := by rw [u8_xor_nat _ _ (x1 ^^^ x2).toNat_lt x3.toNat_lt, UInt8.toNat_xor (x1 ^^^ x2)]
      generalize (x1 ^^^ x2) = y at *
      generalize (y ^^^ x3) = z at *
      go_wp2_with fail
      go_region_law ((refine step_append_ones byteCell byteCell_one rfl (.tmp 34) (.tmp 49) 24 rfl w2.heap.size 5 (.int .u8 0) 1 Try.underlying24 info_u8 rfl _ _ rfl (hown.up ((Up.refl wr).drew.alloc _)) (.slice (some ⟨wr.heap.size, 0, none⟩) 1 1) [z] rfl (IsOnes.lit wr.drew #[.int .u8 (z.toNat : Int)] 5 (0, 0) [z] 1 rfl (by unfold maxLen; omega) rfl) (by simp; omega) (by simp; omega) (Nat.le_trans upr.size ((Up.refl wr).drew.alloc _).size) ?_; intro v' w3 hown3 _ hb3))
      all_goals
        go_wp2_with fail
        go_roundw
        case rel => exact ⟨k + 1, by omega, by go_num, by rw [Hsn.out]; exact hown3, (upr.alloc _).drew.below_trans hb3 (Nat.le_refl _)⟩
        case measure => simp [intOf]; omega
    · obtain rfl : k = n := by omega
      have hfull : (three l1 l2 l3).take k = three l1 l2 l3 := List.take_of_length_le (by rw [three_length l1 l2 l3 (Hn.out.symm.trans E1.out) (E1.out.symm.trans E2.out)]; have := Hn.out; omega)
      rw [hfull] at hown
      have hd := hown.ones
      have hlen3 := three_length l1 l2 l3 (Hn.out.symm.trans E1.out) (E1.out.symm.trans E2.out)
      rw [← Hn.out] at hlen3
      obtain ⟨a4, c4, hv⟩ := hd.slice
      rw [hlen3] at hv
      subst hv
      have hsum := crc_three l1 l2 l3 (Hn.out.symm.trans E1.out) (E1.out.symm.trans E2.out)
      have r1 := crcMore_lt 0 l1
      have r2 := crcMore_lt 0 l2
      have r3 := crcMore_lt 0 l3
      have r12 : crcMore 0 l1 ^^^ crcMore 0 l2 < 4294967296 := by have : crcMore 0 l1 ^^^ crcMore 0 l2 < 2 ^ 32 := Nat.xor_lt_two_pow (by omega) (by omega); omega
      have q1 : bits .xor .u32 (crcMore 0 l1 : Int) (crcMore 0 l2 : Int) = ((crcMore 0 l1 ^^^ crcMore 0 l2 : Nat) : Int) := u32_xor_nat _ _ r1 r2
      have q2 : bits .xor .u32 ((crcMore 0 l1 ^^^ crcMore 0 l2 : Nat) : Int) (crcMore 0 l3 : Int) = (crcMore 0 (three l1 l2 l3) : Int) := by unfold three; rw [hsum]; exact u32_xor_nat _ _ r12 r3
      have z1 := h1.up (up2.trans upr)
      have z2 := h2.up (up2.trans upr)
      have z3 := h3.up (up2.trans upr)
      have hup := up2.trans upr
      have o1 := of_any _ _ _ hd
      have o2 := of_any _ _ _ z1
      have o3 := of_any _ _ _ z2
      have o4 := of_any _ _ _ z3
      clear hsum hfull hlen3 hd hown hlen z1 z2 z3 h1 h2 h3 r1 r2 r3 r12
      generalize crcMore 0 l1 ^^^ crcMore 0 l2 = y12 at *
      generalize crcMore 0 (three l1 l2 l3) = y123 at *
      generalize crcMore 0 l1 = y1 at *
      generalize crcMore 0 l2 = y2 at *
      generalize crcMore 0 l3 = y3 at *
      go_wp2_with fail
      refine o1.mono ?_
      rintro e w4 ⟨rfl, rfl⟩
      go_wp2_with fail
      refine o2.mono ?_
      rintro e w4 ⟨rfl, rfl⟩
      go_wp2_with fail
      refine o3.mono ?_
      rintro e w4 ⟨rfl, rfl⟩
      go_wp2_with fail
      refine o4.mono ?_
      rintro e w4 ⟨rfl, rfl⟩
      go_wp2_with fail
      go_ret
      exact ⟨by simp, hup⟩

set_option maxHeartbeats 400000 in
theorem sumThree_walk (w : World) (u1 : Value) (l1 : List UInt8) (h1 : IsBytes w u1 l1) (_r1 : l1.length * 1 ≤ 140737488351232) (_q1 : ∀ x ∈ l1, True)
    (u2 : Value) (l2 : List UInt8) (h2 : IsBytes w u2 l2) (_r2 : l2.length * 1 ≤ 140737488351232) (_q2 : ∀ x ∈ l2, True)
    (u3 : Value) (l3 : List UInt8) (h3 : IsBytes w u3 l3) (_r3 : l3.length * 1 ≤ 140737488351232) (_q3 : ∀ x ∈ l3, True) :
    Calls Try.prog 7 #[u1, u2, u3] w fun e w' => e = .returned (.bool true) ∧ Up w w' := by
  by_cases hall : l1.length = l2.length ∧ l2.length = l3.length ∧ l1.length ≤ 5000
  · exact sumThree_loop w u1 l1 h1 u2 l2 h2 u3 l3 h3 hall.1 hall.2.1 hall.2.2
  · obtain ⟨a1, c1, rfl⟩ := h1.slice
    obtain ⟨a2, c2, rfl⟩ := h2.slice
    obtain ⟨a3, c3, rfl⟩ := h3.slice
    generalize l1.length = n1 at *
    generalize l2.length = n2 at *
    generalize l3.length = n3 at *
    by_cases t1 : n1 = n2
    · subst t1
      have b1 : ((n1 : Int) != (n1 : Int)) = false := by simp
      by_cases t2 : n1 = n3
      · subst t2
        have b3 : 5000 < n1 := by omega
        clear hall
        go_enter Try.func7, Try.ntmps7
        go_wp2_with fail
        refine (sumNames_walk _).mono ?_
        rintro e w2 ⟨rfl, up2⟩
        go_wp2_with fail
        go_ret
        exact ⟨rfl, up2⟩
      · have b2 : ((n1 : Int) != (n3 : Int)) = true := by simp; omega
        clear hall t2
        go_enter Try.func7, Try.ntmps7
        go_wp2_with fail
        refine (sumNames_walk _).mono ?_
        rintro e w2 ⟨rfl, up2⟩
        go_wp2_with fail
        go_ret
        exact ⟨rfl, up2⟩
    · have b1 : ((n1 : Int) != (n2 : Int)) = true := by simp; omega
      clear hall t1
      go_enter Try.func7, Try.ntmps7
      go_wp2_with fail
      refine (sumNames_walk _).mono ?_
      rintro e w2 ⟨rfl, up2⟩
      go_wp2_with fail
      go_ret
      exact ⟨rfl, up2⟩
end Go.Proofs.Ytmaoejdlcnlkmaa
