/- FieldBack. -/
import Derived.Test.YtmapdpocmpnokaaFieldL3
import Derived.Test.YtmapdpocmpnokaaFieldL2
import Derived.Test.YtmapdpocmpnokaaFieldP
namespace Go.Proofs.Ytmapdpocmpnokaa
open Go.RowKit

set_option maxHeartbeats 4000000 in
theorem fieldBack_walk (w : World) (v : Value) (ws : List Int) (hv : IsOnes intCell w v ws) (hr : ws.length * 8 ≤ 140737488351232) (_q : ∀ n ∈ ws, -9223372036854775808 ≤ n ∧ n ≤ 9223372036854775807)
    (u : Value) (ns : List Nat) (hu : IsOnes u64Cell w u ns) (_hr2 : ns.length * 8 ≤ 140737488351232) (q2 : ∀ n ∈ ns, n < 18446744073709551616)
    (t : Value) (b : List UInt8) (ht : IsBytes w t b) (hr3 : b.length * 1 ≤ 140737488351232) (_q3 : ∀ n ∈ b, True) :
    Calls Try.prog 9 #[v, u, t] w fun e w' => e = .returned (.bool true) ∧ Up w w' := by
  have Q2 := Lib.hid q2
  clear q2 _q _q3
  obtain ⟨a1, c1, rfl⟩ := hv.slice
  obtain ⟨a2, c2, rfl⟩ := hu.slice
  obtain ⟨a3, c3, rfl⟩ := ht.slice
  go_enter Try.func9, Try.ntmps9
  go_wp2_with fail
  refine (fieldAlive_walk _).mono ?_
  rintro e w1 ⟨rfl, up1⟩
  go_wp2_with fail
  refine (put_any w1 _ ws (hv.up up1) hr _ ns (hu.up up1) Q2.out).mono ?_
  rintro e w2 (⟨hok, v3, rfl, hv3, up2⟩ | ⟨hno, rfl, up2⟩)
  case inr =>
    have upA := up1.trans up2
    obtain ⟨wA, hwA⟩ : ∃ wA, wA = w2 := ⟨_, rfl⟩
    subst hwA
    clear hno
    go_wp2_with fail
    refine (get_any wA _ ws (hv.up upA) hr _ b (ht.up upA)).mono ?_
    rintro e w3 (⟨hok, v5, rfl, hv5, up3⟩ | ⟨hno, rfl, up3⟩)
    case inl =>
      have hput : okPut ws (getNums ws b) := ⟨(getNums_length ws b).symm, hok.1, fits_getNums ws b⟩
      have hlt := getNums_lt hok.1 b
      have hback := put_get ws b hok.2
      generalize getNums ws b = gn at *
      have Hput := Lib.hid hput
      have Hlt := Lib.hid hlt
      have Hback := Lib.hid hback
      clear hput hlt hback hok
      have upB := upA.trans up3
      have hv5 := hv5.ones
      obtain ⟨a5, c5, rfl⟩ := hv5.slice
      go_wp2_with fail
      refine (put_any w3 _ ws (hv.up upB) hr _ gn hv5 Hlt.out).mono ?_
      rintro e w4 (⟨_, v6, rfl, hv6, up4⟩ | ⟨hno, _⟩)
      case inr => exact absurd Hput.out hno
      rw [Hback.out] at hv6
      have hv6 := hv6.ones
      obtain ⟨a6, c6, rfl⟩ := hv6.slice
      have upC := upB.trans up4
      have k1 := toStr w4 _ _ hv6
      have k2 := toStr w4 _ _ (ht.up upC)
      clear hv5 hv6
      go_wp2_with (at_builtin; refine wpList_fresh_ones byteCell byteCell_one rfl (.tmp 67) (.tmp 68) 24 rfl 5 (.int .u8 0) 1 Try.underlying24 info_u8 rfl rfl (.slice a3 b.length c3) b rfl (ht.up upC) (by omega) ?_)
      intro v7 w5 hcop up5
      obtain ⟨a7, c7, rfl⟩ := hcop.ones.slice
      clear k1 k2
      go_wp2_with fail
      refine (split_any w5 _ b hcop.ones).mono ?_
      rintro e w6 (⟨ss, hs, v8, rfl, hv8, up6⟩ | ⟨hs, rfl, up6⟩)
      case inr =>
        clear hs
        go_wp2_with fail
        go_ret
        exact ⟨rfl, upC.trans (up5.trans up6)⟩
      have hsb := split_back hs
      have Hsb := Lib.hid hsb
      clear hsb hs hcop
      go_wp2_with fail
      refine (join_any w6 _ ss hv8.texts).mono ?_
      rintro e w7 (⟨_, v9, rfl, hv9, up7⟩ | ⟨hno, _⟩)
      case inr => exact absurd Hsb.out.1 hno
      rw [Hsb.out.2] at hv9
      have hv9 := hv9.ones
      obtain ⟨a9, c9, rfl⟩ := hv9.slice
      have upD := upC.trans (up5.trans (up6.trans up7))
      have k1 := toStr w7 _ _ hv9
      have k2 := toStr w7 _ _ (ht.up upD)
      clear hv9 hv8
      go_wp2_with fail
      go_ret
      exact ⟨by simp, upD⟩
    · clear hno
      have upC := upA.trans up3
      go_wp2_with (at_builtin; refine wpList_fresh_ones byteCell byteCell_one rfl (.tmp 67) (.tmp 68) 24 rfl 5 (.int .u8 0) 1 Try.underlying24 info_u8 rfl rfl (.slice a3 b.length c3) b rfl (ht.up upC) (by omega) ?_)
      intro v7 w5 hcop up5
      obtain ⟨a7, c7, rfl⟩ := hcop.ones.slice
      go_wp2_with fail
      refine (split_any w5 _ b hcop.ones).mono ?_
      rintro e w6 (⟨ss, hs, v8, rfl, hv8, up6⟩ | ⟨hs, rfl, up6⟩)
      case inr =>
        clear hs
        go_wp2_with fail
        go_ret
        exact ⟨rfl, upC.trans (up5.trans up6)⟩
      have hsb := split_back hs
      have Hsb := Lib.hid hsb
      clear hsb hs hcop
      go_wp2_with fail
      refine (join_any w6 _ ss hv8.texts).mono ?_
      rintro e w7 (⟨_, v9, rfl, hv9, up7⟩ | ⟨hno, _⟩)
      case inr => exact absurd Hsb.out.1 hno
      rw [Hsb.out.2] at hv9
      have hv9 := hv9.ones
      obtain ⟨a9, c9, rfl⟩ := hv9.slice
      have upD := upC.trans (up5.trans (up6.trans up7))
      have k1 := toStr w7 _ _ hv9
      have k2 := toStr w7 _ _ (ht.up upD)
      clear hv9 hv8
      go_wp2_with fail
      go_ret
      exact ⟨by simp, upD⟩
  · have hv3 := hv3.ones
    have hgp := get_put ws ns hok.1 hok.2.2
    have hog : okGet ws (putBytes ws ns) := ⟨hok.2.1, putBytes_length ws ns hok.1⟩
    generalize putBytes ws ns = pb at *
    have Hgp := Lib.hid hgp
    have Hog := Lib.hid hog
    clear hgp hog hok
    obtain ⟨a4, c4, rfl⟩ := hv3.slice
    have up02 := up1.trans up2
    go_wp2_with fail
    refine (get_any w2 _ ws (hv.up up02) hr _ pb hv3).mono ?_
    rintro e w3 (⟨_, v5, rfl, hv5, up3⟩ | ⟨hno, _⟩)
    case inr => exact absurd Hog.out hno
    rw [Hgp.out] at hv5
    have hv5 := hv5.ones
    obtain ⟨a5, c5, rfl⟩ := hv5.slice
    have up03 := up02.trans up3
    have HS := Lib.hid (sameNums_same w3 _ ns hv5 _ (hu.up up03))
    clear hv5 hv3
    go_wp2_with fail
    refine HS.out.mono ?_
    rintro e w8 ⟨rfl, nq, rfl⟩
    have upA : Up w (w3.drewN nq) := up03.drewN nq
    generalize w3.drewN nq = wA at *
    go_wp2_with fail
    refine (get_any wA _ ws (hv.up upA) hr _ b (ht.up upA)).mono ?_
    rintro e w3 (⟨hok, v5, rfl, hv5, up3⟩ | ⟨hno, rfl, up3⟩)
    case inl =>
      have hput : okPut ws (getNums ws b) := ⟨(getNums_length ws b).symm, hok.1, fits_getNums ws b⟩
      have hlt := getNums_lt hok.1 b
      have hback := put_get ws b hok.2
      generalize getNums ws b = gn at *
      have Hput := Lib.hid hput
      have Hlt := Lib.hid hlt
      have Hback := Lib.hid hback
      clear hput hlt hback hok
      have upB := upA.trans up3
      have hv5 := hv5.ones
      obtain ⟨a5, c5, rfl⟩ := hv5.slice
      go_wp2_with fail
      refine (put_any w3 _ ws (hv.up upB) hr _ gn hv5 Hlt.out).mono ?_
      rintro e w4 (⟨_, v6, rfl, hv6, up4⟩ | ⟨hno, _⟩)
      case inr => exact absurd Hput.out hno
      rw [Hback.out] at hv6
      have hv6 := hv6.ones
      obtain ⟨a6, c6, rfl⟩ := hv6.slice
      have upC := upB.trans up4
      have k1 := toStr w4 _ _ hv6
      have k2 := toStr w4 _ _ (ht.up upC)
      clear hv5 hv6
      go_wp2_with (at_builtin; refine wpList_fresh_ones byteCell byteCell_one rfl (.tmp 67) (.tmp 68) 24 rfl 5 (.int .u8 0) 1 Try.underlying24 info_u8 rfl rfl (.slice a3 b.length c3) b rfl (ht.up upC) (by omega) ?_)
      intro v7 w5 hcop up5
      obtain ⟨a7, c7, rfl⟩ := hcop.ones.slice
      clear k1 k2
      go_wp2_with fail
      refine (split_any w5 _ b hcop.ones).mono ?_
      rintro e w6 (⟨ss, hs, v8, rfl, hv8, up6⟩ | ⟨hs, rfl, up6⟩)
      case inr =>
        clear hs
        go_wp2_with fail
        go_ret
        exact ⟨rfl, upC.trans (up5.trans up6)⟩
      have hsb := split_back hs
      have Hsb := Lib.hid hsb
      clear hsb hs hcop
      go_wp2_with fail
      refine (join_any w6 _ ss hv8.texts).mono ?_
      rintro e w7 (⟨_, v9, rfl, hv9, up7⟩ | ⟨hno, _⟩)
      case inr => exact absurd Hsb.out.1 hno
      rw [Hsb.out.2] at hv9
      have hv9 := hv9.ones
      obtain ⟨a9, c9, rfl⟩ := hv9.slice
      have upD := upC.trans (up5.trans (up6.trans up7))
      have k1 := toStr w7 _ _ hv9
      have k2 := toStr w7 _ _ (ht.up upD)
      clear hv9 hv8
      go_wp2_with fail
      go_ret
      exact ⟨by simp, upD⟩
    · clear hno
      have upC := upA.trans up3
      go_wp2_with (at_builtin; refine wpList_fresh_ones byteCell byteCell_one rfl (.tmp 67) (.tmp 68) 24 rfl 5 (.int .u8 0) 1 Try.underlying24 info_u8 rfl rfl (.slice a3 b.length c3) b rfl (ht.up upC) (by omega) ?_)
      intro v7 w5 hcop up5
      obtain ⟨a7, c7, rfl⟩ := hcop.ones.slice
      go_wp2_with fail
      refine (split_any w5 _ b hcop.ones).mono ?_
      rintro e w6 (⟨ss, hs, v8, rfl, hv8, up6⟩ | ⟨hs, rfl, up6⟩)
      case inr =>
        clear hs
        go_wp2_with fail
        go_ret
        exact ⟨rfl, upC.trans (up5.trans up6)⟩
      have hsb := split_back hs
      have Hsb := Lib.hid hsb
      clear hsb hs hcop
      go_wp2_with fail
      refine (join_any w6 _ ss hv8.texts).mono ?_
      rintro e w7 (⟨_, v9, rfl, hv9, up7⟩ | ⟨hno, _⟩)
      case inr => exact absurd Hsb.out.1 hno
      rw [Hsb.out.2] at hv9
      have hv9 := hv9.ones
      obtain ⟨a9, c9, rfl⟩ := hv9.slice
      have upD := upC.trans (up5.trans (up6.trans up7))
      have k1 := toStr w7 _ _ hv9
      have k2 := toStr w7 _ _ (ht.up upD)
      clear hv9 hv8
      go_wp2_with fail
      go_ret
      exact ⟨by simp, upD⟩
end Go.Proofs.Ytmapdpocmpnokaa
