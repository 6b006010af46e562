/- FieldTexts. -/
import Derived.Test.YtmapdpocmpnokaaFieldR
import Derived.Test.YtmapdpocmpnokaaOpenT
namespace Go.Proofs.Ytmapdpocmpnokaa
open Go.RowKit

set_option maxHeartbeats 2000000 in
theorem fieldTexts_walk (w : World) (v : Value) (ts : List (List UInt8)) (hv : IsTexts w v ts) (u : Value) (b : List UInt8) (hu : IsBytes w u b) (hr2 : b.length * 1 ≤ 140737488351232) (_q2 : ∀ n ∈ b, True) :
    Calls Try.prog 7 #[v, u] w fun e w' => e = .returned (.bool true) ∧ Up w w' := by
  obtain ⟨a1, c1, rfl⟩ : ∃ a c, v = .slice a ts.length c := by
    obtain ⟨vs, h1, h2, _⟩ := hv
    obtain ⟨a, c, rfl⟩ := h2.slice
    exact ⟨a, c, by rw [h1]⟩
  obtain ⟨a2, c2, rfl⟩ := hu.slice
  by_cases hbig : 70000 < ts.length
  · go_enter Try.func7, Try.ntmps7
    go_wp2_with fail
    refine (fieldAlive_walk _).mono ?_
    rintro e w1 ⟨rfl, up1⟩
    go_wp2_with fail
    go_ret
    exact ⟨rfl, up1⟩
  -- the second half: the texts of the bytes
  have half : ∀ (w4 : World), Up w w4 → ∀ R : Ending → World → Prop, (∀ e w5, SplitPost b w4 e w5 → R e w5) → Calls Try.prog 19 #[.slice a2 b.length c2] w4 R :=
    fun w4 h R hR => (refSplit_any w4 _ b (hu.up h) (by omega)).mono hR
  have Half := Lib.hid half
  clear half
  go_enter Try.func7, Try.ntmps7
  go_wp2_with fail
  refine (fieldAlive_walk _).mono ?_
  rintro e w1 ⟨rfl, up1⟩
  go_wp2_with fail
  refine (join_any w1 _ ts (hv.up up1)).mono ?_
  rintro e w2 (⟨hok, v2, rfl, hv2, up2⟩ | ⟨hno, rfl, up2⟩)
  · have Hok := Lib.hid hok
    clear hok
    have hv2 := hv2.ones
    generalize hjb : joinBytes ts = jb at *
    have Hjb := Lib.hid hjb
    clear hjb
    obtain ⟨a3, c3, rfl⟩ := hv2.slice
    have up02 := up1.trans up2
    go_wp2_with fail
    refine (refJoin_any w2 _ ts (hv.up up02)).mono ?_
    rintro e w3 (⟨_, v3, rfl, hv3, up3⟩ | ⟨hno, _⟩)
    case inr => exact absurd Hok.out hno
    rw [Hjb.out] at hv3
    have hv3 := hv3.ones
    have hv2 := hv2.up up3
    obtain ⟨a4, c4, rfl⟩ := hv3.slice
    have up03 := up02.trans up3
    have hu3 := hu.up up03
    go_wp2_with (at_builtin; refine wpList_fresh_ones byteCell byteCell_one rfl (.tmp 29) (.tmp 30) 24 rfl 5 (.int .u8 0) 1 Try.underlying24 info_u8 rfl rfl (.slice a2 b.length c2) b rfl hu3 (by omega) ?_)
    intro v4 w4 hcop up4
    have up04 := up03.trans up4
    obtain ⟨a5, c5, rfl⟩ := hcop.ones.slice
    have hv2 := hv2.up up4
    have hv3 := hv3.up up4
    go_wp2_with fail
    refine (split_any w4 _ b hcop.ones).mono ?_
    rintro e w5 (⟨ss, hs, v5, rfl, hv5, up5⟩ | ⟨hs, rfl, up5⟩)
    · have Hs := Lib.hid hs
      clear hs
      have hv5 := hv5.texts
      have hv2 := hv2.up up5
      have hv3 := hv3.up up5
      go_wp2_with fail
      refine Half.out w5 (up04.trans up5) _ ?_
      rintro e w6 (⟨ss6, hs6, v6, rfl, hv6, up6⟩ | ⟨hs6, _⟩)
      case inr => rw [Hs.out] at hs6; cases hs6
      rw [Hs.out] at hs6
      obtain rfl := Option.some.inj hs6
      have hv5 := hv5.up up6
      have k1 := toStr w6 _ _ (hv2.up up6)
      have k2 := toStr w6 _ _ (hv3.up up6)
      have HS := Lib.hid (sameTexts_same w6 _ ss hv5 _ hv6.texts)
      clear hv5 hv6 hv2 hv3 hcop hu3 hv hu hs6
      go_wp2_with fail
      refine HS.out.mono ?_
      rintro e w7 ⟨rfl, nq, rfl⟩
      go_wp2_with fail
      go_ret
      exact ⟨rfl, (up04.trans (up5.trans up6)).drewN _⟩
    · have Hs := Lib.hid hs
      clear hs
      have hv2 := hv2.up up5
      have hv3 := hv3.up up5
      go_wp2_with fail
      refine Half.out w5 (up04.trans up5) _ ?_
      rintro e w6 (⟨ss6, hs6, _⟩ | ⟨_, rfl, up6⟩)
      case inl => rw [Hs.out] at hs6; cases hs6
      have k1 := toStr w6 _ _ (hv2.up up6)
      have k2 := toStr w6 _ _ (hv3.up up6)
      have HS := Lib.hid (sameTexts_same w6 _ [] (OwnTexts.nil w6 0).texts _ (OwnTexts.nil w6 0).texts)
      clear hv2 hv3 hcop hu3 hv hu
      go_wp2_with fail
      refine HS.out.mono ?_
      rintro e w7 ⟨rfl, nq, rfl⟩
      go_wp2_with fail
      go_ret
      exact ⟨rfl, (up04.trans (up5.trans up6)).drewN _⟩
  · have Hno := Lib.hid hno
    clear hno
    have up02 := up1.trans up2
    go_wp2_with fail
    refine (refJoin_any w2 _ ts (hv.up up02)).mono ?_
    rintro e w3 (⟨hok, _⟩ | ⟨_, rfl, up3⟩)
    case inl => exact absurd hok Hno.out
    have up03 := up02.trans up3
    have hu3 := hu.up up03
    go_wp2_with (at_builtin; refine wpList_fresh_ones byteCell byteCell_one rfl (.tmp 29) (.tmp 30) 24 rfl 5 (.int .u8 0) 1 Try.underlying24 info_u8 rfl rfl (.slice a2 b.length c2) b rfl hu3 (by omega) ?_)
    intro v4 w4 hcop up4
    have up04 := up03.trans up4
    obtain ⟨a5, c5, rfl⟩ := hcop.ones.slice
    go_wp2_with fail
    refine (split_any w4 _ b hcop.ones).mono ?_
    rintro e w5 (⟨ss, hs, v5, rfl, hv5, up5⟩ | ⟨hs, rfl, up5⟩)
    · have Hs := Lib.hid hs
      clear hs
      have hv5 := hv5.texts
      go_wp2_with fail
      refine Half.out w5 (up04.trans up5) _ ?_
      rintro e w6 (⟨ss6, hs6, v6, rfl, hv6, up6⟩ | ⟨hs6, _⟩)
      case inr => rw [Hs.out] at hs6; cases hs6
      rw [Hs.out] at hs6
      obtain rfl := Option.some.inj hs6
      have hv5 := hv5.up up6
      have k1 := toStr w6 _ _ (IsOnes.nil _ w6)
      have HS := Lib.hid (sameTexts_same w6 _ ss hv5 _ hv6.texts)
      clear hv5 hv6 hcop hu3 hv hu hs6
      go_wp2_with fail
      refine HS.out.mono ?_
      rintro e w7 ⟨rfl, nq, rfl⟩
      go_wp2_with fail
      go_ret
      exact ⟨rfl, (up04.trans (up5.trans up6)).drewN _⟩
    · have Hs := Lib.hid hs
      clear hs
      go_wp2_with fail
      refine Half.out w5 (up04.trans up5) _ ?_
      rintro e w6 (⟨ss6, hs6, _⟩ | ⟨_, rfl, up6⟩)
      case inl => rw [Hs.out] at hs6; cases hs6
      have k1 := toStr w6 _ _ (IsOnes.nil _ w6)
      have HS := Lib.hid (sameTexts_same w6 _ [] (OwnTexts.nil w6 0).texts _ (OwnTexts.nil w6 0).texts)
      clear hcop hu3 hv hu
      go_wp2_with fail
      refine HS.out.mono ?_
      rintro e w7 ⟨rfl, nq, rfl⟩
      go_wp2_with fail
      go_ret
      exact ⟨rfl, (up04.trans (up5.trans up6)).drewN _⟩
end Go.Proofs.Ytmapdpocmpnokaa
