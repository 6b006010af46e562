/- FieldCuts, FieldBack. -/
import Derived.Test.YtmapdpocmpnokaaFieldL3
import Derived.Test.YtmapdpocmpnokaaFieldL2
import Derived.Test.YtmapdpocmpnokaaFieldP
namespace Go.Proofs.Ytmapdpocmpnokaa
open Go.RowKit

set_option maxHeartbeats 2000000 in
theorem fieldCuts_walk (w : World) (v : Value) (ts : List (List UInt8)) (hv : IsTexts w v ts) (cut : Int) (hcut : -9223372036854775808 ≤ cut ∧ cut ≤ 9223372036854775807) :
    Calls Try.prog 8 #[v, .int .i64 cut] w fun e w' => e = .returned (.bool true) ∧ Up w w' := by
  obtain ⟨a1, c1, rfl⟩ : ∃ a c, v = .slice a ts.length c := by
    obtain ⟨vs, h1, h2, _⟩ := hv
    obtain ⟨a, c, rfl⟩ := h2.slice
    exact ⟨a, c, by rw [h1]⟩
  by_cases hbig : 100 < ts.length
  · go_enter Try.func8, Try.ntmps8
    go_wp2_with fail
    refine (fieldAlive_walk _).mono ?_
    rintro e w1 ⟨rfl, up1⟩
    go_wp2_with fail
    go_ret
    exact ⟨rfl, up1⟩
  by_cases hneg : cut < 0
  · go_enter Try.func8, Try.ntmps8
    go_wp2_with fail
    refine (fieldAlive_walk _).mono ?_
    rintro e w1 ⟨rfl, up1⟩
    go_wp2_with fail
    refine (join_any w1 _ ts (hv.up up1)).mono ?_
    rintro e w2 (⟨_, v2, rfl, hv2, up2⟩ | ⟨_, rfl, up2⟩)
    · go_wp2_with fail
      go_ret
      exact ⟨rfl, up1.trans up2⟩
    · go_wp2_with fail
      go_ret
      exact ⟨rfl, up1.trans up2⟩
  obtain ⟨k, rfl⟩ := Int.eq_ofNat_of_zero_le (show 0 ≤ cut by omega)
  go_enter Try.func8, Try.ntmps8
  go_wp2_with fail
  refine (fieldAlive_walk _).mono ?_
  rintro e w1 ⟨rfl, up1⟩
  go_wp2_with fail
  refine (join_any w1 _ ts (hv.up up1)).mono ?_
  rintro e w2 (⟨hok, v2, rfl, hv2, up2⟩ | ⟨_, rfl, up2⟩)
  case inr =>
    go_wp2_with fail
    go_ret
    exact ⟨rfl, up1.trans up2⟩
  have up02 := up1.trans up2
  have hb2 := hv2.ones
  have hjl := joinBytes_le hok
  have hs0 := split_join ts hok []
  have hs7 := split_join ts hok [7]
  have hsc := split_cut ts hok
  rw [List.append_nil] at hs0
  simp only [if_true] at hs0
  rw [if_neg (by simp)] at hs7
  generalize joinBytes ts = jb at *
  have Hs0 := Lib.hid hs0
  have Hs7 := Lib.hid hs7
  have Hsc := Lib.hid hsc
  clear hs0 hs7 hsc hok hv2
  obtain ⟨a3, c3, rfl⟩ := hb2.slice
  have hcap : jb.length ≤ c3 := by
    rcases hb2 with ⟨hb, _⟩ | ⟨bb, oo, cc, h1, _, h2, _⟩
    · rw [hb]; simp
    · simp at h1; omega
  go_wp2_with (at_builtin; refine wpList_fresh_ones byteCell byteCell_one rfl (.tmp 30) (.tmp 31) 24 rfl 5 (.int .u8 0) 1 Try.underlying24 info_u8 rfl rfl (.slice a3 jb.length c3) jb rfl hb2 (by omega) ?_)
  intro v3 w3 hcop3 up3
  have hb3 := hb2.up up3
  obtain ⟨a4, c4, rfl⟩ := hcop3.ones.slice
  go_wp2_with fail
  refine (split_any w3 _ jb hcop3.ones).mono ?_
  rintro e w4 (⟨ss, hs, v4, rfl, hv4, up4⟩ | ⟨hs, _⟩)
  case inr => rw [Hs0.out] at hs; cases hs
  rw [Hs0.out] at hs
  obtain rfl := Option.some.inj hs
  have hv4 := hv4.texts
  have hb4 := hb3.up up4
  clear hcop3 hs
  go_wp2_with (at_builtin; refine wpList_fresh_ones byteCell byteCell_one rfl (.tmp 37) (.tmp 38) 24 rfl 5 (.int .u8 0) 1 Try.underlying24 info_u8 rfl rfl (.slice a3 jb.length c3) jb rfl hb4 (by omega) ?_)
  intro v5 w5 hcop5 up5
  obtain ⟨a5, c5, rfl⟩ := hcop5.ones.slice
  go_wp2_with (at_builtin; refine wpList_append_ones byteCell byteCell_one rfl (.tmp 39) (.tmp 40) 24 rfl w4.heap.size 5 (.int .u8 0) 1 Try.underlying24 info_u8 rfl _ _ rfl (hcop5.up (up_alloc w5 _)) (.slice (some ⟨w5.heap.size, 0, none⟩) 1 1) [7] rfl (IsOnes.lit w5 #[.int .u8 7] 5 (0, 0) [7] 1 rfl (by unfold maxLen; omega) rfl) (by simp; omega) (by simp; omega) ((up5.alloc _).size) ?_)
  intro v6 w6 hcop6 _ hbl6
  have up6 : Up w4 w6 := (up5.alloc _).below_trans hbl6 (Nat.le_refl _)
  have hcop6 := hcop6.ones
  generalize jb ++ [7] = jb7 at *
  obtain ⟨a6, c6, rfl⟩ := hcop6.slice
  have hb6 := hb4.up up6
  have hv6 := hv4.up up6
  clear hcop5
  go_wp2_with fail
  refine (split_any w6 _ jb7 hcop6).mono ?_
  rintro e w7 (⟨ss, hs, _⟩ | ⟨_, rfl, up7⟩)
  case inl => rw [Hs7.out] at hs; cases hs
  have up07 : Up w w7 := up02.trans (up3.trans (up4.trans (up6.trans up7)))
  have hb7 := hb6.up up7
  have HS := Lib.hid (sameTexts_same w7 _ ts (hv6.up up7) _ (hv.up up07))
  clear hcop6 hb2 hb3 hb4 hb6 hv4 hv6 hv
  go_wp2_with fail
  refine HS.out.mono ?_
  rintro e w8 ⟨rfl, nq, rfl⟩
  have up08 : Up w (w7.drewN nq) := up07.drewN nq
  have hb8 := hb7.up ((Up.refl w7).drewN nq)
  generalize w7.drewN nq = w8 at *
  by_cases hge : jb.length ≤ k
  · go_wp2_with fail
    go_ret
    exact ⟨rfl, up08⟩
  have hsl : ∀ W, (Instr.slice 24 (.slice a3 jb.length c3) none (some (.int .i64 (k : Int))) none).run Try.prog W = .ok (pieceOf a3 0 k c3) W := run_piece_to (P := Try.prog) 24 bytes_elem bytes_size a3 jb.length c3 k (by omega)
  have hpc := hb8.piece (lo := 0) (hi := k) (by omega) (by omega)
  rw [List.drop_zero] at hpc
  have hlk : (jb.take k).length * 1 ≤ 140737488355328 := by simp; omega
  have hno := Hsc.out k (by omega)
  have Hno := Lib.hid hno
  generalize jb.take k = jk at *
  clear hno hb7 hb8
  go_wp2_with (at_builtin; refine wpList_fresh_ones byteCell byteCell_one rfl (.tmp 62) (.tmp 65) 24 rfl 5 (.int .u8 0) 1 Try.underlying24 info_u8 rfl rfl (pieceOf a3 0 k c3) jk rfl hpc hlk ?_)
  intro v9 w9 hcop9 up9
  obtain ⟨a9, c9, rfl⟩ := hcop9.ones.slice
  go_wp2_with fail
  refine (split_any w9 _ jk hcop9.ones).mono ?_
  rintro e w10 (⟨ss, hs, _⟩ | ⟨_, rfl, up10⟩)
  case inl => rw [Hno.out] at hs; cases hs
  go_wp2_with fail
  go_ret
  exact ⟨rfl, up08.trans (up9.trans up10)⟩
end Go.Proofs.Ytmapdpocmpnokaa
