/- FieldNames, FieldGets. -/
import Derived.Test.YtmapdpocmpnokaaFieldS
import Derived.Test.YtmapdpocmpnokaaFieldG
namespace Go.Proofs.Ytmapdpocmpnokaa
open Go.RowKit

theorem no_get : ¬ okGet [] [1] := by decide

set_option maxHeartbeats 1000000 in
theorem fieldNames_walk (w : World) :
    Calls Try.prog 5 #[] w fun e w' => e = .returned (.bool true) ∧ Up w w' := by
  go_enter Try.func5, Try.ntmps5
  go_wp2_with fail
  refine (get_any _ _ [] (IsOnes.nil _ _) (by decide) _ [1] (IsOnes.lit (f := byteCell) w #[.int .u8 1] 5 (0, 0) [1] 1 rfl (by unfold maxLen; omega) rfl)).mono ?_
  rintro e w1 (⟨hok, _⟩ | ⟨_, rfl, up1⟩)
  · exact absurd hok no_get
  go_wp2_with fail
  refine (fieldAlive_walk _).mono ?_
  rintro e w2 ⟨rfl, up2⟩
  go_wp2_with fail
  go_ret
  exact ⟨rfl, (up_alloc w _).trans (up1.trans up2)⟩

theorem sameNums_same (w : World) (v : Value) (xs : List Nat) (hv : IsOnes u64Cell w v xs) (u : Value) (hu : IsOnes u64Cell w u xs) :
    Calls Try.prog 13 #[v, u] w fun e w' => QuietBool true w e w' := by
  have := sameNums_any w v xs hv u xs hu
  rwa [show decide (xs = xs) = true from by simp] at this

set_option maxHeartbeats 1000000 in
theorem fieldGets_walk (w : World) (v : Value) (ws : List Int) (hv : IsOnes intCell w v ws) (hr : ws.length * 8 ≤ 140737488351232) (_q : ∀ n ∈ ws, -9223372036854775808 ≤ n ∧ n ≤ 9223372036854775807)
    (u : Value) (b : List UInt8) (hu : IsBytes w u b) (hr2 : b.length * 1 ≤ 140737488351232) (_q2 : ∀ n ∈ b, True) :
    Calls Try.prog 6 #[v, u] w fun e w' => e = .returned (.bool true) ∧ Up w w' := by
  clear _q2 _q
  obtain ⟨a1, c1, rfl⟩ := hv.slice
  obtain ⟨a2, c2, rfl⟩ := hu.slice
  go_enter Try.func6, Try.ntmps6
  go_wp2_with (at_builtin; refine wpList_fresh_ones intCell intCell_one rfl (.tmp 10) (.tmp 11) 22 rfl 3 (.int .i64 0) 8 Try.underlying22 info_int rfl rfl (.slice a1 ws.length c1) ws rfl hv (by omega) ?_)
  intro v1 w1 hv1 up1
  have hu1 := hu.up up1
  have hv1 := hv1.ones
  go_wp2_with (at_builtin; refine wpList_fresh_ones byteCell byteCell_one rfl (.tmp 13) (.tmp 14) 24 rfl 5 (.int .u8 0) 1 Try.underlying24 info_u8 rfl rfl (.slice a2 b.length c2) b rfl hu1 (by omega) ?_)
  intro v2 w2 hu2 up2
  have hu2 := hu2.ones
  have hv2 := hv1.up up2
  go_wp2_with fail
  refine (get_any w2 _ ws hv2 hr _ b hu2).mono ?_
  have up03 : Up w w2 := up1.trans up2
  rintro e w3 (⟨hok, v3, rfl, hv3, up3⟩ | ⟨hno, rfl, up3⟩)
  · have hv3 := hv3.ones
    obtain ⟨a3, c3, rfl⟩ := hv3.slice
    have Hok := Lib.hid hok
    clear hok
    generalize hpb : getNums ws b = pb at *
    have Hpb := Lib.hid hpb
    clear hpb
    have hvb := (hv.up up03).up up3
    have hub := (hu.up up03).up up3
    go_wp2_with fail
    refine (refGet_any w3 _ ws hvb hr _ b hub).mono ?_
    rintro e w4 (⟨_, v4, rfl, hv4, up4⟩ | ⟨hno, _⟩)
    case inr => exact absurd Hok.out hno
    rw [Hpb.out] at hv4
    have hv4 := hv4.ones
    obtain ⟨a4, c4, rfl⟩ := hv4.slice
    have hv3 := hv3.up up4
    go_wp2_with fail
    refine (fieldAlive_walk _).mono ?_
    rintro e w5 ⟨rfl, up5⟩
    have HS := Lib.hid (sameNums_same w5 _ pb (hv3.up up5) _ (hv4.up up5))
    clear hv3 hv4 hvb hub hv hu
    go_wp2_with fail
    refine HS.out.mono ?_
    rintro e w6 ⟨rfl, nq, rfl⟩
    go_wp2_with fail
    go_ret
    exact ⟨rfl, ((up03.trans up3).trans (up4.trans up5)).drewN _⟩
  · have Hno := Lib.hid hno
    clear hno
    have hvb := (hv.up up03).up up3
    have hub := (hu.up up03).up up3
    go_wp2_with fail
    refine (refGet_any w3 _ ws hvb hr _ b hub).mono ?_
    rintro e w4 (⟨hok, _⟩ | ⟨_, rfl, up4⟩)
    case inl => exact absurd hok Hno.out
    go_wp2_with fail
    refine (fieldAlive_walk _).mono ?_
    rintro e w5 ⟨rfl, up5⟩
    go_wp2_with fail
    refine (sameNums_same w5 _ [] (IsOnes.nil _ _) _ (IsOnes.nil _ _)).mono ?_
    rintro e w6 ⟨rfl, nq, rfl⟩
    go_wp2_with fail
    go_ret
    exact ⟨rfl, ((up03.trans up3).trans (up4.trans up5)).drewN _⟩
end Go.Proofs.Ytmapdpocmpnokaa
