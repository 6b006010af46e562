/- SumParts, SumFinds: the walks. -/
import Derived.Test.YtmaoejdlcnlkmaaSumL2
namespace Go.Proofs.Ytmaoejdlcnlkmaa
open Go.RowKit

set_option maxHeartbeats 400000 in
theorem sumParts_walk (w : World) (v : Value) (l : List UInt8) (hv : IsBytes w v l) (hr : l.length ≤ 1048576) (_q : ∀ x ∈ l, True)
    (u : Value) (m : List UInt8) (hu : IsBytes w u m) (hs : m.length ≤ 1048576) (_q : ∀ x ∈ m, True) :
    Calls Try.prog 5 #[v, u] w fun e w' => e = .returned (.bool true) ∧ Up w w' := by
  have hv1 := hv.up (up_alloc w (.cells #[] 5))
  obtain ⟨a, cap, rfl⟩ := hv.slice
  obtain ⟨a2, cap2, rfl⟩ := hu.slice
  go_enter Try.func5, Try.ntmps5
  go_wp2_with (at_builtin; refine wpList_append_ones byteCell byteCell_one rfl (.tmp 6) (.tmp 7) 24 rfl w.heap.size 5 (.int .u8 0) 1 Try.underlying24 info_u8 rfl _ [] rfl (Own.made byteCell 5 w w.heap.size (Nat.le_refl _)) _ l rfl hv1 ?c1 ?c2 ?c3 ?_)
  case c1 => simp; omega
  case c2 => simp; omega
  case c3 => simp
  intro v' w1 hown _ hb1
  have up1 : Up w w1 := (up_alloc w _).below_trans hb1 (Nat.le_refl _)
  have hu1 := hu.up up1
  obtain ⟨a', cap', hv'⟩ := hown.ones.slice
  subst hv'
  go_wp2_with (at_builtin; refine wpList_append_ones byteCell byteCell_one rfl (.tmp 8) (.tmp 9) 24 rfl w.heap.size 5 (.int .u8 0) 1 Try.underlying24 info_u8 rfl _ _ rfl hown _ m rfl hu1 ?c1 ?c2 ?c3 ?_)
  case c1 => omega
  case c2 => omega
  case c3 => exact up1.size
  intro v' w2 hown2 _ hb2
  have up2 : Up w w2 := up1.below_trans hb2 (Nat.le_refl _)
  have ho2 := hown2.ones
  obtain ⟨x, hx⟩ : ∃ x, x = l ++ m := ⟨_, rfl⟩
  rw [← hx] at ho2
  have Hx := Lib.hid hx
  clear hx
  obtain ⟨a3, cap3, hv'⟩ := ho2.slice
  subst hv'
  clear hown hb1 hu1 hv1 hown2 hb2
  go_wp2_with fail
  refine (sumNames_walk _).mono ?_
  rintro e w3 ⟨rfl, up3⟩
  go_wp2_with fail
  refine (of_any _ l _ (hv.up (up2.trans up3))).mono ?_
  rintro e w4 ⟨rfl, rfl⟩
  go_wp2_with fail
  refine (more_any _ (crcMore_lt _ _) _ m _ (hu.up (up2.trans up3))).mono ?_
  rintro e w4 ⟨rfl, rfl⟩
  rw [crcMore_append, ← Hx.out]
  go_wp2_with fail
  refine (of_any _ _ _ (ho2.up up3)).mono ?_
  rintro e w4 ⟨rfl, rfl⟩
  go_wp2_with fail
  go_ret
  exact ⟨by simp, up2.trans up3⟩
end Go.Proofs.Ytmaoejdlcnlkmaa
