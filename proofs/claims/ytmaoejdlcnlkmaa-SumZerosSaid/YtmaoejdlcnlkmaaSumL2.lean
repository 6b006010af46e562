/- SumMores: the walk. -/
import Derived.Test.YtmaoejdlcnlkmaaSumL1
import Derived.Test.YtmaoejdlcnlkmaaLaws
namespace Go.Proofs.Ytmaoejdlcnlkmaa
open Go.RowKit

theorem info_u8 : (Try.prog.info? 5).map (fun i => (i.zero, i.size, i.bytes)) = some (some (.int .u8 0), 1, 1) := by kernel_rfl

set_option maxHeartbeats 400000 in
theorem sumMores_walk (w : World) (s : Nat) (hs : s < 4294967296) (v : Value) (l : List UInt8) (hv : IsBytes w v l) (hr : l.length * 1 ≤ 140737488351232) (_q : ∀ x ∈ l, True) :
    Calls Try.prog 4 #[.int .u32 (s : Int), v] w fun e w' => e = .returned (.bool true) ∧ Up w w' := by
  have hv1 := hv.up (up_alloc w (.cells #[] 5))
  obtain ⟨a, cap, rfl⟩ := hv.slice
  go_enter Try.func4, Try.ntmps4
  go_wp2_with (at_builtin; refine wpList_append_ones byteCell byteCell_one rfl _ _ 24 rfl w.heap.size 5 (.int .u8 0) 1 Try.underlying24 info_u8 rfl _ [] rfl (Own.made byteCell 5 w w.heap.size (Nat.le_refl _)) _ l rfl hv1 ?c1 ?c2 ?c3 ?_)
  case c1 => simp; omega
  case c2 => simp; omega
  case c3 => simp
  intro v' w1 hown _ hb1
  have up1 : Up w w1 := (up_alloc w _).below_trans hb1 (Nat.le_refl _)
  have ho := hown.ones
  obtain ⟨a', cap', hv'⟩ := ho.slice
  subst hv'
  clear hown hb1
  go_wp2_with fail
  refine (sumNames_walk _).mono ?_
  rintro e w2 ⟨rfl, up2⟩
  have ho2 := ho.up up2
  have hv2 := hv.up (up1.trans up2)
  have k1 := run_string_of_bytes (P := Try.prog) 24 5 Try.underlying24 Try.underlying5 9 Try.underlying9 w2 _ l ho2
  have k2 := run_string_of_bytes (P := Try.prog) 24 5 Try.underlying24 Try.underlying5 9 Try.underlying9 w2 _ l hv2
  go_wp2_with fail
  refine (more_any s hs _ l _ ho2).mono ?_
  rintro e w3 ⟨rfl, rfl⟩
  go_wp2_with fail
  refine (refMore_any s hs _ l _ hv2).mono ?_
  rintro e w3 ⟨rfl, rfl⟩
  go_wp2_with fail
  go_ret
  exact ⟨by simp, up1.trans up2⟩
end Go.Proofs.Ytmaoejdlcnlkmaa
