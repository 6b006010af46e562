/- SumFinds: the walk. -/
import Derived.Test.YtmaoejdlcnlkmaaSumL3
import Derived.BigGuardPart
namespace Go.Proofs.Ytmaoejdlcnlkmaa
open Go.RowKit

set_option maxHeartbeats 400000 in
theorem sumFinds_walk (w : World) (v : Value) (l : List UInt8) (hv : IsBytes w v l) (hr : l.length * 1 ≤ 140737488351232) (_q : ∀ x ∈ l, True)
    (at_ : Int) (ha : -9223372036854775808 ≤ at_ ∧ at_ ≤ 9223372036854775807) (turn : Nat) (ht : turn < 256) :
    Calls Try.prog 6 #[v, .int .i64 at_, .int .u8 (turn : Int)] w fun e w' => e = .returned (.bool true) ∧ Up w w' := by
  obtain ⟨a, cap, rfl⟩ := hv.slice
  have hll := hv.length_le
  by_cases g1 : at_ < 0
  · go_enter Try.func6, Try.ntmps6
    go_wp2_with fail
    refine (sumNames_walk _).mono ?_
    rintro e w2 ⟨rfl, up2⟩
    go_wp2_with fail
    go_ret
    exact ⟨rfl, up2⟩
  obtain ⟨i, rfl⟩ := Int.eq_ofNat_of_zero_le (show 0 ≤ at_ by omega)
  by_cases g2 : l.length ≤ i
  · go_enter Try.func6, Try.ntmps6
    go_wp2_with fail
    refine (sumNames_walk _).mono ?_
    rintro e w2 ⟨rfl, up2⟩
    go_wp2_with fail
    go_ret
    exact ⟨rfl, up2⟩
  by_cases g3 : turn = 0
  · subst g3
    go_enter Try.func6, Try.ntmps6
    go_wp2_with fail
    refine (sumNames_walk _).mono ?_
    rintro e w2 ⟨rfl, up2⟩
    go_wp2_with fail
    go_ret
    exact ⟨rfl, up2⟩
  have g3' : ((turn : Int) == 0) = false := by simp; omega
  by_cases g4 : 5000 < l.length
  · go_enter Try.func6, Try.ntmps6
    go_wp2_with fail
    refine (sumNames_walk _).mono ?_
    rintro e w2 ⟨rfl, up2⟩
    go_wp2_with fail
    go_ret
    exact ⟨rfl, up2⟩
  go_enter Try.func6, Try.ntmps6
  go_wp2_with fail
  refine (sumNames_walk _).mono ?_
  rintro e w2 ⟨rfl, up2⟩
  have hv2 := hv.up up2
  go_wp2_with (at_builtin; refine wpList_fresh_ones byteCell byteCell_one rfl _ _ 24 rfl 5 (.int .u8 0) 1 Try.underlying24 info_u8 rfl rfl (.slice a l.length cap) l rfl hv2 (by omega) ?_)
  intro v' w3 hown up3
  have hn : 0 < l.length := by omega
  obtain ⟨g, cap', rfl, hg, hglt, hcell, hfz, hst⟩ := hown.row hn
  obtain ⟨c, hc⟩ : ∃ c, c = l[i] ^^^ UInt8.ofNat turn := ⟨_, rfl⟩
  have hne : c ≠ l[i] := by
    intro h
    rw [hc] at h
    have h2 := congrArg UInt8.toNat h
    rw [UInt8.toNat_xor, UInt8.toNat_ofNat_of_lt' (by show turn < 256; omega)] at h2
    have h3 : l[i].toNat ^^^ turn = l[i].toNat ^^^ 0 := by simpa using h2
    exact g3 (xor_cancel_left h3)
  have hci := hcell i (by omega)
  unfold byteCell at hci
  have e1 : bits .xor .u8 (l[i].toNat : Int) (turn : Int) = (c.toNat : Int) := by
    rw [u8_xor_nat _ _ l[i].toNat_lt ht, hc, UInt8.toNat_xor, UInt8.toNat_ofNat_of_lt' (by show turn < 256; omega)]
  have hfi := hfz i
  have hfind := crc_finds l i (by omega) c hne
  have hown2 := (hst i c).ones
  rw [show byteCell c = .int .u8 (c.toNat : Int) from rfl] at hown2
  have up4 : Up w (w3.setCell ⟨g, i, none⟩ (.int .u8 (c.toNat : Int))) := (up2.trans up3).setCell (by have := up2.size; simp; omega) _
  have hv4 := hv.up up4
  have hlen : (l.set i c).length = l.length := List.length_set
  obtain ⟨m, hm⟩ : ∃ m, m = l.set i c := ⟨_, rfl⟩
  rw [← hm] at hown2 hfind hlen
  have Hne : ((crcMore 0 m : Int) != (crcMore 0 l : Int)) = true := by simp; omega
  clear hm hst hcell hfz hne hc hown hfind
  generalize l[i].toNat = x at *
  have hown2' : IsBytes (w3.setCell ⟨g, i, none⟩ (.int .u8 (c.toNat : Int))) (.slice (some ⟨g, 0, none⟩) l.length cap') m := hown2
  clear hown2
  have Hlen := Lib.hid hlen
  clear hlen
  go_wp2_with fail
  refine (of_any _ m _ hown2').mono ?_
  rintro e w4 ⟨rfl, rfl⟩
  go_wp2_with fail
  refine (of_any _ l _ hv4).mono ?_
  rintro e w4 ⟨rfl, rfl⟩
  go_wp2_with fail
  go_ret
  exact ⟨rfl, up4⟩
end Go.Proofs.Ytmaoejdlcnlkmaa
