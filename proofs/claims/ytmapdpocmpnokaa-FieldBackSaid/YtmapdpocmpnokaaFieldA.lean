/- The example that every statement of layer 2 asks first; SameNums; FieldPuts. -/
import Derived.Test.YtmapdpocmpnokaaFieldJ
import Derived.Lib.SlBytesConst
namespace Go.Proofs.Ytmapdpocmpnokaa
open Go.RowKit

theorem toStr (w : World) (v : Value) (l : List UInt8) (h : IsBytes w v l) : (convert 24 9 v).run Try.prog w = .ok (.string (strOf l)) w :=
  run_string_of_bytes (P := Try.prog) 24 5 Try.underlying24 Try.underlying5 9 Try.underlying9 w v l h

theorem ok_alive : okPut [2] [258] := by decide
theorem bytes_alive : putBytes [2] [258] = [2, 1] := by decide
theorem ok_alive2 : okJoin [[97, 98]] := by decide
theorem bytes_alive2 : joinBytes [[97, 98]] = [1, 0, 2, 0, 97, 98] := by decide

set_option maxHeartbeats 1000000 in
theorem fieldAlive_walk (w : World) :
    Calls Try.prog 12 #[] w fun e w' => e = .returned (.bool true) ∧ Up w w' := by
  have kc := fun (w : World) (C : Array Value) (n c : Nat) => Lib.run_convert_bytes_const (P := Try.prog) w 24 5 C n c Try.underlying24 Try.underlying5
  go_enter Try.func12, Try.ntmps12
  go_wp2_with fail
  have h1 : IsOnes intCell ((w.alloc (.cells #[.int .i64 2] 3)).alloc (.cells #[.int .u64 258] 52)) (.slice (some ⟨w.heap.size, 0, none⟩) 1 1) [2] :=
    (IsOnes.lit w #[.int .i64 2] _ (0, 0) [2] 1 rfl (by unfold maxLen; omega) rfl).up (up_alloc _ _)
  have h2 : IsOnes u64Cell ((w.alloc (.cells #[.int .i64 2] 3)).alloc (.cells #[.int .u64 258] 52)) (.slice (some ⟨w.heap.size + 1, 0, none⟩) 1 1) [258] :=
    IsOnes.litAt (w.alloc _) (w.heap.size + 1) (by simp) #[.int .u64 258] _ (0, 0) [258] 1 rfl (by unfold maxLen; omega) rfl
  refine (put_any _ _ _ h1 (by decide) _ _ h2 (by decide)).mono ?_
  rintro e w1 (⟨_, v, rfl, hv, up1⟩ | ⟨hno, _⟩)
  case inr => exact absurd ok_alive hno
  rw [bytes_alive] at hv
  have hv1 := hv.ones
  obtain ⟨a1, c1, rfl⟩ := hv1.slice
  clear h1 h2 hv
  go_wp2_with fail
  have h3 : IsTexts ((w1.alloc (.cells #[.int .u8 97, .int .u8 98] 5 (2, 3))).alloc (.cells #[.slice (some ⟨w1.heap.size, 0, none⟩) 2 2] 24)) (.slice (some ⟨w1.heap.size + 1, 0, none⟩) 1 1) [[97, 98]] := by
    refine ⟨[⟨some ⟨w1.heap.size, 0, none⟩, 2, 2⟩], rfl, IsOnes.litAt (w1.alloc _) (w1.heap.size + 1) (by simp) #[_] _ (0, 0) _ 1 rfl (by unfold maxLen; omega) rfl, fun i h1 h2 => ?_⟩
    obtain rfl : i = 0 := by simp at h1; exact h1
    exact (IsOnes.lit (f := byteCell) w1 #[.int .u8 97, .int .u8 98] 5 (2, 3) [97, 98] 2 rfl (by unfold maxLen; omega) rfl).up (up_alloc _ _)
  refine (join_any _ _ _ h3).mono ?_
  rintro e w2 (⟨_, v2, rfl, hv2, up2⟩ | ⟨hno, _⟩)
  case inr => exact absurd ok_alive2 hno
  rw [bytes_alive2] at hv2
  have hv2 := hv2.ones
  have hv1 := hv1.up (((up_alloc w1 _).alloc _).trans up2)
  obtain ⟨a2, c2, rfl⟩ := hv2.slice
  have k1 : (convert 24 9 (.slice a1 2 c1)).run Try.prog w2 = .ok (.string { data := #[2, 1] }) w2 := toStr w2 _ _ hv1
  have k2 : (convert 24 9 (.slice a2 6 c2)).run Try.prog w2 = .ok (.string { data := #[1, 0, 2, 0, 97, 98] }) w2 := toStr w2 _ _ hv2
  clear h3 hv1 hv2
  go_wp2_with fail
  go_ret
  exact ⟨rfl, ((up_alloc w _).alloc _).trans (up1.trans (((up_alloc w1 _).alloc _).trans up2))⟩

set_option maxHeartbeats 1000000 in
theorem fieldPuts_walk (w : World) (v : Value) (ws : List Int) (hv : IsOnes intCell w v ws) (hr : ws.length * 8 ≤ 140737488351232) (_q : ∀ n ∈ ws, -9223372036854775808 ≤ n ∧ n ≤ 9223372036854775807)
    (u : Value) (ns : List Nat) (hu : IsOnes u64Cell w u ns) (hr2 : ns.length * 8 ≤ 140737488351232) (q2 : ∀ n ∈ ns, n < 18446744073709551616) :
    Calls Try.prog 3 #[v, u] w fun e w' => e = .returned (.bool true) ∧ Up w w' := by
  have Q2 := Lib.hid q2
  clear q2 _q
  obtain ⟨a1, c1, rfl⟩ := hv.slice
  obtain ⟨a2, c2, rfl⟩ := hu.slice
  go_enter Try.func3, Try.ntmps3
  go_wp2_with (at_builtin; refine wpList_fresh_ones intCell intCell_one rfl (.tmp 10) (.tmp 11) 22 rfl 3 (.int .i64 0) 8 Try.underlying22 info_int rfl rfl (.slice a1 ws.length c1) ws rfl hv (by omega) ?_)
  intro v1 w1 hv1 up1
  have hu1 := hu.up up1
  have hv1 := hv1.ones
  go_wp2_with (at_builtin; refine wpList_fresh_ones u64Cell u64Cell_one rfl (.tmp 13) (.tmp 14) 23 rfl 52 (.int .u64 0) 8 Try.underlying23 info_u64 rfl rfl (.slice a2 ns.length c2) ns rfl hu1 (by omega) ?_)
  intro v2 w2 hu2 up2
  have hu2 := hu2.ones
  have hv2 := hv1.up up2
  go_wp2_with fail
  refine (put_any w2 _ ws hv2 hr _ ns hu2 Q2.out).mono ?_
  have up03 : Up w w2 := up1.trans up2
  rintro e w3 (⟨hok, v3, rfl, hv3, up3⟩ | ⟨hno, rfl, up3⟩)
  · have hv3 := hv3.ones
    obtain ⟨a3, c3, rfl⟩ := hv3.slice
    have Hok := Lib.hid hok
    clear hok
    generalize hpb : putBytes ws ns = pb at *
    have Hpb := Lib.hid hpb
    clear hpb
    have hvb := (hv.up up03).up up3
    have hub := (hu.up up03).up up3
    go_wp2_with fail
    refine (refPut_any w3 _ ws hvb hr _ ns hub Q2.out).mono ?_
    rintro e w4 (⟨_, v4, rfl, hv4, up4⟩ | ⟨hno, _⟩)
    case inr => exact absurd Hok.out hno
    rw [Hpb.out] at hv4
    have hv4 := hv4.ones
    obtain ⟨a4, c4, rfl⟩ := hv4.slice
    have hv3 := hv3.up up4
    go_wp2_with fail
    refine (fieldAlive_walk _).mono ?_
    rintro e w5 ⟨rfl, up5⟩
    have k1 := toStr w5 _ _ (hv3.up up5)
    have k2 := toStr w5 _ _ (hv4.up up5)
    clear hv3 hv4 hvb hub hv hu
    go_wp2_with fail
    go_ret
    exact ⟨by simp, (up03.trans up3).trans (up4.trans up5)⟩
  · have Hno := Lib.hid hno
    clear hno
    have hvb := (hv.up up03).up up3
    have hub := (hu.up up03).up up3
    go_wp2_with fail
    refine (refPut_any w3 _ ws hvb hr _ ns hub Q2.out).mono ?_
    rintro e w4 (⟨hok, _⟩ | ⟨_, rfl, up4⟩)
    case inl => exact absurd hok Hno.out
    go_wp2_with fail
    refine (fieldAlive_walk _).mono ?_
    rintro e w5 ⟨rfl, up5⟩
    have k1 := toStr w5 _ _ (IsOnes.nil _ w5)
    go_wp2_with fail
    go_ret
    exact ⟨by simp, (up03.trans up3).trans (up4.trans up5)⟩
end Go.Proofs.Ytmapdpocmpnokaa
