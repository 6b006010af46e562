/- The walk of field.Put. -/
import Derived.Test.YtgmdhedabmkcoaaFieldW1
namespace Go.Proofs.Ytgmdhedabmkcoaa
open Go.RowKit

theorem shift_no {x m : Nat} (h : x < 256 ^ m) : x / 2 ^ (8 * m) = 0 := by
  rw [show (2 : Nat) ^ (8 * m) = 256 ^ m from by rw [Nat.pow_mul]]
  exact Nat.div_eq_of_lt h
theorem shift_yes {x m : Nat} (h : ¬ x < 256 ^ m) : 0 < x / 2 ^ (8 * m) := by
  rw [show (2 : Nat) ^ (8 * m) = 256 ^ m from by rw [Nat.pow_mul]]
  exact Nat.div_pos (by omega) (Nat.pow_pos (by omega))

set_option maxHeartbeats 2000000 in
theorem put_any (w : World) (v : Value) (ws : List Int) (hv : IsOnes intCell w v ws) (hlen : ws.length * 8 ≤ 140737488351232) (u : Value) (ns : List Nat) (hu : IsOnes u64Cell w u ns) (hns : ∀ n ∈ ns, n < 18446744073709551616) :
    Calls Try.prog 34 #[v, u] w fun e w' => PutPost ws ns w e w' := by
  have hnl := hu.length_le
  have HR := Lib.hid (room_any w v ws hv hlen)
  obtain ⟨a, cap, rfl⟩ := hv.slice
  obtain ⟨a2, cap2, rfl⟩ := hu.slice
  by_cases hws : okWs ws
  case neg =>
    have Hws := Lib.hid hws
    clear hws
    go_enter Try.func34, Try.ntmps34
    go_wp2_with fail
    refine HR.out.mono ?_
    rintro e w1 ⟨⟨hh, _⟩ | ⟨_, rfl⟩, rfl⟩
    · exact absurd hh Hws.out
    go_wp2_with fail
    go_ret2
    exact .inr ⟨fun h => Hws.out h.2.1, rfl, Up.refl _⟩
  by_cases heq : ws.length = ns.length
  case neg =>
    have ht : ((ns.length : Int) != (ws.length : Int)) = true := by simp; omega
    have Heq := Lib.hid heq
    have Hws := Lib.hid hws
    clear heq hws
    go_enter Try.func34, Try.ntmps34
    go_wp2_with fail
    refine HR.out.mono ?_
    rintro e w1 ⟨⟨_, rfl⟩ | ⟨hh, _⟩, rfl⟩
    · go_wp2_with fail
      go_ret2
      exact .inr ⟨fun h => Heq.out h.1, rfl, Up.refl _⟩
    · exact absurd Hws.out hh
  have htl := total_le hws
  obtain ⟨len, hl⟩ : ∃ len, len = ws.length := ⟨_, rfl⟩
  rw [← heq] at hu hnl ⊢
  rw [← hl] at hv hu hlen hnl htl HR ⊢
  have ht : ((len : Int) != (len : Int)) = false := by simp
  have hl2 : len = ns.length := hl.trans heq
  have Hl := Lib.hid hl
  have Hl2 := Lib.hid hl2
  have Hws := Lib.hid hws
  clear hl hl2 heq
  have Hns := Lib.hid hns
  clear hns
  have mk := run_make0 (P := Try.prog) 76 5 (.int .u8 0) 1 Try.underlying76 info_u8 (total ws) (by omega) (by omega)
  go_enter Try.func34, Try.ntmps34
  go_wp2_with fail
  refine HR.out.mono ?_
  rintro e w1 ⟨⟨_, rfl⟩ | ⟨hh, _⟩, rfl⟩
  case inr => exact absurd Hws.out hh
  clear hws
  go_wp2_with fail
  go_loop [30] (fun i => ∃ k : Nat, k ≤ len ∧ i = .int .i64 k ∧ fits (ws.take k) (ns.take k)) (fun i => len - (intOf i).toNat)
  case atStart => exact ⟨0, Nat.zero_le _, rfl, by simp [fits]⟩
  case round =>
    obtain ⟨k, hk, rfl, hfit⟩ := hrel
    have Hfit := Lib.hid hfit
    clear hfit
    by_cases hlt : k < len
    · have k1 : k < ws.length := by have := Hl.out; omega
      have k2 : k < ns.length := by have := Hl2.out; omega
      obtain ⟨b, off, rfl, _, hc⟩ := get_of_ones hv Hl.out (by omega)
      obtain ⟨b2, off2, rfl, _, hc2⟩ := get_of_ones hu Hl2.out (by omega)
      have d1 := hc k k1
      have d2 := hc2 k k2
      unfold intCell at d1
      unfold u64Cell at d2
      have hnk : ns[k] < 18446744073709551616 := Hns.out _ (List.getElem_mem k2)
      have hwk := Hws.out _ (List.getElem_mem k1)
      have hno : ¬ ns[k] < 256 ^ ws[k].toNat → ¬ okPut ws ns := fun hn hh => hn ((fits_iff ws ns).1 hh.2.2 k k1 k2)
      have hyes : ns[k] < 256 ^ ws[k].toNat → fits (ws.take (k + 1)) (ns.take (k + 1)) := by
        intro h2
        rw [fits_iff]
        intro i i1 i2
        simp at i1 i2
        rw [List.getElem_take, List.getElem_take]
        by_cases hik : i < k
        · have := (fits_iff _ _).1 Hfit.out i (by simp; omega) (by simp; omega)
          rwa [List.getElem_take, List.getElem_take] at this
        · obtain rfl : i = k := by omega
          exact h2
      clear hc hc2
      generalize ws[k] = x at *
      generalize ns[k] = y at *
      obtain ⟨m, rfl⟩ := Int.eq_ofNat_of_zero_le (show 0 ≤ x by omega)
      simp only [Int.toNat_natCast] at hno hyes
      by_cases hf : y < 256 ^ m
      · have hok := hyes hf
        have hz := shift_no hf
        have e1 : ((y : Int) / 2 ^ (8 * m)) = 0 := by
          have h : ((y / 2 ^ (8 * m) : Nat) : Int) = 0 := by rw [hz]; rfl
          rw [Int.natCast_ediv] at h
          simpa using h
        have e2 : (((y : Int) / 2 ^ (8 * m)) != 0) = false := by rw [e1]; rfl
        have Hok := Lib.hid hok
        clear hno hyes hok hf hz e1
        go_wp2_with fail
        go_round
        case rel => exact ⟨k + 1, by omega, by go_num, Hok.out⟩
        case measure => simp [intOf]; omega
      · have hok := hno hf
        have hz := shift_yes hf
        have e2 : (((y : Int) / 2 ^ (8 * m)) != 0) = true := by
          simp only [bne_iff_ne]
          intro h
          have h2 : ((y / 2 ^ (8 * m) : Nat) : Int) = 0 := by rw [Int.natCast_ediv]; simpa using h
          omega
        have Hok := Lib.hid hok
        clear hno hyes hok hf hz
        go_wp2_with fail
        go_ret2
        exact .inr ⟨Hok.out, rfl, Up.refl _⟩
    · obtain rfl : k = len := by omega
      have e1 : ws.take k = ws := List.take_of_length_le (by have := Hl.out; omega)
      have e2 : ns.take k = ns := List.take_of_length_le (by have := Hl2.out; omega)
      have hfit := Hfit.out
      rw [e1, e2] at hfit
      have hok : okPut ws ns := ⟨Hl.out.symm.trans Hl2.out, Hws.out, hfit⟩
      have Hok := Lib.hid hok
      clear e1 e2 hfit Hfit hok
      go_wp2_with fail
      go_loopw [10, 48] (fun x i wr => ∃ j : Nat, j ≤ k ∧ i = .int .i64 j ∧ Own byteCell 5 wr w.heap.size x (putBytes (ws.take j) (ns.take j)) ∧ Up w wr) (fun _ i _ => k - (intOf i).toNat)
      case atStart => exact ⟨0, Nat.zero_le _, rfl, Own.room byteCell _ w _ _ _ (Nat.le_refl _) (by omega), up_alloc _ _⟩
      case round =>
        obtain ⟨j, hj, rfl, hown, upr⟩ := hrel
        obtain ⟨wo, rfl⟩ : ∃ wo : World, wo = wr := ⟨_, rfl⟩
        by_cases hlt : j < k
        · have k1 : j < ws.length := by have := Hl.out; omega
          have k2 : j < ns.length := by have := Hl2.out; omega
          obtain ⟨b, off, rfl, _, hc⟩ := get_of_ones hv Hl.out (by omega)
          obtain ⟨b2, off2, rfl, _, hc2⟩ := get_of_ones hu Hl2.out (by omega)
          have d1 := upr.cell (hc j k1)
          have d2 := upr.cell (hc2 j k2)
          unfold intCell at d1
          unfold u64Cell at d2
          have hsn := putBytes_take_succ ws ns j k1 k2
          have hnk : ns[j] < 18446744073709551616 := Hns.out _ (List.getElem_mem k2)
          have hwk := Hws.out _ (List.getElem_mem k1)
          have hlb : (putBytes (ws.take j) (ns.take j)).length ≤ 8 * j := by
            rw [putBytes_length _ _ (by simp; omega)]
            have := total_le (ws := ws.take j) (fun x hx => Hws.out x (List.mem_of_mem_take hx))
            simp at this
            omega
          clear hc hc2
          generalize ws[j] = x at *
          generalize ns[j] = y at *
          obtain ⟨m, rfl⟩ := Int.eq_ofNat_of_zero_le (show 0 ≤ x by omega)
          simp only [Int.toNat_natCast] at hsn
          generalize putBytes (ws.take j) (ns.take j) = pb at *
          have Hsn := Lib.hid hsn
          clear hsn
          go_wp2_with fail
          go_loopw [10, 57] (fun x i wr => ∃ i' : Nat, i' ≤ m ∧ i = .int .i64 i' ∧ Own byteCell 5 wr w.heap.size x (pb ++ numBytes y i') ∧ Up w wr) (fun _ i _ => m - (intOf i).toNat)
          case atStart => exact ⟨0, Nat.zero_le _, rfl, by simpa [numBytes] using hown, upr⟩
          case round =>
            obtain ⟨i', hi', rfl, hown2, upr2⟩ := hrel
            have hnl2 := numBytes_length i' y
            by_cases hlt2 : i' < m
            · have hs2 := numBytes_snoc i' y
              have hle : y / 2 ^ (8 * i') ≤ y := Nat.div_le_self _ _
              have hx8 := u8_mod (y / 256 ^ i')
              have hpow : y / 2 ^ (8 * i') = y / 256 ^ i' := by rw [show (2 : Nat) ^ (8 * i') = 256 ^ i' from by rw [Nat.pow_mul]]
              obtain ⟨c, hc⟩ : ∃ c, c = UInt8.ofNat (y / 256 ^ i' % 256) := ⟨_, rfl⟩
              rw [← hc] at hs2 hx8
              have e1 : IntKind.u8.wrap ((y : Int) / 2 ^ (8 * i')) = (c.toNat : Int) := by
                have h : (y : Int) / 2 ^ (8 * i') = ((y / 2 ^ (8 * i') : Nat) : Int) := by rw [Int.natCast_ediv]; simp
                rw [h, hx8, IntKind.wrap_u8', hpow]; omega
              generalize hnn : numBytes y i' = nb at *
              have Hs2 := Lib.hid hs2
              have Hnl2 := Lib.hid hnl2
              have hnl3 : nb.length ≤ 8 := by omega
              clear hs2 hx8 hpow hc hnn hnl2
              go_wp2_with (at_builtin; refine wpList_append_ones byteCell byteCell_one rfl (.tmp 60) (.tmp 66) 76 rfl w.heap.size 5 (.int .u8 0) 1 Try.underlying76 info_u8 rfl _ _ rfl (hown2.up (up_alloc wr _)) (.slice (some ⟨wr.heap.size, 0, none⟩) 1 1) [c] rfl (IsOnes.lit wr #[.int .u8 (c.toNat : Int)] 5 (0, 0) [c] 1 rfl (by unfold maxLen; omega) rfl) (by simp; omega) (by simp; omega) ((upr2.alloc _).size) ?_)
              intro v' w3 hown3 _ hb3
              go_wp2_with fail
              go_roundw
              case rel => exact ⟨i' + 1, by omega, by go_num, by rw [Hs2.out]; exact hown3, (upr2.alloc _).below_trans hb3 (Nat.le_refl _)⟩
              case measure => simp [intOf]; omega
            · obtain rfl : i' = m := by omega
              clear hnl2
              generalize hnn : numBytes y i' = nb at *
              have Hnn := Lib.hid hnn
              clear hnn
              go_wp2_with fail
              go_roundw
              case rel => exact ⟨j + 1, by omega, by go_num, by rw [Hsn.out]; exact hown2, upr2⟩
              case measure => simp [intOf]; omega
        · obtain rfl : j = k := by omega
          have e1 : ws.take j = ws := List.take_of_length_le (by have := Hl.out; omega)
          have e2 : ns.take j = ns := List.take_of_length_le (by have := Hl2.out; omega)
          rw [e1, e2] at hown
          clear e1 e2
          go_wp2_with fail
          go_ret2
          exact .inl ⟨Hok.out, _, rfl, hown, upr⟩
end Go.Proofs.Ytgmdhedabmkcoaa
