/- The walk of the document's Put. -/
import Derived.Test.YthbfhlphclgnaaaFieldW1
namespace Go.Proofs.Ythbfhlphclgnaaa
open Go.RowKit

set_option maxHeartbeats 1000000 in
theorem refPut_any (w : World) (v : Value) (ws : List Int) (hv : IsOnes intCell w v ws) (hlen : ws.length * 8 ≤ 140737488351232) (u : Value) (ns : List Nat) (hu : IsOnes u64Cell w u ns) (hns : ∀ n ∈ ns, n < 18446744073709551616) :
    Calls Try.prog 30 #[v, u] w fun e w' => PutPost ws ns w e w' := by
  have hnl := hu.length_le
  obtain ⟨a, cap, rfl⟩ := hv.slice
  obtain ⟨a2, cap2, rfl⟩ := hu.slice
  by_cases heq : ws.length = ns.length
  case neg =>
    have ht : ((ws.length : Int) != (ns.length : Int)) = true := by simp; omega
    have Heq := Lib.hid heq
    clear heq
    go_enter Try.func30, Try.ntmps30
    go_wp2_with fail
    go_ret2
    exact .inr ⟨fun h => Heq.out h.1, rfl, Up.refl _⟩
  case pos =>
    have ht : ((ws.length : Int) != (ns.length : Int)) = false := by simp; omega
    obtain ⟨len, hl⟩ : ∃ len, len = ws.length := ⟨_, rfl⟩
    rw [← heq] at hu hnl ht ⊢
    rw [← hl] at hv hu hlen ht hnl ⊢
    have hl2 : len = ns.length := hl.trans heq
    have Hl := Lib.hid hl
    have Hl2 := Lib.hid hl2
    clear hl hl2 heq
    have Hns := Lib.hid hns
    clear hns
    go_enter Try.func30, Try.ntmps30
    go_wp2_with fail
    go_loopw [6, 19] (fun x i wr => ∃ k : Nat, k ≤ len ∧ i = .int .i64 k ∧ Own byteCell 5 wr w.heap.size x (putBytes (ws.take k) (ns.take k)) ∧ Up w wr ∧ okPut (ws.take k) (ns.take k)) (fun _ i _ => len - (intOf i).toNat)
    case atStart => exact ⟨0, Nat.zero_le _, rfl, Own.made byteCell _ w _ (Nat.le_refl _), up_alloc _ _, by simp [okPut, okWs, fits]⟩
    case round =>
      obtain ⟨k, hk, rfl, hown, upr, hok⟩ := hrel
      by_cases hlt : k < len
      · have k1 : k < ws.length := by have := Hl.out; omega
        have k2 : k < ns.length := by have := Hl2.out; omega
        obtain ⟨b, off, rfl, _, hc⟩ := get_of_ones hv Hl.out (by omega)
        obtain ⟨b2, off2, rfl, _, hc2⟩ := get_of_ones hu Hl2.out (by omega)
        have d1 := upr.cell (hc k k1)
        have d2 := upr.cell (hc2 k k2)
        unfold intCell at d1
        unfold u64Cell at d2
        have hsn := putBytes_take_succ ws ns k k1 k2
        have hnk : ns[k] < 18446744073709551616 := Hns.out _ (List.getElem_mem k2)
        have hmem : ws[k] ∈ ws := List.getElem_mem k1
        have hno : ¬ ns[k] < 256 ^ ws[k].toNat → ¬ okPut ws ns := fun hn hh => hn ((fits_iff ws ns).1 hh.2.2 k k1 k2)
        have hyes : 1 ≤ ws[k] ∧ ws[k] ≤ 8 → ns[k] < 256 ^ ws[k].toNat → okPut (ws.take (k + 1)) (ns.take (k + 1)) := by
          intro h1 h2
          refine ⟨by simp; omega, ?_, ?_⟩
          · intro x hx
            rw [take_snoc' ws k k1] at hx
            rcases List.mem_append.1 hx with hx | hx
            · exact hok.2.1 x hx
            · simp at hx; subst hx; exact h1
          · rw [fits_iff]
            intro i i1 i2
            simp at i1 i2
            rw [List.getElem_take, List.getElem_take]
            by_cases hik : i < k
            · have := (fits_iff _ _).1 hok.2.2 i (by simp; omega) (by simp; omega)
              rwa [List.getElem_take, List.getElem_take] at this
            · obtain rfl : i = k := by omega
              exact h2
        have hlb : (putBytes (ws.take k) (ns.take k)).length ≤ 8 * k := by
          rw [putBytes_length _ _ hok.1]
          have := total_le hok.2.1
          simp at this
          omega
        clear hc hc2
        generalize ws[k] = x at *
        generalize ns[k] = y at *
        have Hno := Lib.hid hno
        have Hyes := Lib.hid hyes
        have Hsn := Lib.hid hsn
        have Hmem := Lib.hid hmem
        have Hok := Lib.hid hok
        clear hno hyes hsn hmem hok
        by_cases h1 : x < 1
        · go_wp2_with fail
          go_ret2
          exact .inr ⟨fun hh => by have := hh.2.1 x Hmem.out; omega, rfl, upr⟩
        by_cases h8 : 8 < x
        · go_wp2_with fail
          go_ret2
          exact .inr ⟨fun hh => by have := hh.2.1 x Hmem.out; omega, rfl, upr⟩
        obtain ⟨m, rfl⟩ := Int.eq_ofNat_of_zero_le (show 0 ≤ x by omega)
        go_wp2_with fail
        refine (number_any wr y hnk m (by omega)).mono ?_
        rintro e w3 ⟨vb, rfl, hvb, up3⟩
        have hb3 := hvb.ones
        by_cases hfit : y / 256 ^ m = 0
        · have hf : y < 256 ^ m := by
            rcases Nat.lt_or_ge y (256 ^ m) with h | h
            · exact h
            · have := Nat.div_pos h (Nat.pow_pos (by omega)); omega
          have hbt : (y / 256 ^ m == 0) = true := by simpa using hfit
          rw [hbt]
          clear hfit hbt
          have hf' : y < 256 ^ ((m : Int)).toNat := by simpa using hf
          have hokk := Hyes.out ⟨by omega, by omega⟩ hf'
          have Hokk := Lib.hid hokk
          clear hokk hf hf'
          have hnb := numBytes_length m y
          generalize hnbb : numBytes y m = nb at *
          have Hnbb := Lib.hid hnbb
          clear hnbb
          obtain ⟨a5, c5, hv5⟩ := hb3.slice
          subst hv5
          rw [hnb] at hb3 hvb ⊢
          have Hnb := Lib.hid hnb
          clear hnb
          go_wp2_with (at_builtin; refine wpList_append_ones byteCell byteCell_one rfl (.tmp 41) (.tmp 42) 29 rfl w.heap.size 5 (.int .u8 0) 1 Try.underlying29 info_u8 rfl _ _ rfl (hown.up up3) (.slice a5 m c5) nb rfl hb3 (by have := Hnb.out; omega) (by have := Hnb.out; omega) ((upr.trans up3).size) ?_)
          intro v' w4 hown4 _ hb4
          go_wp2_with fail
          go_roundw
          case rel => exact ⟨k + 1, by omega, by go_num, by rw [Hsn.out]; simp only [Int.toNat_natCast]; rw [Hnbb.out]; exact hown4, (upr.trans up3).below_trans hb4 (Nat.le_refl _), Hokk.out⟩
          case measure => simp [intOf]; omega
        · have hf : ¬ y < 256 ^ ((m : Int)).toNat := by
            intro h
            exact hfit (Nat.div_eq_of_lt (by simpa using h))
          have hbf : (y / 256 ^ m == 0) = false := by simpa using hfit
          rw [hbf]
          clear hfit hbf
          have hnn := Hno.out hf
          have Hnn := Lib.hid hnn
          clear hnn hf
          obtain ⟨a5, c5, hv5⟩ := hb3.slice
          subst hv5
          go_wp2_with fail
          go_ret2
          exact .inr ⟨Hnn.out, rfl, upr.trans up3⟩
      · obtain rfl : k = len := by omega
        have e1 : ws.take k = ws := List.take_of_length_le (by have := Hl.out; omega)
        have e2 : ns.take k = ns := List.take_of_length_le (by have := Hl2.out; omega)
        rw [e1, e2] at hown hok
        have Hok := Lib.hid hok
        clear e1 e2 hok
        go_wp2_with fail
        go_ret2
        exact .inl ⟨Hok.out, _, rfl, hown, upr⟩
end Go.Proofs.Ythbfhlphclgnaaa
