/- The walks of field's room and the document's Number. -/
import Derived.Test.YtmapdpocmpnokaaField
import Derived.Test.YtmapdpocmpnokaaLaws
namespace Go.Proofs.Ytmapdpocmpnokaa
open Go.RowKit

theorem info_u8 : (Try.prog.info? 5).map (fun i => (i.zero, i.size, i.bytes)) = some (some (.int .u8 0), 1, 1) := by kernel_rfl
theorem info_u64 : (Try.prog.info? 52).map (fun i => (i.zero, i.size, i.bytes)) = some (some (.int .u64 0), 1, 8) := by kernel_rfl
theorem info_int : (Try.prog.info? 3).map (fun i => (i.zero, i.size, i.bytes)) = some (some (.int .i64 0), 1, 8) := by kernel_rfl

def RoomPost (ws : List Int) (e : Ending) : Prop :=
  (okWs ws ∧ e = .returned (.tuple #[.int .i64 (total ws : Nat), .bool true])) ∨ (¬ okWs ws ∧ e = .returned (.tuple #[.int .i64 0, .bool false]))

set_option maxHeartbeats 400000 in
theorem room_any (w : World) (v : Value) (ws : List Int) (h : IsOnes intCell w v ws) (hlen : ws.length * 8 ≤ 140737488351232) :
    Calls Try.prog 21 #[v] w fun e w' => RoomPost ws e ∧ w = w' := by
  obtain ⟨a, cap, rfl⟩ := h.slice
  go_enter Try.func21, Try.ntmps21
  go_wp2_with fail
  go_loop [4, 9] (fun s i => ∃ k : Nat, k ≤ ws.length ∧ i = .int .i64 k ∧ s = .int .i64 (total (ws.take k) : Nat) ∧ okWs (ws.take k)) (fun _ i => ws.length - (intOf i).toNat)
  case atStart => exact ⟨0, Nat.zero_le _, rfl, rfl, by intro x hx; simp at hx⟩
  case round =>
    obtain ⟨k, hk, rfl, rfl, hok⟩ := hrel
    have htl := total_le hok
    have hln : (ws.take k).length ≤ k := List.length_take_le _ _
    by_cases hlt : k < ws.length
    · obtain ⟨b, off, rfl, _, hc⟩ := get_of_ones h rfl (by omega)
      have hcell := hc k hlt
      unfold intCell at hcell
      have hts := total_take_succ ws k hlt
      have hmem : ws[k] ∈ ws := List.getElem_mem hlt
      have hokk : 1 ≤ ws[k] ∧ ws[k] ≤ 8 → okWs (ws.take (k + 1)) := by
        intro h1 x hx
        rw [take_snoc' ws k hlt] at hx
        rcases List.mem_append.1 hx with hx | hx
        · exact hok x hx
        · simp at hx; subst hx; exact h1
      clear hc
      generalize hx : ws[k] = x at *
      have Hmem := Lib.hid hmem
      have Hts := Lib.hid hts
      have Hokk := Lib.hid hokk
      have Hok := Lib.hid hok
      clear hmem hts hokk hok hx
      by_cases h1 : x < 1
      · go_wp2_with fail
        go_ret2
        exact ⟨.inr ⟨fun hh => by have := hh x Hmem.out; omega, rfl⟩, rfl⟩
      by_cases h8 : 8 < x
      · go_wp2_with fail
        go_ret2
        exact ⟨.inr ⟨fun hh => by have := hh x Hmem.out; omega, rfl⟩, rfl⟩
      obtain ⟨y, rfl⟩ := Int.eq_ofNat_of_zero_le (show 0 ≤ x by omega)
      generalize total (ws.take k) = tk at *
      go_wp2_with fail
      all_goals
        go_round
        case rel => exact ⟨k + 1, by omega, by go_num, by rw [Hts.out]; simp, Hokk.out ⟨by omega, by omega⟩⟩
        case measure => simp [intOf]; omega
    · obtain rfl : k = ws.length := by omega
      rw [List.take_length] at *
      go_wp2_with fail
      go_ret2
      exact ⟨.inl ⟨hok, rfl⟩, rfl⟩

def NumberPost (n : Nat) (k : Nat) (w : World) (e : Ending) (w' : World) : Prop :=
  ∃ v, e = .returned (.tuple #[v, .bool (n / 256 ^ k == 0)]) ∧ Own byteCell 5 w' w.heap.size v (numBytes n k) ∧ Up w w'

set_option maxHeartbeats 400000 in
theorem number_any (w : World) (n : Nat) (hn : n < 18446744073709551616) (k : Nat) (hk : k ≤ 1000) :
    Calls Try.prog 22 #[.int .u64 (n : Int), .int .i64 (k : Int)] w fun e w' => NumberPost n k w e w' := by
  go_enter Try.func22, Try.ntmps22
  go_wp2_with fail
  go_loopw [0, 6, 7] (fun x v i wr => ∃ j : Nat, j ≤ k ∧ i = .int .i64 j ∧ x = .int .u64 (n / 256 ^ j : Nat) ∧ Own byteCell 5 wr w.heap.size v (numBytes n j) ∧ Up w wr) (fun _ _ i _ => k - (intOf i).toNat)
  case atStart => exact ⟨0, Nat.zero_le _, rfl, by simp, Own.made byteCell _ w _ (Nat.le_refl _), up_alloc _ _⟩
  case round =>
    obtain ⟨j, hj, rfl, rfl, hown, upr⟩ := hrel
    by_cases hlt : j < k
    · have hsn := numBytes_snoc j n
      have hdv : n / 256 ^ (j + 1) = n / 256 ^ j / 256 := by rw [Nat.div_div_eq_div_mul, Nat.pow_succ]
      have hle : n / 256 ^ j ≤ n := Nat.div_le_self _ _
      have hlen := numBytes_length j n
      generalize n / 256 ^ j = x at *
      have hx8 := u8_mod x
      generalize hc : UInt8.ofNat (x % 256) = c at *
      have Hsn := Lib.hid hsn
      have Hdv := Lib.hid hdv
      have Hc8 := Lib.hid hx8
      clear hsn hdv hc hx8
      have e1 : IntKind.u8.wrap ((x : Int) % 256) = (c.toNat : Int) := by rw [Hc8.out, IntKind.wrap_u8']; omega
      go_wp2_with (at_builtin; refine wpList_append_ones byteCell byteCell_one rfl (.tmp 14) (.tmp 18) 24 rfl w.heap.size 5 (.int .u8 0) 1 Try.underlying24 info_u8 rfl _ _ rfl (hown.up (up_alloc wr _)) (.slice (some ⟨wr.heap.size, 0, none⟩) 1 1) [c] rfl (IsOnes.lit wr #[.int .u8 (c.toNat : Int)] 5 (0, 0) [c] 1 rfl (by unfold maxLen; omega) rfl) (by simp; omega) (by simp; omega) ((upr.alloc _).size) ?_)
      intro v' w3 hown3 _ hb3
      go_wp2_with fail
      go_roundw
      case rel => exact ⟨j + 1, by omega, by go_num, by rw [Hdv.out]; rfl, by rw [Hsn.out]; exact hown3, (upr.alloc _).below_trans hb3 (Nat.le_refl _)⟩
      case measure => simp [intOf]; omega
    · obtain rfl : j = k := by omega
      generalize hx : n / 256 ^ j = x at *
      have Hx := Lib.hid hx
      clear hx
      have hb : ((x : Int) == 0) = (x == 0) := by rw [Bool.eq_iff_iff]; simp
      go_wp2_with fail
      go_ret2
      refine ⟨_, ?_, hown, upr⟩
      rw [Hx.out]
      rfl

def PutPost (ws : List Int) (ns : List Nat) (w : World) (e : Ending) (w' : World) : Prop :=
  (okPut ws ns ∧ ∃ v, e = .returned (.tuple #[v, .int .i64 0]) ∧ Own byteCell 5 w' w.heap.size v (putBytes ws ns) ∧ Up w w') ∨
  (¬ okPut ws ns ∧ e = .returned (.tuple #[.slice none 0 0, .int .i64 21]) ∧ Up w w')

set_option maxHeartbeats 1000000 in
theorem refPut_any (w : World) (v : Value) (ws : List Int) (hv : IsOnes intCell w v ws) (hlen : ws.length * 8 ≤ 140737488351232) (u : Value) (ns : List Nat) (hu : IsOnes u64Cell w u ns) (hns : ∀ n ∈ ns, n < 18446744073709551616) :
    Calls Try.prog 11 #[v, u] w fun e w' => PutPost ws ns w e w' := by
  have hnl := hu.length_le
  obtain ⟨a, cap, rfl⟩ := hv.slice
  obtain ⟨a2, cap2, rfl⟩ := hu.slice
  by_cases heq : ws.length = ns.length
  case neg =>
    have ht : ((ws.length : Int) != (ns.length : Int)) = true := by simp; omega
    have Heq := Lib.hid heq
    clear heq
    go_enter Try.func11, Try.ntmps11
    go_wp2_with fail
    go_ret2
    exact .inr ⟨fun h => Heq.out h.1, rfl, Up.refl _⟩
  case pos =>
    have ht : ((ws.length : Int) != (ns.length : Int)) = false := by simp; omega
    obtain ⟨len, hl⟩ : ∃ len, len = ws.length := ⟨_, rfl⟩
    rw [← heq] at hu hnl ht ⊢
    rw [← hl] at hv hu hlen ht hnl ⊢
    have hl2 : len = ns.length := hl.trans heq
    have Hl := Lib.hid hl
    have Hl2 := Lib.hid hl2
    clear hl hl2 heq
    have Hns := Lib.hid hns
    clear hns
    go_enter Try.func11, Try.ntmps11
    go_wp2_with fail
    go_loopw [6, 19] (fun x i wr => ∃ k : Nat, k ≤ len ∧ i = .int .i64 k ∧ Own byteCell 5 wr w.heap.size x (putBytes (ws.take k) (ns.take k)) ∧ Up w wr ∧ okPut (ws.take k) (ns.take k)) (fun _ i _ => len - (intOf i).toNat)
    case atStart => exact ⟨0, Nat.zero_le _, rfl, Own.made byteCell _ w _ (Nat.le_refl _), up_alloc _ _, by simp [okPut, okWs, fits]⟩
    case round =>
      obtain ⟨k, hk, rfl, hown, upr, hok⟩ := hrel
      by_cases hlt : k < len
      · have k1 : k < ws.length := by have := Hl.out; omega
        have k2 : k < ns.length := by have := Hl2.out; omega
        obtain ⟨b, off, rfl, _, hc⟩ := get_of_ones hv Hl.out (by omega)
        obtain ⟨b2, off2, rfl, _, hc2⟩ := get_of_ones hu Hl2.out (by omega)
        have d1 := upr.cell (hc k k1)
        have d2 := upr.cell (hc2 k k2)
        unfold intCell at d1
        unfold u64Cell at d2
        have hsn := putBytes_take_succ ws ns k k1 k2
        have hnk : ns[k] < 18446744073709551616 := Hns.out _ (List.getElem_mem k2)
        have hmem : ws[k] ∈ ws := List.getElem_mem k1
        have hno : ¬ ns[k] < 256 ^ ws[k].toNat → ¬ okPut ws ns := fun hn hh => hn ((fits_iff ws ns).1 hh.2.2 k k1 k2)
        have hyes : 1 ≤ ws[k] ∧ ws[k] ≤ 8 → ns[k] < 256 ^ ws[k].toNat → okPut (ws.take (k + 1)) (ns.take (k + 1)) := by
          intro h1 h2
          refine ⟨by simp; omega, ?_, ?_⟩
          · intro x hx
            rw [take_snoc' ws k k1] at hx
            rcases List.mem_append.1 hx with hx | hx
            · exact hok.2.1 x hx
            · simp at hx; subst hx; exact h1
          · rw [fits_iff]
            intro i i1 i2
            simp at i1 i2
            rw [List.getElem_take, List.getElem_take]
            by_cases hik : i < k
            · have := (fits_iff _ _).1 hok.2.2 i (by simp; omega) (by simp; omega)
              rwa [List.getElem_take, List.getElem_take] at this
            · obtain rfl : i = k := by omega
              exact h2
        have hlb : (putBytes (ws.take k) (ns.take k)).length ≤ 8 * k := by
          rw [putBytes_length _ _ hok.1]
          have := total_le hok.2.1
          simp at this
          omega
        clear hc hc2
        generalize ws[k] = x at *
        generalize ns[k] = y at *
        have Hno := Lib.hid hno
        have Hyes := Lib.hid hyes
        have Hsn := Lib.hid hsn
        have Hmem := Lib.hid hmem
        have Hok := Lib.hid hok
        clear hno hyes hsn hmem hok
        by_cases h1 : x < 1
        · go_wp2_with fail
          go_ret2
          exact .inr ⟨fun hh => by have := hh.2.1 x Hmem.out; omega, rfl, upr⟩
        by_cases h8 : 8 < x
        · go_wp2_with fail
          go_ret2
          exact .inr ⟨fun hh => by have := hh.2.1 x Hmem.out; omega, rfl, upr⟩
        obtain ⟨m, rfl⟩ := Int.eq_ofNat_of_zero_le (show 0 ≤ x by omega)
        go_wp2_with fail
        refine (number_any wr y hnk m (by omega)).mono ?_
        rintro e w3 ⟨vb, rfl, hvb, up3⟩
        have hb3 := hvb.ones
        by_cases hfit : y / 256 ^ m = 0
        · have hf : y < 256 ^ m := by
            rcases Nat.lt_or_ge y (256 ^ m) with h | h
            · exact h
            · have := Nat.div_pos h (Nat.pow_pos (by omega)); omega
          have hbt : (y / 256 ^ m == 0) = true := by simpa using hfit
          rw [hbt]
          clear hfit hbt
          have hf' : y < 256 ^ ((m : Int)).toNat := by simpa using hf
          have hokk := Hyes.out ⟨by omega, by omega⟩ hf'
          have Hokk := Lib.hid hokk
          clear hokk hf hf'
          have hnb := numBytes_length m y
          generalize hnbb : numBytes y m = nb at *
          have Hnbb := Lib.hid hnbb
          clear hnbb
          obtain ⟨a5, c5, hv5⟩ := hb3.slice
          subst hv5
          rw [hnb] at hb3 hvb ⊢
          have Hnb := Lib.hid hnb
          clear hnb
          go_wp2_with (at_builtin; refine wpList_append_ones byteCell byteCell_one rfl (.tmp 41) (.tmp 42) 24 rfl w.heap.size 5 (.int .u8 0) 1 Try.underlying24 info_u8 rfl _ _ rfl (hown.up up3) (.slice a5 m c5) nb rfl hb3 (by have := Hnb.out; omega) (by have := Hnb.out; omega) ((upr.trans up3).size) ?_)
          intro v' w4 hown4 _ hb4
          go_wp2_with fail
          go_roundw
          case rel => exact ⟨k + 1, by omega, by go_num, by rw [Hsn.out]; simp only [Int.toNat_natCast]; rw [Hnbb.out]; exact hown4, (upr.trans up3).below_trans hb4 (Nat.le_refl _), Hokk.out⟩
          case measure => simp [intOf]; omega
        · have hf : ¬ y < 256 ^ ((m : Int)).toNat := by
            intro h
            exact hfit (Nat.div_eq_of_lt (by simpa using h))
          have hbf : (y / 256 ^ m == 0) = false := by simpa using hfit
          rw [hbf]
          clear hfit hbf
          have hnn := Hno.out hf
          have Hnn := Lib.hid hnn
          clear hnn hf
          obtain ⟨a5, c5, hv5⟩ := hb3.slice
          subst hv5
          go_wp2_with fail
          go_ret2
          exact .inr ⟨Hnn.out, rfl, upr.trans up3⟩
      · obtain rfl : k = len := by omega
        have e1 : ws.take k = ws := List.take_of_length_le (by have := Hl.out; omega)
        have e2 : ns.take k = ns := List.take_of_length_le (by have := Hl2.out; omega)
        rw [e1, e2] at hown hok
        have Hok := Lib.hid hok
        clear e1 e2 hok
        go_wp2_with fail
        go_ret2
        exact .inl ⟨Hok.out, _, rfl, hown, upr⟩
end Go.Proofs.Ytmapdpocmpnokaa
