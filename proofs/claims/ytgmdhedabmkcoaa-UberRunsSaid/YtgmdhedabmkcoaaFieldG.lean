/- The walks of the document's Value and Get, and of field.Get. -/
import Derived.Test.YtgmdhedabmkcoaaFieldW1
namespace Go.Proofs.Ytgmdhedabmkcoaa
open Go.RowKit

theorem bytes_elem : Try.prog.underlying 76 = some (.slice (Try.prog.elem 76)) := by kernel_rfl
theorem bytes_size (W : World) : (sizeOf (Try.prog.elem 76)).run Try.prog W = .ok 1 W := by kernel_rfl

theorem drop_cons {α : Type} (l : List α) (i : Nat) (h : i < l.length) : l.drop i = l[i] :: l.drop (i + 1) := List.drop_eq_getElem_cons h
theorem numVal_lt8 (l : List UInt8) (h : l.length ≤ 8) : numVal l < 18446744073709551616 := by
  have h1 := numVal_lt l
  have h2 : (256 : Nat) ^ l.length ≤ 256 ^ 8 := Nat.pow_le_pow_right (by omega) h
  omega
theorem numVal_lt7 (l : List UInt8) (h : l.length ≤ 7) : numVal l < 72057594037927936 := by
  have h1 := numVal_lt l
  have h2 : (256 : Nat) ^ l.length ≤ 256 ^ 7 := Nat.pow_le_pow_right (by omega) h
  omega

set_option maxHeartbeats 400000 in
theorem value_any (w : World) (v : Value) (l : List UInt8) (hv : IsBytes w v l) (h8 : l.length ≤ 8) :
    Calls Try.prog 43 #[v] w fun e w' => e = .returned (.int .u64 (numVal l : Nat)) ∧ w = w' := by
  obtain ⟨a, cap, rfl⟩ := hv.slice
  obtain ⟨n, hn⟩ : ∃ n, n = l.length := ⟨_, rfl⟩
  rw [← hn] at hv h8 ⊢
  have Hn := Lib.hid hn
  clear hn
  go_enter Try.func43, Try.ntmps43
  go_wp2_with fail
  go_loop [3, 4] (fun x i => ∃ k : Nat, k ≤ n ∧ i = .int .i64 ((k : Int) - 1) ∧ x = .int .u64 (numVal (l.drop k) : Nat)) (fun _ i => ((intOf i) + 1).toNat)
  case atStart => exact ⟨n, Nat.le_refl _, rfl, by rw [List.drop_of_length_le (by have := Hn.out; omega)]; rfl⟩
  case round =>
    obtain ⟨k, hk, rfl, rfl⟩ := hrel
    by_cases h0 : k = 0
    · subst h0
      generalize hx : numVal (l.drop 0) = x
      have Hx := Lib.hid hx
      clear hx
      go_wp2_with fail
      go_ret
      exact ⟨by rw [show numVal l = x from Hx.out]; rfl, rfl⟩
    · obtain ⟨j, rfl⟩ : ∃ j, k = j + 1 := ⟨k - 1, by omega⟩
      have hkl : j < l.length := by have := Hn.out; omega
      obtain ⟨b, off, rfl, _, hc⟩ := get_of_ones hv Hn.out (by omega)
      have d1 := hc j hkl
      unfold byteCell at d1
      have hd := drop_cons l j hkl
      have hlt := numVal_lt7 (l.drop (j + 1)) (by have := Hn.out; simp; omega)
      have hval : numVal (l.drop j) = numVal (l.drop (j + 1)) * 256 + l[j].toNat := by rw [hd, numVal_cons]
      have hc8 : l[j].toNat < 256 := l[j].toNat_lt
      clear hc hd
      generalize l[j].toNat = c at *
      generalize hx : numVal (l.drop (j + 1)) = x at *
      have Hval := Lib.hid hval
      clear hval hx
      have ej : ((j + 1 : Nat) : Int) - 1 = (j : Int) := by omega
      rw [ej]
      clear ej h0
      go_wp2_with fail
      go_round
      case rel => exact ⟨j, by omega, rfl, by rw [Hval.out]; simp⟩
      case measure => simp [intOf]

def GetPost (ws : List Int) (b : List UInt8) (w : World) (e : Ending) (w' : World) : Prop :=
  (okGet ws b ∧ ∃ v, e = .returned (.tuple #[v, .int .i64 0]) ∧ Own u64Cell 22 w' w.heap.size v (getNums ws b) ∧ Up w w') ∨
  (¬ okGet ws b ∧ e = .returned (.tuple #[.slice none 0 0, .int .i64 21]) ∧ Up w w')

theorem total_split (ws : List Int) (k : Nat) (h : k < ws.length) : total ws = total (ws.take k) + ws[k].toNat + total (ws.drop (k + 1)) := by
  conv => lhs; rw [← List.take_append_drop k ws, total_append, drop_cons ws k h, total_cons]
  omega

theorem or_shift (n c k : Nat) (h : n < 256 ^ k) : n ||| (c * 2 ^ (8 * k)) = n + 256 ^ k * c := by
  have h2 : (2 : Nat) ^ (8 * k) = 256 ^ k := by rw [Nat.pow_mul]
  have h3 := Nat.shiftLeft_add_eq_or_of_lt (b := n) (i := 8 * k) (by rw [h2]; exact h) c
  rw [Nat.shiftLeft_eq, h2] at h3
  rw [h2, Nat.or_comm, ← h3, Nat.mul_comm]
  omega

set_option maxHeartbeats 2000000 in
theorem get_any (w : World) (v : Value) (ws : List Int) (hv : IsOnes intCell w v ws) (hlen : ws.length * 8 ≤ 140737488351232) (u : Value) (b : List UInt8) (hu : IsBytes w u b) :
    Calls Try.prog 40 #[v, u] w fun e w' => GetPost ws b w e w' := by
  have hbl := hu.length_le
  have HR := Lib.hid (room_any w v ws hv hlen)
  obtain ⟨a, cap, rfl⟩ := hv.slice
  obtain ⟨a2, cap2, rfl⟩ := hu.slice
  by_cases hws : okWs ws
  case neg =>
    have Hws := Lib.hid hws
    clear hws
    go_enter Try.func40, Try.ntmps40
    go_wp2_with fail
    refine HR.out.mono ?_
    rintro e w1 ⟨⟨hh, _⟩ | ⟨_, rfl⟩, rfl⟩
    · exact absurd hh Hws.out
    go_wp2_with fail
    go_ret2
    exact .inr ⟨fun h => Hws.out h.1, rfl, Up.refl _⟩
  by_cases heq : b.length = total ws
  case neg =>
    have ht : ((b.length : Int) != (total ws : Int)) = true := by simp; omega
    have Heq := Lib.hid heq
    have Hws := Lib.hid hws
    clear heq hws
    go_enter Try.func40, Try.ntmps40
    go_wp2_with fail
    refine HR.out.mono ?_
    rintro e w1 ⟨⟨_, rfl⟩ | ⟨hh, _⟩, rfl⟩
    · go_wp2_with fail
      go_ret2
      exact .inr ⟨fun h => Heq.out h.2, rfl, Up.refl _⟩
    · exact absurd Hws.out hh
  have ht : ((b.length : Int) != (total ws : Int)) = false := by simp; omega
  have mk := run_make0 (P := Try.prog) 89 22 (.int .u64 0) 8 Try.underlying89 info_u64 ws.length (by omega) (by omega)
  have Heq := Lib.hid heq
  have Hws := Lib.hid hws
  clear heq
  go_enter Try.func40, Try.ntmps40
  go_wp2_with fail
  refine HR.out.mono ?_
  rintro e w1 ⟨⟨_, rfl⟩ | ⟨hh, _⟩, rfl⟩
  case inr => exact absurd Hws.out hh
  clear hws
  go_wp2_with fail
  go_loopw [1, 8, 31] (fun y x i wr => ∃ k : Nat, k ≤ ws.length ∧ i = .int .i64 k ∧ (∃ a' c', y = .slice a' (b.length - total (ws.take k)) c' ∧ b.length - total (ws.take k) ≤ c' ∧ IsBytes w (.slice a' (b.length - total (ws.take k)) c') (b.drop (total (ws.take k)))) ∧ Own u64Cell 22 wr w.heap.size x (getNums (ws.take k) b) ∧ Up w wr) (fun _ _ i _ => ws.length - (intOf i).toNat)
  case atStart =>
    refine ⟨0, Nat.zero_le _, rfl, ⟨a2, cap2, by simp [total], ?_, by simpa [total] using hu⟩, Own.room u64Cell _ w _ _ _ (Nat.le_refl _) (by omega), up_alloc _ _⟩
    rcases hu with ⟨hb, a', c', h1, _⟩ | ⟨bb, oo, cc, h1, _, h2, _⟩
    · rw [hb]; simp
    · simp at h1; omega
  case round =>
    obtain ⟨k, hk, rfl, ⟨a', c', rfl, hcc, hrest⟩, hown, upr⟩ := hrel
    obtain ⟨wo, rfl⟩ : ∃ wo : World, wo = wr := ⟨_, rfl⟩
    have hgl := getNums_length (ws.take k) b
    have htk : (ws.take k).length ≤ k := List.length_take_le _ _
    by_cases hlt : k < ws.length
    · obtain ⟨bb, off, rfl, _, hc⟩ := get_of_ones hv rfl (by omega)
      have d1 := upr.cell (hc k hlt)
      unfold intCell at d1
      have hts := total_take_succ ws k hlt
      have hsp := total_split ws k hlt
      have hgs := getNums_take_succ ws b k hlt
      have hwk := Hws.out _ (List.getElem_mem hlt)
      clear hc
      generalize ws[k] = x at *
      obtain ⟨m, rfl⟩ := Int.eq_ofNat_of_zero_le (show 0 ≤ x by omega)
      simp only [Int.toNat_natCast] at hts hsp hgs
      have hgl2 : (getNums (ws.take k) b).length ≤ k := by omega
      have hbtot := Heq.out
      have hroom : m ≤ b.length - total (ws.take k) := by omega
      have hdl : (b.drop (total (ws.take k))).length = b.length - total (ws.take k) := by simp
      have hds : b.drop (total (ws.take (k + 1))) = (b.drop (total (ws.take k))).drop m := by rw [hts, List.drop_drop]
      have hln : b.length - total (ws.take (k + 1)) = b.length - total (ws.take k) - m := by rw [hts]; omega
      generalize b.drop (total (ws.take k)) = r at *
      generalize b.length - total (ws.take k) = rl at *
      generalize getNums (ws.take k) b = gn at *
      have Hds := Lib.hid hds
      have Hln := Lib.hid hln
      have Hgs := Lib.hid hgs
      have Hdl := Lib.hid hdl
      clear hds hln hgs hts hsp hgl htk hbtot hdl
      obtain ⟨b3, o3, hb3e, _, hc3⟩ := get_of_ones hrest Hdl.out.symm (by have := Hdl.out; omega)
      subst hb3e
      have hsl := run_piece_from (P := Try.prog) 76 bytes_elem bytes_size (some ⟨b3, o3, none⟩) rl c' m hroom
      have hpc := hrest.piece (lo := m) (hi := rl) (by omega) (by have := Hdl.out; omega)
      rw [show r.take rl = r from List.take_of_length_le (by have := Hdl.out; omega)] at hpc
      have Hc3 := Lib.hid hc3
      clear hc3
      go_wp2_with fail
      go_loop [11, 36] (fun n i => ∃ j : Nat, j ≤ m ∧ i = .int .i64 j ∧ n = .int .u64 (numVal (r.take j) : Nat)) (fun _ i => m - (intOf i).toNat)
      case atStart => exact ⟨0, Nat.zero_le _, rfl, rfl⟩
      case round =>
        obtain ⟨j, hj, rfl, rfl⟩ := hrel
        by_cases hjm : j < m
        · have hjr : j < r.length := by have := Hdl.out; omega
          have d3 := upr.cell (Hc3.out j hjr)
          unfold byteCell at d3
          have htl : (r.take j).length = j := by simp; omega
          have hstep : numVal (r.take (j + 1)) = numVal (r.take j) + 256 ^ j * r[j].toNat := by rw [take_snoc' r j hjr, numVal_snoc, htl]
          have hlt1 : numVal (r.take j) < 256 ^ j := by have := numVal_lt (r.take j); rwa [htl] at this
          have hc8 : r[j].toNat < 256 := r[j].toNat_lt
          have hs8 := numVal_lt8 (r.take (j + 1)) (by simp; omega)
          have hor := or_shift (numVal (r.take j)) r[j].toNat j hlt1
          generalize hcc : r[j].toNat = c at *
          have hmul : c * 2 ^ (8 * j) < 18446744073709551616 := by
            have : c * 2 ^ (8 * j) = 256 ^ j * c := by rw [show (2 : Nat) ^ (8 * j) = 256 ^ j from by rw [Nat.pow_mul], Nat.mul_comm]
            omega
          have hxs : numVal (r.take j) < 18446744073709551616 := by omega
          generalize numVal (r.take j) = x at *
          have e1 : IntKind.u64.wrap ((c : Int) * 2 ^ (8 * j)) = ((c * 2 ^ (8 * j) : Nat) : Int) := by
            rw [show ((c : Int) * 2 ^ (8 * j)) = ((c * 2 ^ (8 * j) : Nat) : Int) from by simp]
            exact IntWalk.u64_in _ (by omega)
          have e2 : bits .or .u64 (x : Int) ((c * 2 ^ (8 * j) : Nat) : Int) = ((x + 256 ^ j * c : Nat) : Int) := by
            rw [u64_or_nat _ _ hxs hmul, hor]
          generalize hz : c * 2 ^ (8 * j) = z at *
          generalize hy : x + 256 ^ j * c = y at *
          have Hstep := Lib.hid hstep
          have Hz := Lib.hid hz
          clear hstep hor hlt1 hmul htl hcc hz hy
          go_wp2_with fail
          go_round
          case rel => exact ⟨j + 1, by omega, by go_num, by rw [Hstep.out]⟩
          case measure => simp [intOf]; omega
        · obtain rfl : j = m := by omega
          have hvl := numVal_lt8 (r.take j) (by simp; omega)
          generalize hnv : numVal (r.take j) = nv at *
          have Hnv := Lib.hid hnv
          clear hnv
          go_wp2_with (at_builtin; refine wpList_append_ones u64Cell u64Cell_one rfl (.tmp 50) (.tmp 52) 89 rfl w.heap.size 22 (.int .u64 0) 8 Try.underlying89 info_u64 rfl _ _ rfl (hown.up (up_alloc wo _)) (.slice (some ⟨wo.heap.size, 0, none⟩) 1 1) [nv] rfl (IsOnes.lit wo #[.int .u64 (nv : Int)] 22 (0, 0) [nv] 1 rfl (by unfold maxLen; omega) rfl) (by simp; omega) (by simp; omega) ((upr.alloc _).size) ?_)
          intro v' w4 hown4 _ hb4
          go_wp2_with fail
          go_roundw
          case rel => exact ⟨k + 1, by omega, by go_num, by rw [Hln.out, Hds.out]; exact ⟨_, _, rfl, by omega, hpc⟩, by rw [Hgs.out]; exact hown4, (upr.alloc _).below_trans hb4 (Nat.le_refl _)⟩
          case measure => simp [intOf]; omega
    · obtain rfl : k = ws.length := by omega
      rw [List.take_length] at hown
      go_wp2_with fail
      go_ret2
      exact .inl ⟨⟨Hws.out, Heq.out⟩, _, rfl, hown, upr⟩
end Go.Proofs.Ytgmdhedabmkcoaa
