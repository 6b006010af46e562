/- The walk of the document's Get. -/
import Derived.Test.YthbfhlphclgnaaaFieldG
namespace Go.Proofs.Ythbfhlphclgnaaa
open Go.RowKit

set_option maxHeartbeats 2000000 in
theorem refGet_any (w : World) (v : Value) (ws : List Int) (hv : IsOnes intCell w v ws) (hlen : ws.length * 8 ≤ 140737488351232) (u : Value) (b : List UInt8) (hu : IsBytes w u b) :
    Calls Try.prog 36 #[v, u] w fun e w' => GetPost ws b w e w' := by
  have hbl := hu.length_le
  obtain ⟨a, cap, rfl⟩ := hv.slice
  obtain ⟨a2, cap2, rfl⟩ := hu.slice
  have hcap : b.length ≤ cap2 := by
    rcases hu with ⟨hb, a', c', h1, _⟩ | ⟨bb, oo, cc, h1, _, h2, _⟩
    · rw [hb]; simp
    · simp at h1; omega
  go_enter Try.func36, Try.ntmps36
  go_wp2_with fail
  go_loopw [6, 7, 13] (fun x t i wr => ∃ k : Nat, k ≤ ws.length ∧ i = .int .i64 k ∧ okWs (ws.take k) ∧ total (ws.take k) ≤ b.length ∧ t = .int .i64 (total (ws.take k) : Nat) ∧ Own u64Cell 22 wr w.heap.size x (getNums (ws.take k) b) ∧ Up w wr) (fun _ _ i _ => ws.length - (intOf i).toNat)
  case atStart => exact ⟨0, Nat.zero_le _, rfl, by intro x hx; simp at hx, by simp [total], rfl, Own.made u64Cell _ w _ (Nat.le_refl _), up_alloc _ _⟩
  case round =>
    obtain ⟨k, hk, rfl, hok, htb, rfl, hown, upr⟩ := hrel
    have hgl := getNums_length (ws.take k) b
    have htk : (ws.take k).length ≤ k := List.length_take_le _ _
    by_cases hlt : k < ws.length
    · obtain ⟨bb, off, rfl, _, hc⟩ := get_of_ones hv rfl (by omega)
      have d1 := upr.cell (hc k hlt)
      unfold intCell at d1
      have hmem : ws[k] ∈ ws := List.getElem_mem hlt
      have hts := total_take_succ ws k hlt
      have hsp := total_split ws k hlt
      have hgs := getNums_take_succ ws b k hlt
      have hnext : 1 ≤ ws[k] ∧ ws[k] ≤ 8 → okWs (ws.take (k + 1)) := by
        intro h1 x hx
        rw [take_snoc' ws k hlt] at hx
        rcases List.mem_append.1 hx with hx | hx
        · exact hok x hx
        · simp at hx; subst hx; exact h1
      clear hc
      generalize ws[k] = x at *
      have Hmem := Lib.hid hmem
      have Hts := Lib.hid hts
      have Hsp := Lib.hid hsp
      have Hgs := Lib.hid hgs
      have Hnext := Lib.hid hnext
      clear hmem hts hsp hgs hnext hok
      have hgl2 : (getNums (ws.take k) b).length ≤ k := by omega
      generalize total (ws.take k) = tk at *
      generalize getNums (ws.take k) b = gn at *
      clear hgl htk
      by_cases h1 : x < 1
      · go_wp2_with fail
        go_ret2
        exact .inr ⟨fun hh => by have := hh.1 x Hmem.out; omega, rfl, upr⟩
      by_cases h8 : 8 < x
      · go_wp2_with fail
        go_ret2
        exact .inr ⟨fun hh => by have := hh.1 x Hmem.out; omega, rfl, upr⟩
      obtain ⟨m, rfl⟩ := Int.eq_ofNat_of_zero_le (show 0 ≤ x by omega)
      by_cases hroom : b.length < tk + m
      · have hr : ((b.length : Int) - (tk : Int)) < (m : Int) := by omega
        go_wp2_with fail
        go_ret2
        exact .inr ⟨fun hh => by have := hh.2; have := Hsp.out; simp at this; omega, rfl, upr⟩
      have hr : ¬ ((b.length : Int) - (tk : Int)) < (m : Int) := by omega
      have hsl : ∀ W, (Instr.slice 29 (.slice a2 b.length cap2) (some (.int .i64 (tk : Int))) (some (.int .i64 ((tk : Int) + (m : Int)))) none).run Try.prog W = .ok (pieceOf a2 tk (tk + m) cap2) W := by
        intro W
        have := run_piece (P := Try.prog) 29 bytes_elem bytes_size a2 b.length cap2 tk (tk + m) (by omega) (by omega) W
        simpa using this
      have hpc := hu.piece (lo := tk) (hi := tk + m) (by omega) (by omega)
      have hpe : (b.take (tk + m)).drop tk = (b.drop tk).take m := by rw [List.take_drop]
      rw [hpe] at hpc
      have hplen : ((b.drop tk).take m).length ≤ 8 := by simp; omega
      have hvl := numVal_lt8 _ hplen
      clear hpe
      go_wp2_with fail
      refine (value_any wr _ _ (hpc.up upr) hplen).mono ?_
      rintro e w3 ⟨rfl, rfl⟩
      have hgs := Hgs.out
      simp only [Int.toNat_natCast] at hgs
      generalize numVal ((b.drop tk).take m) = nv at *
      have Hgs2 := Lib.hid hgs
      clear hgs hsl hpc hplen
      go_wp2_with (at_builtin; refine wpList_append_ones u64Cell u64Cell_one rfl (.tmp 31) (.tmp 39) 53 rfl w.heap.size 22 (.int .u64 0) 8 Try.underlying53 info_u64 rfl _ _ rfl (hown.up (up_alloc wr _)) (.slice (some ⟨wr.heap.size, 0, none⟩) 1 1) [nv] rfl (IsOnes.lit wr #[.int .u64 (nv : Int)] 22 (0, 0) [nv] 1 rfl (by unfold maxLen; omega) rfl) (by simp; omega) (by simp; omega) ((upr.alloc _).size) ?_)
      intro v' w4 hown4 _ hb4
      go_wp2_with fail
      go_roundw
      case rel => exact ⟨k + 1, by omega, by go_num, Hnext.out ⟨by omega, by omega⟩, by rw [Hts.out]; simp; omega, by rw [Hts.out]; simp, by rw [Hgs2.out]; exact hown4, (upr.alloc _).below_trans hb4 (Nat.le_refl _)⟩
      case measure => simp [intOf]; omega
    · obtain rfl : k = ws.length := by omega
      rw [List.take_length] at *
      by_cases hend : total ws = b.length
      · have hb : ((total ws : Int) != (b.length : Int)) = false := by simp; omega
        have Hend := Lib.hid hend
        have Hok := Lib.hid hok
        clear hend hok
        go_wp2_with fail
        go_ret2
        exact .inl ⟨⟨Hok.out, Hend.out.symm⟩, _, rfl, hown, upr⟩
      · have hb : ((total ws : Int) != (b.length : Int)) = true := by simp; omega
        have Hend := Lib.hid hend
        clear hend
        go_wp2_with fail
        go_ret2
        exact .inr ⟨fun hh => Hend.out hh.2.symm, rfl, upr⟩
end Go.Proofs.Ythbfhlphclgnaaa
