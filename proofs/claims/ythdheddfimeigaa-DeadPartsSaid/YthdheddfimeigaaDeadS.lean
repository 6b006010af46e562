/- Split of both sides, and Same: the walks. -/
import Derived.Test.YthdheddfimeigaaDead
set_option linter.unusedSimpArgs false
namespace Go.Proofs.Ythdheddfimeigaa
open Go.RowKit Go.Sort

def oldL (s : Nat) (l : List PtrD) : List PtrD := l.filter (fun p => decide (p.birth ≤ s))
def youngL (s : Nat) (l : List PtrD) : List PtrD := l.filter (fun p => decide (s < p.birth))
theorem info_ptr : (Try.prog.info? 29).map (fun i => (i.zero, i.size, i.bytes)) = some (some (.agg #[.int .i64 0, .int .u64 0, .int .u32 0]), 3, 24) := by kernel_rfl
theorem filter_snoc {α : Type} (p : α → Bool) (l : List α) (k : Nat) (h : k < l.length) : (l.take (k + 1)).filter p = (l.take k).filter p ++ (if p l[k] = true then [l[k]] else []) := by
  rw [List.take_succ_eq_append_getElem h, List.filter_append]
  congr 1
  by_cases hp : p l[k] = true
  · simp [hp]
  · simp [hp]
/-- One pointer as it lies in a new block. -/
theorem one_lit (w : World) (b : Nat) (hb : b = w.heap.size) (l : Int) (bi s : Nat) : IsPtrs (w.alloc (.cells #[.int .i64 l, .int .u64 bi, .int .u32 s] 29)) (.slice (some ⟨b, 0, none⟩) 1 1) [⟨l, bi, s⟩] :=
  IsRow.litAt w b hb _ _ _ _ _ rfl (by unfold maxLen; omega) rfl

set_option maxHeartbeats 4000000 in
theorem split_any (w : World) (v : Value) (l : List PtrD) (hv : IsPtrs w v l) (s : Nat) (hr : l.length * 24 ≤ 140737488355328) :
    Calls Try.prog 16 #[v, .int .u64 (s : Int)] w fun e w' => ∃ u1 u2, e = .returned (.tuple #[u1, u2]) ∧ OwnPtrs w' w.heap.size u1 (oldL s l) ∧ OwnPtrs w' w.heap.size u2 (youngL s l) ∧ Up w w' := by
  have hlen := hv.length_le
  obtain ⟨a, cap, rfl⟩ := hv.slice
  go_enter Try.func16, Try.ntmps16
  go_wp2_with fail
  go_loopw [6, 7, 12] (fun u1 u2 i wr => ∃ k : Nat, k ≤ l.length ∧ i = .int .i64 k ∧ OwnPtrs wr w.heap.size u1 (oldL s (l.take k)) ∧ OwnPtrs wr w.heap.size u2 (youngL s (l.take k)) ∧ Apart u1 u2 ∧ Up w wr) (fun _ _ i _ => l.length - (intOf i).toNat)
  case atStart => exact ⟨0, Nat.zero_le _, rfl, OwnRow.nil _ _ _ _ _, OwnRow.nil _ _ _ _ _, .inl rfl, Up.refl _⟩
  case round =>
    obtain ⟨k, hk, rfl, ho1, ho2, hap, upr⟩ := hrel
    by_cases hlt : k < l.length
    · obtain ⟨b, off, rfl, hbs, hnc, hc⟩ := ptrs_at (IsRow.up hv upr) (by omega)
      have hc0 := (hc k hlt).1
      have hc1 := (hc k hlt).2.1
      have hc2 := (hc k hlt).2.2
      have b2 : ((k : Int) < (l.length : Int)) = True := by simp; omega
      have S := Lib.hid (fun W => since_any W l[k] s)
      have E1 := Lib.hid (filter_snoc (fun p : PtrD => decide (p.birth ≤ s)) l k hlt)
      have E2 := Lib.hid (filter_snoc (fun p : PtrD => decide (s < p.birth)) l k hlt)
      have hsb := sinceB_iff l[k].loc l[k].birth l[k].sum s
      have hlp : l[k] = ⟨l[k].loc, l[k].birth, l[k].sum⟩ := rfl
      rw [← hlp] at hsb
      have HSB := Lib.hid hsb
      clear hc hsb hlp
      have hl1 : (oldL s (l.take k)).length ≤ k := by unfold oldL; exact Nat.le_trans (List.length_filter_le _ _) (by rw [List.length_take]; omega)
      have hl2 : (youngL s (l.take k)).length ≤ k := by unfold youngL; exact Nat.le_trans (List.length_filter_le _ _) (by rw [List.length_take]; omega)
      generalize l[k] = p at *
      obtain ⟨pl, pb, ps⟩ := p
      unfold ptrV at S
      simp only at S hc0 hc1 hc2 E1 E2 HSB
      generalize sinceB ⟨pl, pb, ps⟩ s = g at *
      have HO1 := Lib.hid ho1
      have HO2 := Lib.hid ho2
      have HAP := Lib.hid hap
      have HV := Lib.hid hv
      clear ho1 ho2 hap hv
      go_wp2_with fail
      refine (S.out _).mono ?_
      rintro e w3 ⟨rfl, up3⟩
      have upa := (up_alloc wr (.cells #[.int .i64 pl, .int .u64 pb, .int .u32 ps] 29)).trans up3
      have d0 : w3.cell? ⟨wr.heap.size, 0, none⟩ = some (.int .i64 pl) := up3.cell (cell_new wr _ _ _ 0 _ rfl)
      have d1 : w3.cell? ⟨wr.heap.size, 1, none⟩ = some (.int .u64 pb) := up3.cell (cell_new wr _ _ _ 1 _ rfl)
      have d2 : w3.cell? ⟨wr.heap.size, 2, none⟩ = some (.int .u32 ps) := up3.cell (cell_new wr _ _ _ 2 _ rfl)
      have o1 := HO1.out.up upa
      have o2 := HO2.out.up upa
      have upr3 := upr.trans upa
      have hb3 := upr3.size
      clear up3
      cases g
      · have hno : ¬ s < pb := by
          intro h
          have := HSB.out.2 ⟨by omega, h⟩
          cases this
        have e1 : oldL s (l.take (k + 1)) = oldL s (l.take k) ++ [⟨pl, pb, ps⟩] := by
          unfold oldL
          rw [E1.out, if_pos (by simp; omega)]
        have e2 : youngL s (l.take (k + 1)) = youngL s (l.take k) := by
          unfold youngL
          rw [E2.out, if_neg (by simp; omega), List.append_nil]
        have HE1 := Lib.hid e1
        have HE2 := Lib.hid e2
        clear e1 e2
        go_wp2_with (at_builtin; refine wpList_append_rowW pw rfl (.tmp 23) (.tmp 25) 22 rfl w.heap.size 29 (.agg #[.int .i64 0, .int .u64 0, .int .u32 0]) 24 Try.underlying22 info_ptr rfl _ (oldL s (l.take k)) rfl (o1.up (up_alloc _ _)) (.slice (some ⟨w3.heap.size, 0, none⟩) 1 1) [⟨pl, pb, ps⟩] rfl (one_lit w3 w3.heap.size rfl pl pb ps) (by simp; omega) (by simp; omega) (by have := (up_alloc w3 (.cells #[.int .i64 pl, .int .u64 pb, .int .u32 ps] 29)).size; omega) ?_)
        intro v' w5 hown5 hg5 hb5 hwh5
        have o2' := o2.up (up_alloc w3 (.cells #[.int .i64 pl, .int .u64 pb, .int .u32 ps] 29))
        have k2 := o2'.kept hg5 (Apart.symm HAP.out)
        have ap := ((Apart.symm HAP.out).grown hwh5 (fun n hn => (o2'.block_lt n hn).2)).symm
        go_wp2_with fail
        go_roundw
        case rel => exact ⟨k + 1, by omega, by go_num, by rw [HE1.out]; exact hown5, by rw [HE2.out]; exact k2, ap, (upr3.alloc _).below_trans hb5 (Nat.le_refl _)⟩
        case measure => simp [intOf]; omega
      · have hyes := (HSB.out.1 rfl).2
        have e1 : oldL s (l.take (k + 1)) = oldL s (l.take k) := by
          unfold oldL
          rw [E1.out, if_neg (by simp; omega), List.append_nil]
        have e2 : youngL s (l.take (k + 1)) = youngL s (l.take k) ++ [⟨pl, pb, ps⟩] := by
          unfold youngL
          rw [E2.out, if_pos (by simp; omega)]
        have HE1 := Lib.hid e1
        have HE2 := Lib.hid e2
        clear e1 e2
        go_wp2_with (at_builtin; refine wpList_append_rowW pw rfl (.tmp 19) (.tmp 21) 22 rfl w.heap.size 29 (.agg #[.int .i64 0, .int .u64 0, .int .u32 0]) 24 Try.underlying22 info_ptr rfl _ (youngL s (l.take k)) rfl (o2.up (up_alloc _ _)) (.slice (some ⟨w3.heap.size, 0, none⟩) 1 1) [⟨pl, pb, ps⟩] rfl (one_lit w3 w3.heap.size rfl pl pb ps) (by simp; omega) (by simp; omega) (by have := (up_alloc w3 (.cells #[.int .i64 pl, .int .u64 pb, .int .u32 ps] 29)).size; omega) ?_)
        intro v' w5 hown5 hg5 hb5 hwh5
        have o1' := o1.up (up_alloc w3 (.cells #[.int .i64 pl, .int .u64 pb, .int .u32 ps] 29))
        have k1 := o1'.kept hg5 HAP.out
        have ap := HAP.out.grown hwh5 (fun n hn => (o1'.block_lt n hn).2)
        go_wp2_with fail
        go_roundw
        case rel => exact ⟨k + 1, by omega, by go_num, by rw [HE1.out]; exact k1, by rw [HE2.out]; exact hown5, ap, (upr3.alloc _).below_trans hb5 (Nat.le_refl _)⟩
        case measure => simp [intOf]; omega
    · obtain rfl : k = l.length := by omega
      rw [List.take_length] at *
      go_wp2_with fail
      go_ret2
      exact ⟨_, _, rfl, ho1, ho2, upr⟩
end Go.Proofs.Ythdheddfimeigaa
