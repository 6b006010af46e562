/- Same, the document's Split: the walks. -/
import Derived.Test.YthdheddfimeigaaDeadS
set_option linter.unusedSimpArgs false
namespace Go.Proofs.Ythdheddfimeigaa
open Go.RowKit Go.Sort

theorem ptr_eq (l l2 : Int) (b s b2 s2 : Nat) (W : World) : (Op.equalIn 10000 29 (.agg #[.int .i64 l, .int .u64 (b : Int), .int .u32 (s : Int)]) (.agg #[.int .i64 l2, .int .u64 (b2 : Int), .int .u32 (s2 : Int)])).run Try.prog W = .ok (decide ((⟨l, b, s⟩ : PtrD) = ⟨l2, b2, s2⟩)) W := by
  have e : decide ((⟨l, b, s⟩ : PtrD) = ⟨l2, b2, s2⟩) = ((l == l2) && (((b : Int) == (b2 : Int)) && ((s : Int) == (s2 : Int)))) := by
    rw [Bool.eq_iff_iff]
    simp
    omega
  rw [e]
  clear e
  cases h : (l == l2) <;> cases h2 : ((b : Int) == (b2 : Int)) <;> cases h3 : ((s : Int) == (s2 : Int))
  all_goals go_simp

theorem take_eq_step {α : Type} {l m : List α} {k : Nat} (h1 : k < l.length) (h2 : k < m.length) (h : l.take k = m.take k) (he : l[k] = m[k]) : l.take (k + 1) = m.take (k + 1) := by
  rw [List.take_succ_eq_append_getElem h1, List.take_succ_eq_append_getElem h2, h, he]

set_option maxHeartbeats 4000000 in
theorem same_any (w : World) (v v2 : Value) (l m : List PtrD) (hv : IsPtrs w v l) (hv2 : IsPtrs w v2 m) :
    Calls Try.prog 18 #[v, v2] w fun e w' => BoolUp (decide (l = m)) w e w' := by
  have hlen := hv.length_le
  have hlen2 := hv2.length_le
  obtain ⟨a, cap, rfl⟩ := hv.slice
  obtain ⟨a2, cap2, rfl⟩ := hv2.slice
  by_cases hl : l.length = m.length
  case neg =>
    have ht : ((l.length : Int) != (m.length : Int)) = true := by simp; omega
    have hb : decide (l = m) = false := by simp; rintro rfl; exact hl rfl
    have HB := Lib.hid hb
    clear hb hl
    go_enter Try.func18, Try.ntmps18
    go_wp2_with fail
    go_ret
    exact ⟨by rw [HB.out] <;> rfl, Up.refl _⟩
  obtain ⟨n, hn⟩ : ∃ n, n = l.length := ⟨_, rfl⟩
  have hn2 : m.length = n := by omega
  have ht : ((n : Int) != (n : Int)) = false := by simp
  rw [← hn] at hv hlen ⊢
  rw [hn2] at hv2 ⊢
  have HL := Lib.hid hn
  have HM := Lib.hid hn2
  clear hn hn2 hl
  have HV := Lib.hid hv
  have HV2 := Lib.hid hv2
  clear hv hv2
  go_enter Try.func18, Try.ntmps18
  go_wp2_with fail
  clear ht
  go_loopw [13] (fun i wr => ∃ k : Nat, k ≤ n ∧ i = .int .i64 k ∧ l.take k = m.take k ∧ Up w wr) (fun i _ => n - (intOf i).toNat)
  case atStart => exact ⟨0, Nat.zero_le _, rfl, by simp, Up.refl _⟩
  case round =>
    obtain ⟨k, hk, rfl, heq, upr⟩ := hrel
    by_cases hlt : k < n
    · have k1 : k < l.length := by have := HL.out; omega
      have k2 : k < m.length := by have := HM.out; omega
      obtain ⟨b, off, rfl, hbs, hnc, hc⟩ := ptrs_at (IsRow.up HV.out upr) (by omega)
      obtain ⟨b', off', rfl, hbs', hnc', hc'⟩ := ptrs_at (IsRow.up HV2.out upr) (by omega)
      have c0 := (hc k k1).1
      have c1 := (hc k k1).2.1
      have c2 := (hc k k1).2.2
      have d0 := (hc' k k2).1
      have d1 := (hc' k k2).2.1
      have d2 := (hc' k k2).2.2
      have b2 : ((k : Int) < (n : Int)) = True := by simp; omega
      have NE := fun W => ptr_eq l[k].loc m[k].loc l[k].birth l[k].sum m[k].birth m[k].sum W
      have HST := Lib.hid (fun h => take_eq_step k1 k2 heq h)
      have HNE : l[k] ≠ m[k] → decide (l = m) = false := fun h => by
        simp only [decide_eq_false_iff_not]
        rintro rfl
        exact h rfl
      have HNE' := Lib.hid HNE
      have hp1 : (⟨l[k].loc, l[k].birth, l[k].sum⟩ : PtrD) = l[k] := rfl
      have hp2 : (⟨m[k].loc, m[k].birth, m[k].sum⟩ : PtrD) = m[k] := rfl
      rw [hp1, hp2] at NE
      clear HNE hp1 hp2 hc hc' heq
      by_cases hpq : l[k] = m[k]
      · have HEQ := Lib.hid (HST.out hpq)
        have hd : decide (l[k] = m[k]) = true := by simpa using hpq
        rw [hd] at NE
        clear hd hpq HST HNE'
        generalize l[k] = p at *
        generalize m[k] = q at *
        obtain ⟨pl, pb, ps⟩ := p
        obtain ⟨ql, qb, qs⟩ := q
        simp only at c0 c1 c2 d0 d1 d2 NE
        go_wp2_with fail
        go_quiet (fail)
        go_wp2_with fail
        go_roundw
        case rel => exact ⟨k + 1, by omega, by simp, HEQ.out, upr.drewN _⟩
        case measure => simp [intOf]; omega
      · have hd : decide (l[k] = m[k]) = false := by simpa using hpq
        have HF := Lib.hid (HNE'.out hpq)
        rw [hd] at NE
        clear hd hpq HST HNE'
        generalize l[k] = p at *
        generalize m[k] = q at *
        obtain ⟨pl, pb, ps⟩ := p
        obtain ⟨ql, qb, qs⟩ := q
        simp only at c0 c1 c2 d0 d1 d2 NE
        go_wp2_with fail
        go_quiet (fail)
        go_wp2_with fail
        go_ret
        exact ⟨by rw [HF.out] <;> rfl, upr.drewN _⟩
    · obtain rfl : k = n := by omega
      have hb : decide (l = m) = true := by
        have h1 : l.take k = l := List.take_of_length_le (by have := HL.out; omega)
        have h2 : m.take k = m := List.take_of_length_le (by have := HM.out; omega)
        rw [h1, h2] at heq
        simpa using heq
      have HB := Lib.hid hb
      clear hb heq
      go_wp2_with fail
      go_ret
      exact ⟨by rw [HB.out] <;> rfl, upr⟩

set_option maxHeartbeats 4000000 in
theorem rsplit_any (w : World) (v : Value) (l : List PtrD) (hv : IsPtrs w v l) (s : Nat) (hr : l.length * 24 ≤ 140737488355328) :
    Calls Try.prog 17 #[v, .int .u64 (s : Int)] w fun e w' => ∃ u1 u2, e = .returned (.tuple #[u1, u2]) ∧ OwnPtrs w' w.heap.size u1 (oldL s l) ∧ OwnPtrs w' w.heap.size u2 (youngL s l) ∧ Up w w' := by
  have hlen := hv.length_le
  obtain ⟨a, cap, rfl⟩ := hv.slice
  go_enter Try.func17, Try.ntmps17
  go_wp2_with fail
  have hm1 : OwnPtrs ((w.alloc (.cells #[] 29)).alloc (.cells #[] 29)) w.heap.size (.slice (some ⟨w.heap.size, 0, none⟩) 0 0) [] := (OwnRow.made pcells 3 29 w w.heap.size (Nat.le_refl _)).up (up_alloc _ _)
  have hm2 : OwnPtrs ((w.alloc (.cells #[] 29)).alloc (.cells #[] 29)) w.heap.size (.slice (some ⟨w.heap.size + 1, 0, none⟩) 0 0) [] := by
    have := OwnRow.made pcells 3 29 (w.alloc (.cells #[] 29)) w.heap.size (up_alloc _ _).size
    rw [World.size_alloc] at this
    exact this
  go_loopw [6, 7, 14] (fun u1 u2 i wr => ∃ k : Nat, k ≤ l.length ∧ i = .int .i64 k ∧ OwnPtrs wr w.heap.size u1 (oldL s (l.take k)) ∧ OwnPtrs wr w.heap.size u2 (youngL s (l.take k)) ∧ Apart u1 u2 ∧ Up w wr) (fun _ _ i _ => l.length - (intOf i).toNat)
  case atStart => exact ⟨0, Nat.zero_le _, rfl, hm1, hm2, .inr (by simp [Value.ownBlock]), (up_alloc _ _).alloc _⟩
  case round =>
    obtain ⟨k, hk, rfl, ho1, ho2, hap, upr⟩ := hrel
    clear hm1 hm2
    by_cases hlt : k < l.length
    · obtain ⟨b, off, rfl, hbs, hnc, hc⟩ := ptrs_at (IsRow.up hv upr) (by omega)
      have hc0 := (hc k hlt).1
      have hc1 := (hc k hlt).2.1
      have hc2 := (hc k hlt).2.2
      have b2 : ((k : Int) < (l.length : Int)) = True := by simp; omega
      have E1 := Lib.hid (filter_snoc (fun p : PtrD => decide (p.birth ≤ s)) l k hlt)
      have E2 := Lib.hid (filter_snoc (fun p : PtrD => decide (s < p.birth)) l k hlt)
      have hl1 : (oldL s (l.take k)).length ≤ k := by unfold oldL; exact Nat.le_trans (List.length_filter_le _ _) (by rw [List.length_take]; omega)
      have hl2 : (youngL s (l.take k)).length ≤ k := by unfold youngL; exact Nat.le_trans (List.length_filter_le _ _) (by rw [List.length_take]; omega)
      clear hc
      generalize l[k] = p at *
      obtain ⟨pl, pb, ps⟩ := p
      simp only at hc0 hc1 hc2 E1 E2
      have HO1 := Lib.hid ho1
      have HO2 := Lib.hid ho2
      have HAP := Lib.hid hap
      have HV := Lib.hid hv
      clear ho1 ho2 hap hv
      by_cases hsp : s < pb
      case neg =>
        have t1 : decide ((s : Int) < (pb : Int)) = false := by simp; omega
        have t1' : decide (s < pb) = false := by simp; omega
        have e1 : oldL s (l.take (k + 1)) = oldL s (l.take k) ++ [⟨pl, pb, ps⟩] := by
          unfold oldL
          rw [E1.out, if_pos (by simp; omega)]
        have e2 : youngL s (l.take (k + 1)) = youngL s (l.take k) := by
          unfold youngL
          rw [E2.out, if_neg (by simp; omega), List.append_nil]
        have HE1 := Lib.hid e1
        have HE2 := Lib.hid e2
        clear e1 e2 hsp
        have upa := up_alloc wr (.cells #[.int .i64 pl, .int .u64 pb, .int .u32 ps] 29)
        have o1 := HO1.out.up upa
        have o2 := HO2.out.up upa
        have upr3 := upr.trans upa
        have hb3 := upr3.size
        go_wp2_with (at_builtin; refine wpList_append_rowW pw rfl (.tmp 26) (.tmp 28) 22 rfl w.heap.size 29 (.agg #[.int .i64 0, .int .u64 0, .int .u32 0]) 24 Try.underlying22 info_ptr rfl _ (oldL s (l.take k)) rfl (o1.up (up_alloc _ _)) (.slice (some ⟨wr.heap.size + 1, 0, none⟩) 1 1) [⟨pl, pb, ps⟩] rfl (one_lit _ _ (World.size_alloc _ _).symm pl pb ps) (by simp; omega) (by simp; omega) (by rw [World.size_alloc, World.size_alloc]; rw [World.size_alloc] at hb3; omega) ?_)
        intro v' w5 hown5 hg5 hb5 hwh5
        have o2' := o2.up (up_alloc (wr.alloc (.cells #[.int .i64 pl, .int .u64 pb, .int .u32 ps] 29)) (.cells #[.int .i64 pl, .int .u64 pb, .int .u32 ps] 29))
        have k2 := o2'.kept hg5 (Apart.symm HAP.out)
        have ap := ((Apart.symm HAP.out).grown hwh5 (fun n hn => (o2'.block_lt n hn).2)).symm
        go_wp2_with fail
        go_roundw
        case rel => exact ⟨k + 1, by omega, by go_num, by rw [HE1.out]; exact hown5, by rw [HE2.out]; exact k2, ap, (upr3.alloc _).below_trans hb5 (Nat.le_refl _)⟩
        case measure => simp [intOf]; omega
      · have t1 : decide ((s : Int) < (pb : Int)) = true := by simp; omega
        have t1' : decide (s < pb) = true := by simp; omega
        have e1 : oldL s (l.take (k + 1)) = oldL s (l.take k) := by
          unfold oldL
          rw [E1.out, if_neg (by simp; omega), List.append_nil]
        have e2 : youngL s (l.take (k + 1)) = youngL s (l.take k) ++ [⟨pl, pb, ps⟩] := by
          unfold youngL
          rw [E2.out, if_pos (by simp; omega)]
        have HE1 := Lib.hid e1
        have HE2 := Lib.hid e2
        clear e1 e2 hsp
        have upa := up_alloc wr (.cells #[.int .i64 pl, .int .u64 pb, .int .u32 ps] 29)
        have o1 := HO1.out.up upa
        have o2 := HO2.out.up upa
        have upr3 := upr.trans upa
        have hb3 := upr3.size
        go_wp2_with (at_builtin; refine wpList_append_rowW pw rfl (.tmp 22) (.tmp 24) 22 rfl w.heap.size 29 (.agg #[.int .i64 0, .int .u64 0, .int .u32 0]) 24 Try.underlying22 info_ptr rfl _ (youngL s (l.take k)) rfl (o2.up (up_alloc _ _)) (.slice (some ⟨wr.heap.size + 1, 0, none⟩) 1 1) [⟨pl, pb, ps⟩] rfl (one_lit _ _ (World.size_alloc _ _).symm pl pb ps) (by simp; omega) (by simp; omega) (by rw [World.size_alloc, World.size_alloc]; rw [World.size_alloc] at hb3; omega) ?_)
        intro v' w5 hown5 hg5 hb5 hwh5
        have o1' := o1.up (up_alloc (wr.alloc (.cells #[.int .i64 pl, .int .u64 pb, .int .u32 ps] 29)) (.cells #[.int .i64 pl, .int .u64 pb, .int .u32 ps] 29))
        have k1 := o1'.kept hg5 HAP.out
        have ap := HAP.out.grown hwh5 (fun n hn => (o1'.block_lt n hn).2)
        go_wp2_with fail
        go_roundw
        case rel => exact ⟨k + 1, by omega, by go_num, by rw [HE1.out]; exact k1, by rw [HE2.out]; exact hown5, ap, (upr3.alloc _).below_trans hb5 (Nat.le_refl _)⟩
        case measure => simp [intOf]; omega
    · obtain rfl : k = l.length := by omega
      rw [List.take_length] at *
      go_wp2_with fail
      go_ret2
      exact ⟨_, _, rfl, ho1, ho2, upr⟩
end Go.Proofs.Ythdheddfimeigaa
