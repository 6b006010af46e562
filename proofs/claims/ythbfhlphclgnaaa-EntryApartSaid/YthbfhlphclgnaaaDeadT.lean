/- Same, the document's Split: the walks. -/
import Derived.Test.YthbfhlphclgnaaaDeadS
set_option linter.unusedSimpArgs false
namespace Go.Proofs.Ythbfhlphclgnaaa
open Go.RowKit Go.Sort

theorem ptr_eq (l l2 : Int) (b s b2 s2 : Nat) (W : World) : (Op.equalIn 10000 41 (.agg #[.int .i64 l, .int .u64 (b : Int), .int .u32 (s : Int)]) (.agg #[.int .i64 l2, .int .u64 (b2 : Int), .int .u32 (s2 : Int)])).run Try.prog W = .ok (decide ((⟨l, b, s⟩ : PtrD) = ⟨l2, b2, s2⟩)) W := by
  have e : decide ((⟨l, b, s⟩ : PtrD) = ⟨l2, b2, s2⟩) = ((l == l2) && (((b : Int) == (b2 : Int)) && ((s : Int) == (s2 : Int)))) := by
    rw [Bool.eq_iff_iff]
    simp
    omega
  rw [e]
  clear e
  cases h : (l == l2) <;> cases h2 : ((b : Int) == (b2 : Int)) <;> cases h3 : ((s : Int) == (s2 : Int))
  all_goals go_simp

theorem take_eq_step {α : Type} {l m : List α} {k : Nat} (h1 : k < l.length) (h2 : k < m.length) (h : l.take k = m.take k) (he : l[k] = m[k]) : l.take (k + 1) = m.take (k + 1) := by
  rw [List.take_succ_eq_append_getElem h1, List.take_succ_eq_append_getElem h2, h, he]

set_option maxHeartbeats 4000000 in
theorem same_any (w : World) (v v2 : Value) (l m : List PtrD) (hv : IsPtrs w v l) (hv2 : IsPtrs w v2 m) :
    Calls Try.prog 47 #[v, v2] w fun e w' => BoolUp (decide (l = m)) w e w' := by
  have hlen := hv.length_le
  have hlen2 := hv2.length_le
  obtain ⟨a, cap, rfl⟩ := hv.slice
  obtain ⟨a2, cap2, rfl⟩ := hv2.slice
  by_cases hl : l.length = m.length
  case neg =>
    have ht : ((l.length : Int) != (m.length : Int)) = true := by simp; omega
    have hb : decide (l = m) = false := by simp; rintro rfl; exact hl rfl
    have HB := Lib.hid hb
    clear hb hl
    go_enter Try.func47, Try.ntmps47
    go_wp2_with fail
    go_ret
    exact ⟨by rw [HB.out] <;> rfl, Up.refl _⟩
  obtain ⟨n, hn⟩ : ∃ n, n = l.length := ⟨_, rfl⟩
  have hn2 : m.length = n := by omega
  have ht : ((n : Int) != (n : Int)) = false := by simp
  rw [← hn] at hv hlen ⊢
  rw [hn2] at hv2 ⊢
  have HL := Lib.hid hn
  have HM := Lib.hid hn2
  clear hn hn2 hl
  have HV := Lib.hid hv
  have HV2 := Lib.hid hv2
  clear hv hv2
  go_enter Try.func47, Try.ntmps47
  go_wp2_with fail
  clear ht
  go_loopw [13] (fun i wr => ∃ k : Nat, k ≤ n ∧ i = .int .i64 k ∧ l.take k = m.take k ∧ Up w wr) (fun i _ => n - (intOf i).toNat)
  case atStart => exact ⟨0, Nat.zero_le _, rfl, by simp, Up.refl _⟩
  case round =>
    obtain ⟨k, hk, rfl, heq, upr⟩ := hrel
    by_cases hlt : k < n
    · have k1 : k < l.length := by have := HL.out; omega
      have k2 : k < m.length := by have := HM.out; omega
      obtain ⟨b, off, rfl, hbs, hnc, hc⟩ := ptrs_at (IsRow.up HV.out upr) (by omega)
      obtain ⟨b', off', rfl, hbs', hnc', hc'⟩ := ptrs_at (IsRow.up HV2.out upr) (by omega)
      have c0 := (hc k k1).1
      have c1 := (hc k k1).2.1
      have c2 := (hc k k1).2.2
      have d0 := (hc' k k2).1
      have d1 := (hc' k k2).2.1
      have d2 := (hc' k k2).2.2
      have b2 : ((k : Int) < (n : Int)) = True := by simp; omega
      have NE := fun W => ptr_eq l[k].loc m[k].loc l[k].birth l[k].sum m[k].birth m[k].sum W
      have HST := Lib.hid (fun h => take_eq_step k1 k2 heq h)
      have HNE : l[k] ≠ m[k] → decide (l = m) = false := fun h => by
        simp only [decide_eq_false_iff_not]
        rintro rfl
        exact h rfl
      have HNE' := Lib.hid HNE
      have hp1 : (⟨l[k].loc, l[k].birth, l[k].sum⟩ : PtrD) = l[k] := rfl
      have hp2 : (⟨m[k].loc, m[k].birth, m[k].sum⟩ : PtrD) = m[k] := rfl
      rw [hp1, hp2] at NE
      clear HNE hp1 hp2 hc hc' heq
      by_cases hpq : l[k] = m[k]
      · have HEQ := Lib.hid (HST.out hpq)
        have hd : decide (l[k] = m[k]) = true := by simpa using hpq
        rw [hd] at NE
        clear hd hpq HST HNE'
        generalize l[k] = p at *
        generalize m[k] = q at *
        obtain ⟨pl, pb, ps⟩ := p
        obtain ⟨ql, qb, qs⟩ := q
        simp only at c0 c1 c2 d0 d1 d2 NE
        go_wp2_with fail
        go_quiet (fail)
        go_wp2_with fail
        go_roundw
        case rel => exact ⟨k + 1, by omega, by simp, HEQ.out, upr.drewN _⟩
        case measure => simp [intOf]; omega
      · have hd : decide (l[k] = m[k]) = false := by simpa using hpq
        have HF := Lib.hid (HNE'.out hpq)
        rw [hd] at NE
        clear hd hpq HST HNE'
        generalize l[k] = p at *
        generalize m[k] = q at *
        obtain ⟨pl, pb, ps⟩ := p
        obtain ⟨ql, qb, qs⟩ := q
        simp only at c0 c1 c2 d0 d1 d2 NE
        go_wp2_with fail
        go_quiet (fail)
        go_wp2_with fail
        go_ret
        exact ⟨by rw [HF.out] <;> rfl, upr.drewN _⟩
    · obtain rfl : k = n := by omega
      have hb : decide (l = m) = true := by
        have h1 : l.take k = l := List.take_of_length_le (by have := HL.out; omega)
        have h2 : m.take k = m := List.take_of_length_le (by have := HM.out; omega)
        rw [h1, h2] at heq
        simpa using heq
      have HB := Lib.hid hb
      clear hb heq
      go_wp2_with fail
      go_ret
      exact ⟨by rw [HB.out] <;> rfl, upr⟩

end Go.Proofs.Ythbfhlphclgnaaa
