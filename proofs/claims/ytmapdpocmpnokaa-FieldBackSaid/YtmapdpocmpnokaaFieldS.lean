/- SameNums; FieldWide. -/
import Derived.Test.YtmapdpocmpnokaaFieldA
namespace Go.Proofs.Ytmapdpocmpnokaa
open Go.RowKit

theorem drewN_zero (w : World) : w.drewN 0 = w := rfl
theorem drewN_add (w : World) (m n : Nat) : (w.drewN m).drewN n = w.drewN (m + n) := by simp [World.drewN, Nat.add_assoc]

def QuietBool (b : Bool) (w : World) (e : Ending) (w' : World) : Prop := e = .returned (.bool b) ∧ ∃ n, w' = w.drewN n

set_option maxHeartbeats 1000000 in
theorem sameNums_any (w : World) (v : Value) (xs : List Nat) (hv : IsOnes u64Cell w v xs) (u : Value) (ys : List Nat) (hu : IsOnes u64Cell w u ys) :
    Calls Try.prog 13 #[v, u] w fun e w' => QuietBool (decide (xs = ys)) w e w' := by
  have hl1 := hv.length_le
  have hl2 := hu.length_le
  obtain ⟨a1, c1, rfl⟩ := hv.slice
  obtain ⟨a2, c2, rfl⟩ := hu.slice
  by_cases heq : xs.length = ys.length
  case neg =>
    have ht : ((xs.length : Int) != (ys.length : Int)) = true := by simp; omega
    have hf : decide (xs = ys) = false := by simp; rintro rfl; exact heq rfl
    rw [hf]
    clear heq hf
    generalize xs.length = n1 at *
    generalize ys.length = n2 at *
    go_enter Try.func13, Try.ntmps13
    go_wp2_with fail
    go_ret
    exact ⟨rfl, 0, rfl⟩
  obtain ⟨len, hl⟩ : ∃ len, len = xs.length := ⟨_, rfl⟩
  rw [← heq] at hu ⊢
  rw [← hl] at hv hu hl1 ⊢
  have h2 : len = ys.length := hl.trans heq
  have Hl := Lib.hid hl
  have Hl2 := Lib.hid h2
  clear hl h2 heq hl2
  have ht : ((len : Int) != (len : Int)) = false := by simp
  go_enter Try.func13, Try.ntmps13
  go_wp2_with fail
  go_loopw [13] (fun i wr => ∃ k : Nat, k ≤ len ∧ i = .int .i64 k ∧ (∃ m, wr = w.drewN m) ∧ xs.take k = ys.take k) (fun i _ => len - (intOf i).toNat)
  case atStart => exact ⟨0, Nat.zero_le _, rfl, ⟨0, rfl⟩, by simp⟩
  case round =>
    obtain ⟨k, hk, rfl, ⟨m, rfl⟩, hsame⟩ := hrel
    by_cases hlt : k < len
    · have k1 : k < xs.length := by have := Hl.out; omega
      have k2 : k < ys.length := by have := Hl2.out; omega
      obtain ⟨b, off, rfl, _, hc⟩ := get_of_ones hv Hl.out (by omega)
      obtain ⟨b2, off2, rfl, _, hc2⟩ := get_of_ones hu Hl2.out (by omega)
      have d1 := hc k k1
      have d2 := hc2 k k2
      unfold u64Cell at d1 d2
      have hno : ¬ xs[k] = ys[k] → ¬ xs = ys := by rintro h rfl; exact h rfl
      have hyes : xs[k] = ys[k] → xs.take (k + 1) = ys.take (k + 1) := by
        intro h
        rw [take_snoc' xs k k1, take_snoc' ys k k2, hsame, h]
      clear hc hc2
      generalize xs[k] = x at *
      generalize ys[k] = y at *
      have Hno := Lib.hid hno
      have Hyes := Lib.hid hyes
      clear hno hyes hsame
      have hlti : (k : Int) < (len : Int) := by omega
      by_cases hxy : x = y
      · have hb : ((x : Int) != (y : Int)) = false := by simp; omega
        have Hxy := Lib.hid hxy
        clear hxy
        go_wp2_with fail
        go_quiet (fail)
        go_wp2_with fail
        go_roundw
        case rel => exact ⟨k + 1, by omega, by go_num, ⟨m + nq, rfl⟩, Hyes.out Hxy.out⟩
        case measure => simp [intOf]; omega
      · have hb : ((x : Int) != (y : Int)) = true := by simp; omega
        have hf : decide (xs = ys) = false := by simp; exact Hno.out hxy
        have Hf := Lib.hid hf
        clear hxy hf
        go_wp2_with fail
        go_quiet (fail)
        go_wp2_with fail
        go_ret
        exact ⟨by rw [Hf.out]; rfl, m + nq, drewN_add _ _ _⟩
    · obtain rfl : k = len := by omega
      have e1 : xs.take k = xs := List.take_of_length_le (by have := Hl.out; omega)
      have e2 : ys.take k = ys := List.take_of_length_le (by have := Hl2.out; omega)
      rw [e1, e2] at hsame
      have hf : decide (xs = ys) = true := by simp; exact hsame
      have Hf := Lib.hid hf
      clear hsame e1 e2 hf
      go_wp2_with fail
      go_ret
      exact ⟨by rw [Hf.out]; rfl, m, rfl⟩

set_option maxHeartbeats 2000000 in
theorem fieldWide_walk (w : World) (v : Value) (ws : List Int) (hv : IsOnes intCell w v ws) (hr : ws.length * 8 ≤ 140737488351232) (_q : ∀ n ∈ ws, -9223372036854775808 ≤ n ∧ n ≤ 9223372036854775807)
    (u : Value) (ns : List Nat) (hu : IsOnes u64Cell w u ns) (_hr2 : ns.length * 8 ≤ 140737488351232) (q2 : ∀ n ∈ ns, n < 18446744073709551616)
    (t : Value) (ms : List Nat) (ht : IsOnes u64Cell w t ms) (_hr3 : ms.length * 8 ≤ 140737488351232) (q3 : ∀ n ∈ ms, n < 18446744073709551616) :
    Calls Try.prog 4 #[v, u, t] w fun e w' => e = .returned (.bool true) ∧ Up w w' := by
  have Q2 := Lib.hid q2
  have Q3 := Lib.hid q3
  clear q2 q3 _q
  obtain ⟨a1, c1, rfl⟩ := hv.slice
  obtain ⟨a2, c2, rfl⟩ := hu.slice
  obtain ⟨a3, c3, rfl⟩ := ht.slice
  go_enter Try.func4, Try.ntmps4
  go_wp2_with fail
  refine (fieldAlive_walk _).mono ?_
  rintro e w1 ⟨rfl, up1⟩
  go_wp2_with fail
  refine (put_any w1 _ ws (hv.up up1) hr _ ns (hu.up up1) Q2.out).mono ?_
  rintro e w2 (⟨hok, v3, rfl, hv3, up2⟩ | ⟨hno, rfl, up2⟩)
  case inr =>
    have Hno := Lib.hid hno
    clear hno
    go_wp2_with fail
    refine (put_any w2 _ ws ((hv.up up1).up up2) hr _ ms ((ht.up up1).up up2) Q3.out).mono ?_
    rintro e w3 (⟨hok3, v4, rfl, hv4, up3⟩ | ⟨hno3, rfl, up3⟩)
    · have hlen := hok3.1
      rw [← hlen]
      have hl : ((ws.length : Int) == (ws.length : Int)) = true := by simp
      have Hok3 := Lib.hid hok3
      clear hok3 hlen
      obtain ⟨a4, c4, rfl⟩ := hv4.ones.slice
      generalize putBytes ws ms = pm at *
      go_wp2_with fail
      go_ret
      exact ⟨rfl, up1.trans (up2.trans up3)⟩
    · clear hno3
      go_wp2_with fail
      go_ret
      exact ⟨rfl, up1.trans (up2.trans up3)⟩
  have hv3 := hv3.ones
  obtain ⟨a4, c4, hs4⟩ := hv3.slice
  have hp4 := putBytes_length ws ns hok.1
  have htl := total_le hok.2.1
  rw [hp4] at hs4
  subst hs4
  have Hok := Lib.hid hok
  clear hok hp4
  generalize hT : total ws = T at *
  generalize hpb : putBytes ws ns = pb at *
  have HT := Lib.hid hT
  have Hpb := Lib.hid hpb
  clear hpb hT
  go_wp2_with fail
  refine (put_any w2 _ ws ((hv.up up1).up up2) hr _ ms ((ht.up up1).up up2) Q3.out).mono ?_
  rintro e w3 (⟨hok3, v4, rfl, hv4, up3⟩ | ⟨hno3, rfl, up3⟩)
  case inr =>
    have hlen := Hok.out.1
    have hl : ((ws.length : Int) == (ns.length : Int)) = true := by simp; omega
    clear hno3 hlen
    go_wp2_with fail
    go_ret
    exact ⟨rfl, up1.trans (up2.trans up3)⟩
  have hv4 := hv4.ones
  obtain ⟨a5, c5, hs5⟩ := hv4.slice
  rw [putBytes_length ws ms hok3.1, HT.out] at hs5
  subst hs5
  have Hok3 := Lib.hid hok3
  clear hok3
  have hv3 := hv3.up up3
  generalize hpm : putBytes ws ms = pm at *
  have hcmp : ((strOf pb).toList == (strOf pm).toList) = decide (ns = ms) := by
    rw [ByteArray.toList_eq, ByteArray.toList_eq, strOf_data, strOf_data, Bool.eq_iff_iff, beq_iff_eq, decide_eq_true_iff]
    constructor
    · intro h
      exact putBytes_inj ws ns ms Hok.out Hok3.out (by rw [Hpb.out, hpm]; exact h)
    · rintro rfl
      rw [← Hpb.out, hpm]
  have Hcmp := Lib.hid hcmp
  clear hcmp hpm
  have up03 := up1.trans (up2.trans up3)
  have hvs := hv.up up03
  have k1 : ∀ n, (convert 24 9 (.slice a4 T c4)).run Try.prog (w3.drewN n) = .ok (.string (strOf pb)) (w3.drewN n) := fun n => toStr _ _ _ (hv3.up ((Up.refl w3).drewN n))
  have k2 : ∀ n, (convert 24 9 (.slice a5 T c5)).run Try.prog (w3.drewN n) = .ok (.string (strOf pm)) (w3.drewN n) := fun n => toStr _ _ _ (hv4.up ((Up.refl w3).drewN n))
  have hS := fun n => sameNums_any (w3.drewN n) _ ns ((hu.up up03).up ((Up.refl w3).drewN n)) _ ms ((ht.up up03).up ((Up.refl w3).drewN n))
  have HS := Lib.hid hS
  clear hv3 hv4 hu ht hS hv
  generalize decide (ns = ms) = dec at *
  go_wp2_with fail
  go_loop [11, 56] (fun s i => ∃ k : Nat, k ≤ ws.length ∧ i = .int .i64 k ∧ s = .int .i64 (total (ws.take k) : Nat)) (fun _ i => ws.length - (intOf i).toNat)
  case atStart => exact ⟨0, Nat.zero_le _, rfl, rfl⟩
  case round =>
    obtain ⟨k, hk, rfl, rfl⟩ := hrel
    have htk := total_take_le ws k
    have hT := HT.out
    by_cases hlt : k < ws.length
    · obtain ⟨b, off, rfl, _, hc⟩ := get_of_ones hvs rfl (by omega)
      have d1 := hc k hlt
      unfold intCell at d1
      have hts := total_take_succ ws k hlt
      have hwk := Hok.out.2.1 _ (List.getElem_mem hlt)
      clear hc
      generalize ws[k] = x at *
      obtain ⟨y, rfl⟩ := Int.eq_ofNat_of_zero_le (show 0 ≤ x by omega)
      have Hts := Lib.hid hts
      clear hts
      rw [hT] at htk
      clear hT
      generalize total (ws.take k) = tk at *
      go_wp2_with fail
      go_round
      case rel => exact ⟨k + 1, by omega, by go_num, by rw [Hts.out]; simp⟩
      case measure => simp [intOf]; omega
    · obtain rfl : k = ws.length := by omega
      rw [List.take_length, hT] at *
      clear hT htk
      have ht1 : ((T : Int) == (T : Int)) = true := by simp
      go_wp2_with fail
      go_quiet ((go_at_call 13; exact Calls.quiet_of (HS.out _)))
      go_wp2_with fail
      go_ret
      exact ⟨by rw [Hcmp.out]; simp, up03.trans ((Up.refl w3).drewN _)⟩
end Go.Proofs.Ytmapdpocmpnokaa
