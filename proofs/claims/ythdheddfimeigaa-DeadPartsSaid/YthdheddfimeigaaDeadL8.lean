/- DeadParts: the walk. -/
import Derived.Test.YthdheddfimeigaaDeadL7
import Derived.Test.YthdheddfimeigaaDeadL2
set_option linter.unusedSimpArgs false
namespace Go.Proofs.Ythdheddfimeigaa
open Go.RowKit Go.Sort

theorem old_right {l : List PtrD} (s : Nat) (h : rightB l = true) : rightB (oldL s l) = true := by
  obtain ⟨h1, h2⟩ := (right_iff l).1 h
  exact (right_iff _).2 ⟨List.Pairwise.filter _ h1, fun x hx => h2 x (List.mem_filter.1 hx).1⟩
theorem young_right {l : List PtrD} (s : Nat) (h : rightB l = true) : rightB (youngL s l) = true := by
  obtain ⟨h1, h2⟩ := (right_iff l).1 h
  exact (right_iff _).2 ⟨List.Pairwise.filter _ h1, fun x hx => h2 x (List.mem_filter.1 hx).1⟩
theorem merge_parts {l : List PtrD} (s : Nat) (h : rightB l = true) : mergeF (oldL s l) (youngL s l) = some l := by
  obtain ⟨h1, _⟩ := (right_iff l).1 h
  obtain ⟨p1, _⟩ := (right_iff _).1 (old_right s h)
  obtain ⟨p2, _⟩ := (right_iff _).1 (young_right s h)
  rcases merge_spec _ (oldL s l) (youngL s l) (Nat.le_refl _) p1 p2 with ⟨⟨x, h2, h3⟩, _⟩ | ⟨_, m, h2, h3, h4⟩
  · have a := (List.mem_filter.1 h2).2
    have b := (List.mem_filter.1 h3).2
    simp at a b
    omega
  · rw [h2, sorted_one l m h1 h3 (fun x => ?_)]
    rw [h4]
    unfold oldL youngL
    simp only [List.mem_filter, decide_eq_true_eq]
    constructor
    · intro hx
      by_cases hb : x.birth ≤ s
      · exact .inl ⟨hx, hb⟩
      · exact .inr ⟨hx, by omega⟩
    · rintro (h | h) <;> exact h.1
theorem young_at {l : List PtrD} {s k : Nat} (h : k < (youngL s l).length) : s < ((youngL s l)[k]).birth := by
  have := (List.mem_filter.1 (List.getElem_mem h)).2
  simpa using this
theorem old_at {l : List PtrD} {s k : Nat} (h : k < (oldL s l).length) : ((oldL s l)[k]).birth ≤ s := by
  have := (List.mem_filter.1 (List.getElem_mem h)).2
  simpa using this

set_option maxRecDepth 100000 in
set_option maxHeartbeats 8000000 in
theorem deadParts_walk (w : World) (v : Value) (l : List PtrD) (hv : IsPtrs w v l) (_hr : l.length * 24 ≤ 140737488351232) (hq : ∀ x ∈ l, x.wf) (s : Nat) (_hs : s < 18446744073709551616) :
    Calls Try.prog 9 #[v, .int .u64 (s : Int)] w fun e w' => e = .returned (.bool true) ∧ Up w w' := by
  have RT := Lib.hid (fun W (up : Up w W) => lright_any W v l (IsRow.up hv up))
  cases hR : rightB l
  case false =>
    rw [hR] at RT
    go_enter Try.func9, Try.ntmps9
    go_wp2_with fail
    refine (alive_any _).mono ?_
    rintro e w1 ⟨rfl, up1⟩
    go_wp2_with fail
    refine (RT.out _ up1).mono ?_
    rintro e w2 ⟨rfl, up2⟩
    go_wp2_with fail
    go_ret
    exact ⟨rfl, up1.trans up2⟩
  rw [hR] at RT
  have hlen := hv.length_le
  by_cases h4 : l.length ≤ 4000
  case neg =>
    have t1 : decide ((4000 : Int) < (l.length : Int)) = true := by simp; omega
    have t2 : decide (4000 < l.length) = true := by simp; omega
    obtain ⟨a, cap, rfl⟩ := hv.slice
    clear h4 hR hv
    go_enter Try.func9, Try.ntmps9
    go_wp2_with fail
    refine (alive_any _).mono ?_
    rintro e w1 ⟨rfl, up1⟩
    go_wp2_with fail
    refine (RT.out _ up1).mono ?_
    rintro e w2 ⟨rfl, up2⟩
    go_wp2_with fail
    go_ret
    exact ⟨rfl, up1.trans up2⟩
  have t1 : decide ((4000 : Int) < (l.length : Int)) = false := by simp; omega
  have t2 : decide (4000 < l.length) = false := by simp; omega
  have S1 := Lib.hid (fun W (up : Up w W) => split_at W v l (IsRow.up hv up) s (by omega))
  have n0 := parts_length s l
  have MG := Lib.hid (show ∀ W u u', IsPtrs W u (oldL s l) → IsPtrs W u' (youngL s l) → Calls Try.prog 21 #[u, u'] W fun e w' => AddPost2 l 0 W e w' from fun W u u' h h' => by
    refine (merge_any W u u' _ _ h h' (by omega)).mono fun e w' hh => ?_
    have := MergePost.two hh
    rw [merge_parts s hR] at this
    exact this)
  have BY := Lib.hid (show ∀ W, Up w W → Calls Try.prog 23 #[v] W fun e w' => ∃ a c, e = .returned (.tuple #[.slice a (16 * l.length) c, .int .i64 0]) ∧ IsBytes w' (.slice a (16 * l.length) c) (bytesL l) ∧ Up W w' from fun W up => by
    refine (lbytes_any W v l (IsRow.up hv up) hq).mono fun e w' h => ?_
    rcases h with ⟨h1, _⟩ | ⟨m, u, h1, h2, h3, h4'⟩
    · rw [bytesO, if_pos ⟨h4, hR⟩] at h1; cases h1
    · rw [bytesO, if_pos ⟨h4, hR⟩] at h1
      simp only [Option.some.injEq] at h1
      subst h1
      have h5 := h3.ones
      obtain ⟨a, c, rfl⟩ := h5.slice
      rw [bytesL_length] at h2 h5
      exact ⟨a, c, h2, h5, h4'⟩)
  have RD := Lib.hid (show ∀ W u, IsBytes W u (bytesL l) → Calls Try.prog 25 #[u] W fun e w' => AddPost2 l 0 W e w' from fun W u h => by
    refine (lread_any W u _ h).mono fun e w' hh => ?_
    have := ReadPost.two hh
    rw [readL_bytes l hq h4 hR] at this
    exact this)
  have SM := Lib.hid (show ∀ W u u' m, IsPtrs W u m → IsPtrs W u' m → Calls Try.prog 18 #[u, u'] W fun e w' => BoolUp true W e w' from fun W u u' m h h' => by
    have := same_any W u u' m m h h'
    rw [show decide (m = m) = true by simp] at this
    exact this)
  have RO := Lib.hid (show ∀ W u, IsPtrs W u (oldL s l) → Calls Try.prog 12 #[u] W fun e w' => BoolUp true W e w' from fun W u h => by
    have := lright_any W u _ h
    rw [old_right s hR] at this
    exact this)
  have RY := Lib.hid (show ∀ W u, IsPtrs W u (youngL s l) → Calls Try.prog 12 #[u] W fun e w' => BoolUp true W e w' from fun W u h => by
    have := lright_any W u _ h
    rw [young_right s hR] at this
    exact this)
  have YA := Lib.hid (fun k h => young_at (l := l) (s := s) (k := k) h)
  have OA := Lib.hid (fun k h => old_at (l := l) (s := s) (k := k) h)
  unfold AddPost2 at MG RD
  unfold SplitPost at S1
  have wt : IntKind.i64.wrap (16 * (l.length : Int)) = ((16 * l.length : Nat) : Int) := by
    rw [show 16 * (l.length : Int) = ((16 * l.length : Nat) : Int) by omega]; exact wrap_i64_nat _ (by omega)
  have HV := Lib.hid hv
  obtain ⟨va, vc, rfl⟩ := hv.slice
  have hol : (oldL s l).length ≤ 4000 := by omega
  have hyl : (youngL s l).length ≤ 4000 := by omega
  clear hv hR hq n0 _hr
  generalize oldL s l = old at *
  generalize youngL s l = young at *
  go_enter Try.func9, Try.ntmps9
  go_wp2_with fail
  refine (alive_any _).mono ?_
  rintro e w1 ⟨rfl, up1⟩
  have U1 := Lib.hid up1
  clear up1
  go_wp2_with fail
  refine (RT.out _ U1.out).mono ?_
  rintro e w2 ⟨rfl, up2⟩
  have U2 := Lib.hid (U1.out.trans up2)
  clear up2 U1
  go_wp2_with fail
  refine (S1.out _ U2.out).mono ?_
  rintro e w3 ⟨a1, c1, a2, c2, rfl, ho, hy, up3⟩
  have U3 := Lib.hid (U2.out.trans up3)
  have O3 := Lib.hid ho
  have Y3 := Lib.hid hy
  clear up3 U2 ho hy
  go_wp2_with fail
  refine (MG.out _ _ _ O3.out Y3.out).mono ?_
  rintro e w4 ⟨x, rfl, hx, up4⟩
  have U4 := Lib.hid (U3.out.trans up4)
  have O4 := Lib.hid (IsRow.up O3.out up4)
  have Y4 := Lib.hid (IsRow.up Y3.out up4)
  have X4 := Lib.hid hx
  clear up4 U3 hx O3 Y3
  go_wp2_with fail
  refine (SM.out _ _ _ _ X4.out (IsRow.up HV.out U4.out)).mono ?_
  rintro e w5 ⟨rfl, up5⟩
  have U5 := Lib.hid (U4.out.trans up5)
  have O5 := Lib.hid (IsRow.up O4.out up5)
  have Y5 := Lib.hid (IsRow.up Y4.out up5)
  clear up5 U4 O4 Y4
  go_wp2_with fail
  refine (RO.out _ _ O5.out).mono ?_
  rintro e w6 ⟨rfl, up6⟩
  have U6 := Lib.hid (U5.out.trans up6)
  have O6 := Lib.hid (IsRow.up O5.out up6)
  have Y6 := Lib.hid (IsRow.up Y5.out up6)
  clear up6 U5 O5 Y5
  go_wp2_with fail
  refine (RY.out _ _ Y6.out).mono ?_
  rintro e w7 ⟨rfl, up7⟩
  have U7 := Lib.hid (U6.out.trans up7)
  have O7 := Lib.hid (IsRow.up O6.out up7)
  have Y7 := Lib.hid (IsRow.up Y6.out up7)
  clear up7 U6 O6 Y6
  go_wp2_with fail
  go_loopw [59] (fun i wr => ∃ k : Nat, k ≤ young.length ∧ i = .int .i64 k ∧ Up w7 wr) (fun i _ => young.length - (intOf i).toNat)
  case atStart => exact ⟨0, Nat.zero_le _, rfl, Up.refl _⟩
  case round =>
    obtain ⟨k, hk, rfl, upr⟩ := hrel
    by_cases hlt : k < young.length
    · obtain ⟨b, off, rfl, _, _, hc⟩ := ptrs_at (IsRow.up Y7.out upr) (by omega)
      have hc0 := (hc k hlt).1
      have hc1 := (hc k hlt).2.1
      have hc2 := (hc k hlt).2.2
      have b2 : ((k : Int) < (young.length : Int)) = True := by simp; omega
      have hya := YA.out k hlt
      have t3 : decide (((young[k].birth : Nat) : Int) ≤ (s : Int)) = false := by simp; omega
      have t4 : decide (young[k].birth ≤ s) = false := by simp; omega
      clear hc hya
      generalize young[k] = p at *
      obtain ⟨pl, pb, ps⟩ := p
      simp only at hc0 hc1 hc2 t3 t4
      have upa := up_alloc wr (.cells #[.int .i64 pl, .int .u64 (pb : Int), .int .u32 (ps : Int)] 29)
      go_wp2_with fail
      go_roundw
      case rel => exact ⟨k + 1, by omega, by go_num, upr.trans upa⟩
      case measure => simp [intOf]; omega
    · obtain rfl : k = young.length := by omega
      have U8 := Lib.hid (U7.out.trans upr)
      have O8 := Lib.hid (IsRow.up O7.out upr)
      clear U7 O7 Y7 upr YA
      obtain ⟨w8, hw8⟩ : ∃ x, x = wr := ⟨_, rfl⟩
      subst hw8
      go_wp2_with fail
      go_loopw [70] (fun i wr => ∃ k : Nat, k ≤ old.length ∧ i = .int .i64 k ∧ Up w8 wr) (fun i _ => old.length - (intOf i).toNat)
      case atStart => exact ⟨0, Nat.zero_le _, rfl, Up.refl _⟩
      case round =>
        obtain ⟨k, hk, rfl, upr⟩ := hrel
        by_cases hlt : k < old.length
        · obtain ⟨b, off, rfl, _, _, hc⟩ := ptrs_at (IsRow.up O8.out upr) (by omega)
          have hc0 := (hc k hlt).1
          have hc1 := (hc k hlt).2.1
          have hc2 := (hc k hlt).2.2
          have b2 : ((k : Int) < (old.length : Int)) = True := by simp; omega
          have hya := OA.out k hlt
          have t3 : decide ((s : Int) < ((old[k].birth : Nat) : Int)) = false := by simp; omega
          have t4 : decide (s < old[k].birth) = false := by simp; omega
          clear hc hya
          generalize old[k] = p at *
          obtain ⟨pl, pb, ps⟩ := p
          simp only at hc0 hc1 hc2 t3 t4
          have upa := up_alloc wr (.cells #[.int .i64 pl, .int .u64 (pb : Int), .int .u32 (ps : Int)] 29)
          go_wp2_with fail
          go_roundw
          case rel => exact ⟨k + 1, by omega, by go_num, upr.trans upa⟩
          case measure => simp [intOf]; omega
        · obtain rfl : k = old.length := by omega
          have U9 := Lib.hid (U8.out.trans upr)
          clear U8 O8 upr OA
          go_wp2_with fail
          refine (BY.out _ U9.out).mono ?_
          rintro e w10 ⟨a10, c10, rfl, hb, up10⟩
          have U10 := Lib.hid (U9.out.trans up10)
          have B10 := Lib.hid hb
          clear up10 hb U9
          go_wp2_with fail
          refine (RD.out _ _ B10.out).mono ?_
          rintro e w11 ⟨k11, rfl, hk11, up11⟩
          have U11 := Lib.hid (U10.out.trans up11)
          have K11 := Lib.hid hk11
          clear up11 hk11 U10
          go_wp2_with fail
          refine (SM.out _ _ _ _ K11.out (IsRow.up HV.out U11.out)).mono ?_
          rintro e w12 ⟨rfl, up12⟩
          go_wp2_with fail
          go_ret
          exact ⟨rfl, U11.out.trans up12⟩
end Go.Proofs.Ythdheddfimeigaa
