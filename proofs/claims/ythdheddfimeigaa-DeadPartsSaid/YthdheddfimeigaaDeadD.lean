/- The document's Add: the walk. -/
import Derived.Test.YthdheddfimeigaaDeadC
set_option linter.unusedSimpArgs false
namespace Go.Proofs.Ythdheddfimeigaa
open Go.RowKit Go.Sort

/-- What stands in the new list when k are done (i: where the one more stands). -/
def outAt (l : List PtrD) (q : PtrD) (i k : Nat) : List PtrD := if i < k then l.take i ++ q :: (l.take k).drop i else l.take k
theorem outAt_lt {l : List PtrD} {q : PtrD} {i k : Nat} (h : i < k) (hk : k < l.length) : outAt l q i (k + 1) = outAt l q i k ++ [l[k]] := by
  unfold outAt
  rw [if_pos h, if_pos (by omega), List.take_succ_eq_append_getElem hk, List.drop_append]
  have : i - (l.take k).length = 0 := by rw [List.length_take]; omega
  rw [this]
  simp
theorem outAt_gt {l : List PtrD} {q : PtrD} {i k : Nat} (h : k < i) (hk : k < l.length) : outAt l q i (k + 1) = outAt l q i k ++ [l[k]] := by
  unfold outAt
  rw [if_neg (by omega), if_neg (by omega), List.take_succ_eq_append_getElem hk]
theorem outAt_eq {l : List PtrD} {q : PtrD} {k : Nat} (hk : k < l.length) : outAt l q k (k + 1) = (outAt l q k k ++ [q]) ++ [l[k]] := by
  unfold outAt
  rw [if_pos (by omega), if_neg (by omega), List.take_succ_eq_append_getElem hk, List.drop_append]
  have h1 : (l.take k).length = k := by rw [List.length_take]; omega
  rw [h1, List.drop_of_length_le (by omega), Nat.sub_self]
  simp
theorem outAt_len (l : List PtrD) (q : PtrD) (i k : Nat) (hk : k ≤ l.length) : (outAt l q i k).length ≤ k + 1 := by
  unfold outAt
  split
  · simp; omega
  · simp; omega

theorem outAt_self (l : List PtrD) (q : PtrD) (k : Nat) : (outAt l q k k).length ≤ k := by
  unfold outAt
  rw [if_neg (by omega), List.length_take]
  omega
theorem grown_cell {w w' : World} {row : Option Nat} (hg : w.grownBy w' row) {b o : Nat} {u : Value} (hc : w.cell? ⟨b, o, none⟩ = some u) (hne : ∀ k, row = some k → k < b) : w'.cell? ⟨b, o, none⟩ = some u := by
  have hlt : b < w.heap.size := World.block_lt_of_cell? w _ hc
  rw [World.cell?_of_block (hg.block b hlt (fun e => by have := hne b e.symm; omega))]
  exact hc

set_option maxHeartbeats 8000000 in
theorem radd_any (w : World) (v : Value) (l : List PtrD) (hv : IsPtrs w v l) (hs : SortedP l) (q : PtrD) (hr : (l.length + 1) * 24 ≤ 140737488355328) :
    Calls Try.prog 15 #[v, ptrV q] w fun e w' => AddPost (addO l q) w e w' := by
  have F := Lib.hid (fun W => one_any W q)
  have hmem := mem_pos hs q
  have hple := posI_le l q
  have hao : addO l q = if fitB q = true ∧ q ∉ l then some (l.take (posI l q) ++ q :: l.drop (posI l q)) else none := rfl
  rw [hao]
  clear hao
  cases hf : fitB q
  case false =>
    rw [if_neg (by simp)]
    rw [hf] at F
    clear hf hmem
    show Calls _ _ _ _ fun e w' => e = .returned (.tuple #[.slice none 0 0, .int .i64 131]) ∧ Up w w'
    obtain ⟨ql, qb, qs⟩ := q
    unfold ptrV at *
    simp only at F
    obtain ⟨a, cap, rfl⟩ := hv.slice
    go_enter Try.func15, Try.ntmps15
    go_wp2_with fail
    refine (F.out _).mono ?_
    rintro e w1 ⟨rfl, up1⟩
    go_wp2_with fail
    go_ret2
    exact ⟨rfl, (up_alloc _ _).trans up1⟩
  rw [hf] at F
  -- what the loop's tests say
  have LT : ∀ k (hk : k < l.length), k < posI l q → l[k] ≠ q ∧ lessB q l[k] = false := fun k hk h => by
    have h1 := posI_lt k hk h
    refine ⟨fun e => ?_, less_asym h1⟩
    rw [e, less_irr] at h1
    cases h1
  have AT : ∀ (h : posI l q < l.length), l[posI l q] ≠ q → lessB q l[posI l q] = true := fun h hne => by
    have h1 := posI_not l q h
    cases h2 : lessB q l[posI l q]
    · exact absurd (less_tri h1 h2) hne
    · rfl
  have NQ : q ∉ l → ∀ k (hk : k < l.length), l[k] ≠ q := fun h k hk e => h (by rw [← e]; exact List.getElem_mem hk)
  have P : (q ∈ l → (if true = true ∧ q ∉ l then some (l.take (posI l q) ++ q :: l.drop (posI l q)) else none) = none) ∧ (q ∉ l → (if true = true ∧ q ∉ l then some (l.take (posI l q) ++ q :: l.drop (posI l q)) else none) = some (l.take (posI l q) ++ q :: l.drop (posI l q))) :=
    ⟨fun h => if_neg (by simp [h]), fun h => if_pos ⟨rfl, h⟩⟩
  generalize (if true = true ∧ q ∉ l then some (l.take (posI l q) ++ q :: l.drop (posI l q)) else none) = o at *
  clear hf
  have HP1 := Lib.hid P.1
  have HP2 := Lib.hid P.2
  have HMEM := Lib.hid hmem
  have HLT := Lib.hid LT
  have HAT := Lib.hid AT
  have HNQ := Lib.hid NQ
  clear P hmem LT AT NQ hs
  generalize posI l q = i at *
  obtain ⟨a, cap, rfl⟩ := hv.slice
  show Calls Try.prog _ #[_, .agg #[.int .i64 q.loc, .int .u64 (q.birth : Int), .int .u32 (q.sum : Int)]] _ _
  have F' := Lib.hid (show ∀ W, Calls Try.prog 31 #[.agg #[.int .i64 q.loc, .int .u64 (q.birth : Int), .int .u32 (q.sum : Int)]] W fun e w' => BoolUp true W e w' from F.out)
  clear F
  go_enter Try.func15, Try.ntmps15
  go_wp2_with fail
  refine (F'.out _).mono ?_
  rintro e w1 ⟨rfl, up1⟩
  have d0 : w1.cell? ⟨w.heap.size, 0, none⟩ = some (.int .i64 q.loc) := up1.cell (cell_new w _ _ _ 0 _ rfl)
  have d1 : w1.cell? ⟨w.heap.size, 1, none⟩ = some (.int .u64 (q.birth : Int)) := up1.cell (cell_new w _ _ _ 1 _ rfl)
  have d2 : w1.cell? ⟨w.heap.size, 2, none⟩ = some (.int .u32 (q.sum : Int)) := up1.cell (cell_new w _ _ _ 2 _ rfl)
  have upw1 := (up_alloc w (.cells #[.int .i64 q.loc, .int .u64 (q.birth : Int), .int .u32 (q.sum : Int)] 29)).trans up1
  clear up1
  have hm1 : OwnPtrs (w1.alloc (.cells #[] 29)) w1.heap.size (.slice (some ⟨w1.heap.size, 0, none⟩) 0 0) [] := OwnRow.made pcells 3 29 w1 w1.heap.size (Nat.le_refl _)
  have CA := Lib.hid (show ∀ W, Up w1 W → W.cell? ⟨w.heap.size, 0, none⟩ = some (.int .i64 q.loc) ∧ W.cell? ⟨w.heap.size, 1, none⟩ = some (.int .u64 (q.birth : Int)) ∧ W.cell? ⟨w.heap.size, 2, none⟩ = some (.int .u32 (q.sum : Int)) from fun W u => ⟨u.cell d0, u.cell d1, u.cell d2⟩)
  clear d0 d1 d2
  have HV := Lib.hid (IsRow.up hv upw1)
  clear hv
  go_wp2_with fail
  go_loopw [6, 7, 16] (fun u dn j wr => ∃ k : Nat, k ≤ l.length ∧ j = .int .i64 k ∧ dn = .bool (decide (i < k)) ∧ (∀ m (hm : m < l.length), m < k → l[m] ≠ q) ∧ OwnPtrs wr w1.heap.size u (outAt l q i k) ∧ Up w1 wr) (fun _ _ j _ => l.length - (intOf j).toNat)
  case atStart => exact ⟨0, Nat.zero_le _, rfl, by simp, fun m hm h => by omega, hm1, up_alloc _ _⟩
  case round =>
    obtain ⟨k, hk, rfl, rfl, hno, hown, upr⟩ := hrel
    clear hm1
    have HNO := Lib.hid hno
    clear hno
    by_cases hlt : k < l.length
    · obtain ⟨b, off, rfl, hbs, hnc, hc⟩ := ptrs_at (IsRow.up HV.out upr) (by omega)
      have hc0 := (hc k hlt).1
      have hc1 := (hc k hlt).2.1
      have hc2 := (hc k hlt).2.2
      have b2 : ((k : Int) < (l.length : Int)) = True := by simp; omega
      have hol := outAt_len l q i k hk
      have HO := Lib.hid hown
      clear hc hown
      have upa := up_alloc wr (.cells #[.int .i64 l[k].loc, .int .u64 (l[k].birth : Int), .int .u32 (l[k].sum : Int)] 29)
      have upra := upr.trans upa
      obtain ⟨d0, d1, d2⟩ := CA.out _ upra
      have NE := fun W => ptr_eq l[k].loc q.loc l[k].birth l[k].sum q.birth q.sum W
      have hlp : (⟨l[k].loc, l[k].birth, l[k].sum⟩ : PtrD) = l[k] := rfl
      have hql : (⟨q.loc, q.birth, q.sum⟩ : PtrD) = q := rfl
      rw [hlp, hql] at NE
      clear hql
      by_cases he : l[k] = q
      · have hd : decide (l[k] = q) = true := by simpa using he
        rw [hd] at NE
        have hin : q ∈ l := by rw [← he]; exact List.getElem_mem hlt
        have hon := HP1.out hin
        have HON := Lib.hid hon
        clear hd hin hon he hlp
        generalize l[k] = p at *
        obtain ⟨pl, pb, ps⟩ := p
        simp only at hc0 hc1 hc2 d0 d1 d2 NE upa upra
        go_wp2_with fail
        go_ret2
        rw [HON.out]
        exact ⟨rfl, upw1.trans upra⟩
      have hd : decide (l[k] = q) = false := by simpa using he
      rw [hd] at NE
      have HNO' := Lib.hid (show ∀ m (hm : m < l.length), m < k + 1 → l[m] ≠ q from fun m hm h => by
        by_cases e : m = k
        · subst e; exact he
        · exact HNO.out m hm (by omega))
      have L := Lib.hid (fun W => refLess_any W q l[k])
      have IK : (i < k ∧ outAt l q i (k + 1) = outAt l q i k ++ [l[k]]) ∨ (i = k ∧ lessB q l[k] = true ∧ outAt l q i (k + 1) = (outAt l q i k ++ [q]) ++ [l[k]]) ∨ (k < i ∧ lessB q l[k] = false ∧ outAt l q i (k + 1) = outAt l q i k ++ [l[k]]) := by
        rcases Nat.lt_trichotomy i k with h | h | h
        · exact .inl ⟨h, outAt_lt h hlt⟩
        · subst h
          exact .inr (.inl ⟨rfl, HAT.out hlt he, outAt_eq hlt⟩)
        · exact .inr (.inr ⟨h, (HLT.out k hlt h).2, outAt_gt h hlt⟩)
      clear hd he hlp
      generalize l[k] = p at *
      obtain ⟨pl, pb, ps⟩ := p
      unfold ptrV at L
      simp only at hc0 hc1 hc2 d0 d1 d2 NE upa upra L IK
      have y0 : (wr.alloc (.cells #[.int .i64 pl, .int .u64 pb, .int .u32 ps] 29)).cell? ⟨wr.heap.size, 0, none⟩ = some (.int .i64 pl) := cell_new wr _ _ _ 0 _ rfl
      have y1 : (wr.alloc (.cells #[.int .i64 pl, .int .u64 pb, .int .u32 ps] 29)).cell? ⟨wr.heap.size, 1, none⟩ = some (.int .u64 pb) := cell_new wr _ _ _ 1 _ rfl
      have y2 : (wr.alloc (.cells #[.int .i64 pl, .int .u64 pb, .int .u32 ps] 29)).cell? ⟨wr.heap.size, 2, none⟩ = some (.int .u32 ps) := cell_new wr _ _ _ 2 _ rfl
      rcases IK with ⟨hik, hout⟩ | ⟨rfl, hle, hout⟩ | ⟨hik, hle, hout⟩
      · have td : decide (i < k) = true := by simpa using hik
        have td2 : decide (i < k + 1) = true := by simp; omega
        have HOUT := Lib.hid hout
        have HD2 := Lib.hid td2
        rw [td]
        clear hout td2 td hik L
        have o1 := HO.out.up upa
        have hz := upra.size
        go_wp2_with (at_builtin; refine wpList_append_row pw rfl (.tmp 34) (.tmp 36) 22 rfl w1.heap.size 29 (.agg #[.int .i64 0, .int .u64 0, .int .u32 0]) 24 Try.underlying22 info_ptr rfl _ (outAt l q i k) rfl (o1.up (up_alloc _ _)) (.slice (some ⟨wr.heap.size + 1, 0, none⟩) 1 1) [⟨pl, pb, ps⟩] rfl (one_lit _ _ (World.size_alloc _ _).symm pl pb ps) (by simp; omega) (by simp; omega) (by rw [World.size_alloc]; omega) ?_)
        intro v' w5 hown5 _ hb5
        go_wp2_with fail
        go_roundw
        case rel => exact ⟨k + 1, by omega, by go_num, by rw [HD2.out], HNO'.out, by rw [HOUT.out]; exact hown5, (upra.alloc _).below_trans hb5 (Nat.le_refl _)⟩
        case measure => simp [intOf]; omega
      · have td : decide (i < i) = false := by simp
        have HOUT := Lib.hid hout
        rw [hle] at L
        rw [td]
        clear hout td hle
        have o1 := HO.out.up upa
        go_wp2_with fail
        refine (L.out _).mono ?_
        rintro e w3 ⟨rfl, up3⟩
        have up03 := upra.trans up3
        have o3 := o1.up up3
        clear d0 d1 d2
        obtain ⟨d0, d1, d2⟩ := CA.out _ up03
        have z0 := up3.cell y0
        have z1 := up3.cell y1
        have z2 := up3.cell y2
        clear y0 y1 y2
        have hz := (up03.trans (up_alloc w3 (.cells #[.int .i64 q.loc, .int .u64 (q.birth : Int), .int .u32 (q.sum : Int)] 29))).size
        go_wp2_with (at_builtin; refine wpList_append_row pw rfl (.tmp 30) (.tmp 32) 22 rfl w1.heap.size 29 (.agg #[.int .i64 0, .int .u64 0, .int .u32 0]) 24 Try.underlying22 info_ptr rfl _ (outAt l q i i) rfl (o3.up (up_alloc _ _)) (.slice (some ⟨w3.heap.size, 0, none⟩) 1 1) [⟨q.loc, q.birth, q.sum⟩] rfl (one_lit _ _ rfl q.loc q.birth q.sum) (by simp; omega) (by simp; omega) (by omega) ?_)
        intro v' w5 hown5 hg5 hb5
        have up05 : Up w1 w5 := (up03.alloc _).below_trans hb5 (Nat.le_refl _)
        have hbl := HO.out.block_lt
        have k0 := grown_cell hg5 ((up_alloc w3 (.cells #[.int .i64 q.loc, .int .u64 (q.birth : Int), .int .u32 (q.sum : Int)] 29)).cell z0) (fun n hn => (hbl n hn).2)
        have k1 := grown_cell hg5 ((up_alloc w3 (.cells #[.int .i64 q.loc, .int .u64 (q.birth : Int), .int .u32 (q.sum : Int)] 29)).cell z1) (fun n hn => (hbl n hn).2)
        have k2 := grown_cell hg5 ((up_alloc w3 (.cells #[.int .i64 q.loc, .int .u64 (q.birth : Int), .int .u32 (q.sum : Int)] 29)).cell z2) (fun n hn => (hbl n hn).2)
        clear hbl
        clear z0 z1 z2 d0 d1 d2
        have hz5 := (up05.trans (up_alloc w5 (.cells #[.int .i64 pl, .int .u64 (pb : Int), .int .u32 (ps : Int)] 29))).size
        obtain ⟨xs, hxs⟩ : ∃ xs, xs = outAt l q i i ++ [⟨q.loc, q.birth, q.sum⟩] := ⟨_, rfl⟩
        rw [← hxs] at hown5
        have hself := outAt_self l q i
        have hxl : xs.length ≤ i + 1 := by rw [hxs, List.length_append]; simp; omega
        have HXS := Lib.hid hxs
        clear hxs
        have own7 := hown5.up (up_alloc w5 (.cells #[.int .i64 pl, .int .u64 (pb : Int), .int .u32 (ps : Int)] 29))
        have lit7 := one_lit w5 w5.heap.size rfl pl pb ps
        have n1 : (xs.length + [(⟨pl, pb, ps⟩ : PtrD)].length) * 24 ≤ 140737488355328 := by simp; omega
        have n2 : xs.length + [(⟨pl, pb, ps⟩ : PtrD)].length ≤ 9223372036854775807 := by simp; omega
        clear hown5
        go_wp2_with (at_builtin; refine wpList_append_row pw rfl (.tmp 34) (.tmp 36) 22 rfl w1.heap.size 29 (.agg #[.int .i64 0, .int .u64 0, .int .u32 0]) 24 Try.underlying22 info_ptr rfl _ xs rfl own7 (.slice (some ⟨w5.heap.size, 0, none⟩) 1 1) [⟨pl, pb, ps⟩] rfl lit7 n1 n2 hz5 ?_)
        intro v'' w6 hown6 _ hb6
        go_wp2_with fail
        go_roundw
        case rel => exact ⟨i + 1, by omega, by go_num, by simp, HNO'.out, by rw [HOUT.out, ← HXS.out]; exact hown6, (up05.alloc _).below_trans hb6 (Nat.le_refl _)⟩
        case measure => simp [intOf]; omega
      · have td : decide (i < k) = false := by simp; omega
        have td2 : decide (i < k + 1) = false := by simp; omega
        have HOUT := Lib.hid hout
        have HD2 := Lib.hid td2
        rw [hle] at L
        rw [td]
        clear hout td2 td hle hik
        have o1 := HO.out.up upa
        go_wp2_with fail
        refine (L.out _).mono ?_
        rintro e w3 ⟨rfl, up3⟩
        have up03 := upra.trans up3
        have o3 := o1.up up3
        have z0 := up3.cell y0
        have z1 := up3.cell y1
        have z2 := up3.cell y2
        clear y0 y1 y2 d0 d1 d2
        have hz := (up03.trans (up_alloc w3 (.cells #[.int .i64 pl, .int .u64 pb, .int .u32 ps] 29))).size
        go_wp2_with (at_builtin; refine wpList_append_row pw rfl (.tmp 34) (.tmp 36) 22 rfl w1.heap.size 29 (.agg #[.int .i64 0, .int .u64 0, .int .u32 0]) 24 Try.underlying22 info_ptr rfl _ (outAt l q i k) rfl (o3.up (up_alloc _ _)) (.slice (some ⟨w3.heap.size, 0, none⟩) 1 1) [⟨pl, pb, ps⟩] rfl (one_lit _ _ rfl pl pb ps) (by simp; omega) (by simp; omega) (by omega) ?_)
        intro v' w5 hown5 _ hb5
        go_wp2_with fail
        go_roundw
        case rel => exact ⟨k + 1, by omega, by go_num, by rw [HD2.out], HNO'.out, by rw [HOUT.out]; exact hown5, (up03.alloc _).below_trans hb5 (Nat.le_refl _)⟩
        case measure => simp [intOf]; omega
    · obtain rfl : k = l.length := by omega
      have hnin : q ∉ l := fun h => by
        obtain ⟨j, hj, e⟩ := List.getElem_of_mem h
        exact HNO.out j hj hj e
      have hos := HP2.out hnin
      by_cases hik : i < l.length
      · have td : decide (i < l.length) = true := by simpa using hik
        have hout : outAt l q i l.length = l.take i ++ q :: l.drop i := by
          unfold outAt
          rw [if_pos hik, List.take_length]
        have HOS := Lib.hid hos
        rw [hout] at hown
        rw [td]
        clear hos hout td hik
        go_wp2_with fail
        go_ret2
        rw [HOS.out]
        exact ⟨_, rfl, hown.mono upw1.size, upw1.trans upr⟩
      · have hie : i = l.length := by omega
        have td : decide (i < l.length) = false := by simpa using hik
        have hout : outAt l q i l.length = l := by
          unfold outAt
          rw [if_neg hik, List.take_length]
        have hfin : l.take i ++ q :: l.drop i = l ++ [q] := by rw [hie, List.take_length, List.drop_length]
        rw [hfin] at hos
        have HOS := Lib.hid hos
        rw [hout] at hown
        rw [td]
        clear hos hout td hik hfin
        obtain ⟨d0, d1, d2⟩ := CA.out _ upr
        have hz := (upr.trans (up_alloc wr (.cells #[.int .i64 q.loc, .int .u64 (q.birth : Int), .int .u32 (q.sum : Int)] 29))).size
        go_wp2_with (at_builtin; refine wpList_append_row pw rfl (.tmp 41) (.tmp 43) 22 rfl w1.heap.size 29 (.agg #[.int .i64 0, .int .u64 0, .int .u32 0]) 24 Try.underlying22 info_ptr rfl _ (l) rfl (hown.up (up_alloc _ _)) (.slice (some ⟨wr.heap.size, 0, none⟩) 1 1) [⟨q.loc, q.birth, q.sum⟩] rfl (one_lit _ _ rfl q.loc q.birth q.sum) (by simp; omega) (by simp; omega) (by omega) ?_)
        intro v' w5 hown5 _ hb5
        go_wp2_with fail
        go_ret2
        rw [HOS.out]
        exact ⟨_, rfl, hown5.mono upw1.size, (upw1.trans (upr.alloc _)).below_trans hb5 upw1.size⟩
end Go.Proofs.Ythdheddfimeigaa
