/- Add: the search, and dead.Add's walk. -/
import Derived.Test.YthdheddfimeigaaDeadT
set_option linter.unusedSimpArgs false
namespace Go.Proofs.Ythdheddfimeigaa
open Go.RowKit Go.Sort

theorem less_trans {p q r : PtrD} (h : lessB p q = true) (h2 : lessB q r = true) : lessB p r = true := by
  obtain ⟨l, b, s⟩ := p
  obtain ⟨l2, b2, s2⟩ := q
  obtain ⟨l3, b3, s3⟩ := r
  rw [lessB_iff] at *
  omega
theorem less_irr (p : PtrD) : lessB p p = false := by
  obtain ⟨l, b, s⟩ := p
  rw [← Bool.not_eq_true, lessB_iff]
  omega
theorem less_asym {p q : PtrD} (h : lessB p q = true) : lessB q p = false := by
  cases h2 : lessB q p
  · rfl
  · have := less_trans h h2
    rw [less_irr] at this
    cases this
theorem less_tri {p q : PtrD} (h : lessB p q = false) (h2 : lessB q p = false) : p = q := by
  obtain ⟨l, b, s⟩ := p
  obtain ⟨l2, b2, s2⟩ := q
  rw [← Bool.not_eq_true, lessB_iff] at *
  simp only [PtrD.mk.injEq]
  omega
/-- Each stands ahead of all behind it. -/
def SortedP (l : List PtrD) : Prop := ∀ i j (hj : j < l.length) (hij : i < j), lessB (l[i]'(by omega)) l[j] = true
theorem right_sorted {l : List PtrD} (h : rightB l = true) : SortedP l := by
  rw [rightB_iff] at h
  intro i j
  induction j with
  | zero => intro _ h; omega
  | succ j ih =>
    intro hj hij
    have hs := h (j + 1) hj
    rw [ok_succ hj, Bool.and_eq_true] at hs
    by_cases e : i = j
    · subst e; exact hs.2
    · exact less_trans (ih (by omega) (by omega)) hs.2
def posI (l : List PtrD) (q : PtrD) : Nat := (l.takeWhile (fun p => lessB p q)).length
theorem posI_eq : ∀ (l : List PtrD) (q : PtrD) (i : Nat) (_hi : i ≤ l.length), (∀ k (hk : k < l.length), k < i → lessB l[k] q = true) → (∀ h : i < l.length, lessB l[i] q = false) → posI l q = i
  | [], q, i, hi, _, _ => by simp at hi; subst hi; rfl
  | x :: l, q, 0, _, _, h2 => by
    have := h2 (by simp)
    simp at this
    simp [posI, List.takeWhile_cons, this]
  | x :: l, q, i + 1, hi, h1, h2 => by
    have hx : lessB x q = true := h1 0 (by simp) (by omega)
    have ih := posI_eq l q i (by simpa using hi) (fun k hk hki => h1 (k + 1) (by simpa using hk) (by omega)) (fun h => h2 (by simpa using h))
    unfold posI at *
    simp [List.takeWhile_cons, hx, ih]
theorem posI_le (l : List PtrD) (q : PtrD) : posI l q ≤ l.length := by
  unfold posI
  exact (List.takeWhile_sublist _).length_le
theorem posI_not (l : List PtrD) (q : PtrD) (h : posI l q < l.length) : lessB l[posI l q] q = false := by
  induction l with
  | nil => simp at h
  | cons x l ih =>
    cases hx : lessB x q
    · have e : posI (x :: l) q = 0 := by simp [posI, List.takeWhile_cons, hx]
      simp only [e, List.getElem_cons_zero, hx]
    · have e : posI (x :: l) q = posI l q + 1 := by simp [posI, List.takeWhile_cons, hx]
      simp only [e, List.getElem_cons_succ]
      exact ih (by rw [e] at h; simpa using h)
theorem posI_lt {l : List PtrD} {q : PtrD} : ∀ k (hk : k < l.length), k < posI l q → lessB l[k] q = true := by
  induction l with
  | nil => intro k hk; simp at hk
  | cons x l ih =>
    intro k hk hlt
    cases hx : lessB x q
    · have e : posI (x :: l) q = 0 := by simp [posI, List.takeWhile_cons, hx]
      omega
    · have e : posI (x :: l) q = posI l q + 1 := by simp [posI, List.takeWhile_cons, hx]
      cases k with
      | zero => simpa using hx
      | succ k =>
        simp only [List.getElem_cons_succ]
        exact ih k (by simpa using hk) (by omega)

/-- The list with one more; none if it cannot be in one, or is in it. -/
def addO (l : List PtrD) (q : PtrD) : Option (List PtrD) := if fitB q = true ∧ q ∉ l then some (l.take (posI l q) ++ q :: l.drop (posI l q)) else none
/-- In a sorted list it is in it just if it stands where it belongs. -/
theorem mem_pos {l : List PtrD} (hs : SortedP l) (q : PtrD) : q ∈ l ↔ ∃ h : posI l q < l.length, l[posI l q] = q := by
  constructor
  · intro hm
    obtain ⟨j, hj, rfl⟩ := List.getElem_of_mem hm
    have h1 : ¬ j < posI l l[j] := fun h => by
      have := posI_lt j hj h
      rw [less_irr] at this
      cases this
    have hlt : posI l l[j] < l.length := by omega
    refine ⟨hlt, ?_⟩
    by_cases e : posI l l[j] = j
    · simp only [e]
    · have := hs (posI l l[j]) j hj (by omega)
      rw [posI_not l l[j] hlt] at this
      cases this
  · rintro ⟨h, e⟩
    rw [← e]
    exact List.getElem_mem h

/-- What Add's test reads. -/
theorem add_test {w : World} {v : Value} {l : List PtrD} (hv : IsPtrs w v l) (k : Nat) (hk : k < l.length) : ∃ b off cap, v = .slice (some ⟨b, off, none⟩) l.length cap ∧ w.cell? ⟨b, off + k * 3, none⟩ = some (.int .i64 l[k].loc) ∧ w.cell? ⟨b, off + k * 3 + 1, none⟩ = some (.int .u64 (l[k].birth : Int)) ∧ w.cell? ⟨b, off + k * 3 + 2, none⟩ = some (.int .u32 (l[k].sum : Int)) := by
  obtain ⟨a, cap, rfl⟩ := hv.slice
  obtain ⟨b, off, rfl, _, _, hc⟩ := ptrs_at hv (by omega)
  exact ⟨b, off, cap, rfl, hc k hk⟩

set_option maxHeartbeats 1000000 in
theorem closure_any (w : World) (v : Value) (l : List PtrD) (hv : IsPtrs w v l) (q : PtrD) (b1 b2 : Nat) (c0 : w.cell? ⟨b1, 0, none⟩ = some v) (d0 : w.cell? ⟨b2, 0, none⟩ = some (.int .i64 q.loc)) (d1 : w.cell? ⟨b2, 1, none⟩ = some (.int .u64 (q.birth : Int))) (d2 : w.cell? ⟨b2, 2, none⟩ = some (.int .u32 (q.sum : Int))) (k : Nat) (hk : k < l.length) :
    Calls Try.prog 28 #[.int .i64 (k : Int), .pointer (some ⟨b1, 0, none⟩), .pointer (some ⟨b2, 0, none⟩)] w fun e w' => BoolUp (!lessB l[k] q) w e w' := by
  obtain ⟨b, off, cap, rfl, e0, e1, e2⟩ := add_test hv k hk
  have L := Lib.hid (show LessFits (ptrV l[k]) (ptrV q) (lessB l[k] q) from ⟨fun W => less_any W l[k] q⟩)
  have x0 := cell_regrown c0
  have x1 := cell_regrown d0
  have x2 := cell_regrown d1
  have x3 := cell_regrown d2
  have x4 := cell_regrown e0
  have x5 := cell_regrown e1
  have x6 := cell_regrown e2
  have t1 : ((k : Int) < (l.length : Int)) = True := by simp; omega
  clear hv c0 d0 d1 d2 e0 e1 e2
  generalize l[k] = p at *
  obtain ⟨pl, pb, ps⟩ := p
  obtain ⟨ql, qb, qs⟩ := q
  unfold ptrV at L
  simp only at L x0 x1 x2 x3 x4 x5 x6
  generalize lessB ⟨pl, pb, ps⟩ ⟨ql, qb, qs⟩ = g at *
  go_enter Try.func28, Try.ntmps28
  go_wp2_with fail
  refine wp_region_quiet_below (by kernel_rfl) (by kernel_rfl) ?_
  repeat (go_big_quiet_step ((go_at_call 29; exact Calls.regrown_of (less_fits _ _ _ _ L.out))))
  refine wpQuiet_nil ?_
  intro w4 hw'
  obtain ⟨⟨d, os⟩, hw4⟩ := hw'
  have up4 : Up w w4 := by rw [hw4]; exact below_regrown _ _ _
  clear hw4 x0 x1 x2 x3 x4 x5 x6
  go_wp2_with fail
  go_ret
  exact ⟨rfl, up4⟩

set_option maxHeartbeats 2000000 in
theorem search_any (w : World) (v : Value) (l : List PtrD) (hv : IsPtrs w v l) (hs : SortedP l) (q : PtrD) (b1 b2 : Nat) (c0 : w.cell? ⟨b1, 0, none⟩ = some v) (d0 : w.cell? ⟨b2, 0, none⟩ = some (.int .i64 q.loc)) (d1 : w.cell? ⟨b2, 1, none⟩ = some (.int .u64 (q.birth : Int))) (d2 : w.cell? ⟨b2, 2, none⟩ = some (.int .u32 (q.sum : Int))) (n : Nat) (hn : n = l.length) (hn2 : n ≤ 4611686018427387903) :
    Calls Try.prog 27 #[.int .i64 (n : Int), .func (.func 28) #[] #[.pointer (some ⟨b1, 0, none⟩), .pointer (some ⟨b2, 0, none⟩)]] w fun e w' => e = .returned (.int .i64 (posI l q : Nat)) ∧ Up w w' := by
  have HN := Lib.hid hn
  have HV := Lib.hid hv
  have HS := Lib.hid hs
  have C := Lib.hid (show ∀ wr, Up w wr → ∀ k (hk : k < l.length), Calls Try.prog 28 #[.int .i64 (k : Int), .pointer (some ⟨b1, 0, none⟩), .pointer (some ⟨b2, 0, none⟩)] wr fun e w' => BoolUp (!lessB l[k] q) wr e w' from
    fun wr up k hk => closure_any wr v l (IsRow.up hv up) q b1 b2 (up.cell c0) (up.cell d0) (up.cell d1) (up.cell d2) k hk)
  clear hn hv hs c0 d0 d1 d2
  go_enter Try.func27, Try.ntmps27
  go_wp2_with fail
  go_loopw [5, 6] (fun i j wr => ∃ a b : Nat, i = .int .i64 a ∧ j = .int .i64 b ∧ a ≤ b ∧ b ≤ n ∧ (∀ k (hk : k < l.length), k < a → lessB l[k] q = true) ∧ (∀ k (hk : k < l.length), b ≤ k → lessB l[k] q = false) ∧ Up w wr) (fun i j _ => (intOf j).toNat - (intOf i).toNat)
  case atStart => exact ⟨0, n, rfl, rfl, by omega, by omega, fun k hk h => by omega, fun k hk h => by have := HN.out; omega, Up.refl _⟩
  case round =>
    obtain ⟨a, b, rfl, rfl, hab, hbn, h1, h2, upr⟩ := hrel
    have H1 := Lib.hid h1
    have H2 := Lib.hid h2
    clear h1 h2
    by_cases hlt : a < b
    · have t1 : ((a : Int) < (b : Int)) = True := by simp; omega
      have t1' : (a < b) = True := by simp; omega
      obtain ⟨h, hh⟩ : ∃ h, h = (a + b) / 2 := ⟨_, rfl⟩
      have hhl : h < l.length := by have := HN.out; omega
      have e1 : IntKind.i64.wrap ((a : Int) + (b : Int)) = (a : Int) + (b : Int) := wrap_i64_nat (a + b) (by omega)
      have e2 : ((a : Int) + (b : Int)) / 2 = (h : Int) := by rw [hh]; omega
      have e3 : IntKind.i64.wrap ((h : Int) + 1) = (h : Int) + 1 := wrap_i64_nat (h + 1) (by omega)
      have hah : a ≤ h := by omega
      have hhb : h < b := by omega
      have CC := Lib.hid (C.out wr upr h hhl)
      cases hg : lessB l[h] q
      · have K : ∀ k (hk : k < l.length), h ≤ k → lessB l[k] q = false := fun k hk hle => by
          by_cases e : k = h
          · subst e; exact hg
          · cases h3 : lessB l[k] q
            · rfl
            · have := less_trans (HS.out h k hk (by omega)) h3
              rw [hg] at this
              cases this
        have KK := Lib.hid K
        rw [hg] at CC
        clear hg K hh
        go_wp2_with fail
        refine CC.out.mono ?_
        rintro e w3 ⟨rfl, up3⟩
        go_wp2_with fail
        go_roundw
        case rel => exact ⟨a, h, rfl, rfl, by omega, by omega, H1.out, KK.out, upr.trans up3⟩
        case measure => simp [intOf]; omega
      · have K : ∀ k (hk : k < l.length), k < h + 1 → lessB l[k] q = true := fun k hk hle => by
          by_cases e : k = h
          · subst e; exact hg
          · exact less_trans (HS.out k h hhl (by omega)) hg
        have KK := Lib.hid K
        rw [hg] at CC
        clear hg K hh
        go_wp2_with fail
        refine CC.out.mono ?_
        rintro e w3 ⟨rfl, up3⟩
        go_wp2_with fail
        go_roundw
        case rel => exact ⟨h + 1, b, by simp, rfl, by omega, by omega, KK.out, H2.out, upr.trans up3⟩
        case measure => simp [intOf]; omega
    · obtain rfl : a = b := by omega
      have hp : posI l q = a := posI_eq l q a (by have := HN.out; omega) H1.out (fun h => H2.out a h (by omega))
      have HP := Lib.hid hp
      clear hp
      go_wp2_with fail
      go_ret
      exact ⟨by rw [HP.out] <;> rfl, upr⟩
end Go.Proofs.Ythdheddfimeigaa
