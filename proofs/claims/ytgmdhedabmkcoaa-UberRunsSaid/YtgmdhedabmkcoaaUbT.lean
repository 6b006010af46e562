/- A ring through commits, with the power going and crashes between: plain laws. -/
import Derived.Test.YtgmdhedabmkcoaaUbK
set_option linter.unusedSimpArgs false
set_option linter.unusedVariables false
namespace Go.Proofs.Ytgmdhedabmkcoaa
open Go.RowKit Go.Sort

theorem commit_cases {v : DevD} (hp : v.pend = []) (h4 : 4 ≤ v.stable.length) {u : UbD} (hr : rightU u = true) :
    ((v.committed u).stable = v.stable ∧ ((v.committed u).pend = [] ∨ (v.committed u).pend = [⟨u.txg % 4, ubV u⟩]) ∧ v.commitE u ≠ 0) ∨
    ((v.committed u).stable = v.stable.set (u.txg % 4) (ubV u) ∧ (v.committed u).pend = [] ∧ v.commitE u = 0) := by
  have hm : u.txg % 4 < 4 := Nat.mod_lt _ (by omega)
  have f1 : v.flushed.stable = v.stable ∧ v.flushed.pend = [] := by
    obtain ⟨s1, s2, s3⟩ := spent_same v.counted
    have s1 : v.counted.spent.pend = v.pend := s1
    have s2 : v.counted.spent.stable = v.stable := s2
    unfold DevD.flushed
    split
    · exact ⟨by show applyW v.stable v.pend = _; rw [hp]; rfl, rfl⟩
    · exact ⟨s2, by rw [s1, hp]⟩
  obtain ⟨f1, f2⟩ := f1
  by_cases fe : v.flushE = 0
  rotate_left
  · have cc : v.committed u = v.flushed := by unfold DevD.committed; rw [if_pos hr, if_neg fe]
    have ce : v.commitE u = v.flushE := by unfold DevD.commitE; rw [if_pos hr, if_neg fe]
    rw [cc, ce]
    exact .inl ⟨f1, .inl f2, fe⟩
  have hb : v.flushed.hasB ((u.txg % 4 : Nat) : Int) = true := (hasB_iff _ _).2 (by rw [f1]; omega)
  obtain ⟨t1, t2, t3⟩ := spent_same v.flushed.counted
  have t1 : v.flushed.counted.spent.pend = [] := by rw [t1]; exact f2
  have t2 : v.flushed.counted.spent.stable = v.stable := by rw [t2]; exact f1
  cases hpw : v.flushed.powerB
  · have we : v.flushed.writeE ((u.txg % 4 : Nat) : Int) = 42 := by unfold DevD.writeE; rw [if_pos hb, if_neg (by rw [hpw]; simp)]
    have c1 : v.commit1 u = v.flushed.counted.spent := by unfold DevD.commit1 DevD.written; rw [if_pos hb, if_neg (by rw [hpw]; simp)]
    have cc : v.committed u = v.commit1 u := by unfold DevD.committed; rw [if_pos hr, if_pos fe, if_neg (by rw [we]; omega)]
    have ce : v.commitE u = 42 := by unfold DevD.commitE; rw [if_pos hr, if_pos fe, if_neg (by rw [we]; omega), we]
    rw [cc, ce, c1]
    exact .inl ⟨t2, .inl t1, by omega⟩
  have we : v.flushed.writeE ((u.txg % 4 : Nat) : Int) = 0 := by unfold DevD.writeE; rw [if_pos hb, if_pos hpw]
  have c1 : v.commit1 u = v.flushed.counted.spent.put (u.txg % 4) (ubV u) := by unfold DevD.commit1 DevD.written; rw [if_pos hb, if_pos hpw, Int.toNat_natCast]
  have cc : v.committed u = (v.commit1 u).flushed := by unfold DevD.committed; rw [if_pos hr, if_pos fe, if_pos we]
  have ce : v.commitE u = (v.commit1 u).flushE := by unfold DevD.commitE; rw [if_pos hr, if_pos fe, if_pos we]
  have g1 : (v.commit1 u).pend = [⟨u.txg % 4, ubV u⟩] := by
    rw [c1]
    show v.flushed.counted.spent.pend ++ _ = _
    rw [t1]; rfl
  have g2 : (v.commit1 u).stable = v.stable := by rw [c1]; exact t2
  obtain ⟨r1, r2, r3⟩ := spent_same (v.commit1 u).counted
  have r1 : (v.commit1 u).counted.spent.pend = (v.commit1 u).pend := r1
  have r2 : (v.commit1 u).counted.spent.stable = (v.commit1 u).stable := r2
  rw [cc, ce]
  cases hpz : (v.commit1 u).powerB
  · have x1 : (v.commit1 u).flushed = (v.commit1 u).counted.spent := by unfold DevD.flushed; rw [if_neg (by rw [hpz]; simp)]
    have x2 : (v.commit1 u).flushE = 42 := by unfold DevD.flushE; rw [if_neg (by rw [hpz]; simp)]
    rw [x1, x2, r1, r2, g1, g2]
    exact .inl ⟨rfl, .inr rfl, by omega⟩
  · have x1 : (v.commit1 u).flushed = { (v.commit1 u).counted.spent with stable := applyW (v.commit1 u).stable (v.commit1 u).pend, pend := [] } := by unfold DevD.flushed; rw [if_pos hpz]
    have x2 : (v.commit1 u).flushE = 0 := by unfold DevD.flushE; rw [if_pos hpz]
    rw [x1, x2, g1, g2]
    exact .inr ⟨rfl, rfl, rfl⟩
/-- What a crash leaves. -/
theorem crash_cases {v c : DevD} {u : UbD} (ks : List Bool) (h : (c.stable = v.stable ∧ (c.pend = [] ∨ c.pend = [⟨u.txg % 4, ubV u⟩])) ∨ (c.stable = v.stable.set (u.txg % 4) (ubV u) ∧ c.pend = [])) :
    c.crashS ks = v.stable ∨ c.crashS ks = v.stable.set (u.txg % 4) (ubV u) := by
  unfold DevD.crashS
  rcases h with ⟨h1, h2 | h2⟩ | ⟨h1, h2⟩
  · rw [h1, h2]; exact .inl rfl
  · rw [h1, h2]
    unfold keepW
    split
    · exact .inr rfl
    · exact .inl rfl
  · rw [h1, h2]; exact .inr rfl
/-- The ring in which 'now' counts. -/
structure Ring (v : DevD) (now : UbD) : Prop where
  left : v.left = -1
  dead : v.dead = false
  pend : v.pend = []
  len : 4 ≤ v.stable.length
  new : v.newest = v.stable
  right : rightU now = true
  wf : now.wf
  there : v.atU (now.txg % 4) = some now
  rest : ∀ i, i < 4 → ∀ x, v.atU i = some x → x = now ∨ x.txg < now.txg
theorem rawU_mem {v : DevD} : ∀ k, ∀ x, x ∈ v.rawU k ↔ ∃ i, i < k ∧ v.atU i = some x
  | 0, x => by simp [DevD.rawU]
  | k + 1, x => by
    rw [DevD.rawU, List.mem_append, rawU_mem k x, Option.mem_toList]
    constructor
    · rintro (⟨i, hi, h⟩ | h)
      · exact ⟨i, by omega, h⟩
      · exact ⟨k, by omega, h⟩
    · rintro ⟨i, hi, h⟩
      by_cases hk : i = k
      · subst hk; exact .inr h
      · exact .inl ⟨i, by omega, h⟩
theorem ringU_mem {v : DevD} {x : UbD} : x ∈ v.ringU ↔ ∃ i, i < 4 ∧ v.atU i = some x := by
  unfold DevD.ringU
  rw [(sortU_perm _).mem_iff, rawU_mem]
theorem asc_last : ∀ {l : List UbD}, Asc l → ∀ x ∈ l, ∀ y, l.getLast? = some y → x = y ∨ x.txg < y.txg
  | [], _, x, hx, _, _ => by cases hx
  | a :: l, h, x, hx, y, hy => by
    have ha := List.pairwise_cons.1 h
    cases l with
    | nil =>
      simp at hx hy
      subst hx hy
      exact .inl rfl
    | cons b l =>
      rw [List.getLast?_cons_cons] at hy
      rcases List.mem_cons.1 hx with h1 | h1
      · subst h1
        have := List.mem_of_getLast? hy
        exact .inr (ha.1 y this)
      · exact asc_last ha.2 x h1 y hy
theorem Ring.best {v : DevD} {now : UbD} (R : Ring v now) : v.bestU = some now := by
  have hin : now ∈ v.ringU := ringU_mem.2 ⟨_, Nat.mod_lt _ (by omega), R.there⟩
  unfold DevD.bestU
  cases hl : v.ringU.getLast? with
  | none =>
    rw [List.getLast?_eq_none_iff] at hl
    rw [hl] at hin
    cases hin
  | some y =>
    have hy := List.mem_of_getLast? hl
    obtain ⟨i, hi, ha⟩ := ringU_mem.1 hy
    rcases R.rest i hi y ha with rfl | hlt
    · rfl
    · rcases asc_last (sortU_asc (rawU_dist v 4)) now hin y hl with rfl | h2
      · rfl
      · omega
theorem atU_stable {v : DevD} (hd : v.dead = false) (hn : v.newest = v.stable) {i : Nat} (hi : i < v.stable.length) : v.atU i = (uread (v.stable.getD i zSec).val).bind fun u => if u.txg % 4 = i then some u else none := by
  rw [atU_live hd hi, hn]
theorem ring_same {v c : DevD} {now : UbD} (R : Ring v now) (ks : List Bool) (h : c.crashS ks = v.stable) : Ring (c.crashed ks) now := by
  have e1 : (c.crashed ks).stable = v.stable := h
  have hat : ∀ i, i < 4 → (c.crashed ks).atU i = v.atU i := fun i hi => by
    rw [atU_stable (v := c.crashed ks) rfl rfl (by rw [e1]; have := R.len; omega), atU_stable R.dead R.new (by have := R.len; omega), e1]
  exact ⟨rfl, rfl, rfl, by rw [e1]; exact R.len, rfl, R.right, R.wf, by rw [hat _ (Nat.mod_lt _ (by omega))]; exact R.there, fun i hi x hx => R.rest i hi x (by rw [← hat i hi]; exact hx)⟩
theorem ring_next {v c : DevD} {now u : UbD} (R : Ring v now) (ks : List Bool) (hr : rightU u = true) (hw : u.wf) (ht : u.txg = now.txg + 1) (h : c.crashS ks = v.stable.set (u.txg % 4) (ubV u)) : Ring (c.crashed ks) u := by
  have e1 : (c.crashed ks).stable = v.stable.set (u.txg % 4) (ubV u) := h
  have hm : u.txg % 4 < 4 := Nat.mod_lt _ (by omega)
  have hl := R.len
  have hl2 : (c.crashed ks).stable.length = v.stable.length := by rw [e1]; simp
  have hat : ∀ i, i < 4 → i ≠ u.txg % 4 → (c.crashed ks).atU i = v.atU i := fun i hi hne => by
    rw [atU_stable (v := c.crashed ks) rfl rfl (by omega), atU_stable R.dead R.new (by omega), e1]
    congr 3
    rw [List.getD_eq_getElem?_getD, List.getD_eq_getElem?_getD, List.getElem?_set_ne (fun e => hne e.symm)]
  have hu : (c.crashed ks).atU (u.txg % 4) = some u := by
    rw [atU_stable (v := c.crashed ks) rfl rfl (by omega), e1]
    have : ((v.stable.set (u.txg % 4) (ubV u)).getD (u.txg % 4) zSec) = ubV u := by
      rw [List.getD_eq_getElem?_getD, List.getElem?_set_self (by omega)]; rfl
    rw [this]
    have e2 : (ubV u).val = ubBytes u := by unfold ubV; rw [if_pos hr]
    rw [e2, uread_back hr hw]
    simp
  refine ⟨rfl, rfl, rfl, by omega, rfl, hr, hw, hu, fun i hi x hx => ?_⟩
  by_cases hne : i = u.txg % 4
  · subst hne
    rw [hu] at hx
    exact .inl (Option.some.inj hx).symm
  · rw [hat i hi hne] at hx
    rcases R.rest i hi x hx with rfl | h2
    · right; omega
    · right; omega
/-- One act. -/
theorem ring_act {v : DevD} {now u : UbD} (R : Ring v now) (n : Int) (ks : List Bool) (hr : rightU u = true) (hw : u.wf) (ht : u.txg = now.txg + 1) :
    ∃ b, ((((v.broken n).committed u).crashed ks).bestU = some b) ∧ Ring (((v.broken n).committed u).crashed ks) b ∧ (b = u ∨ (b = now ∧ (v.broken n).commitE u ≠ 0)) := by
  have hp : (v.broken n).pend = [] := R.pend
  have hs : (v.broken n).stable = v.stable := rfl
  rcases commit_cases hp (by rw [hs]; exact R.len) hr with ⟨h1, h2, h3⟩ | ⟨h1, h2, h3⟩
  · rw [hs] at h1
    rcases crash_cases (v := v) (u := u) ks (.inl ⟨h1, h2⟩) with h4 | h4
    · have R2 := ring_same R ks h4
      exact ⟨now, R2.best, R2, .inr ⟨rfl, h3⟩⟩
    · have R2 := ring_next R ks hr hw ht h4
      exact ⟨u, R2.best, R2, .inl rfl⟩
  · rw [hs] at h1
    have h4 : ((v.broken n).committed u).crashS ks = v.stable.set (u.txg % 4) (ubV u) := by
      unfold DevD.crashS
      rw [h1, h2]; rfl
    have R2 := ring_next R ks hr hw ht h4
    exact ⟨u, R2.best, R2, .inl rfl⟩
theorem ring_first : (newD (clampN 8)).commitE (smallU 5) = 0 ∧ Ring ((newD (clampN 8)).committed (smallU 5)) (smallU 5) := by
  have hc : clampN 8 = 8 := by decide
  have r5 : rightU (smallU 5) = true := by decide
  rw [hc]
  obtain ⟨a1, a2, a3, a4, a5, a6⟩ := commit_live (v := newD 8) rfl rfl rfl (by unfold newD; simp) r5
  have hst : ((newD 8).committed (smallU 5)).stable.length = 8 := by rw [a5]; simp [newD]
  have hne : ((newD 8).committed (smallU 5)).newest = ((newD 8).committed (smallU 5)).stable := by rw [a5, a6]; rfl
  have s5 : (ubV (smallU 5)).val = ubBytes (smallU 5) := by unfold ubV; rw [if_pos r5]
  have t1 : ((newD 8).committed (smallU 5)).atU 1 = some (smallU 5) := by
    rw [atU_live a3 (by omega), a6]
    show (uread (ubV (smallU 5)).val).bind _ = _
    rw [s5, uread_back r5 (small_wf 5 (by omega))]; rfl
  have tz : ∀ i, i < 4 → i ≠ 1 → ((newD 8).committed (smallU 5)).atU i = none := fun i hi h1 => by
    rw [atU_live a3 (by omega), a6]
    have : (((newD 8).newest.set ((smallU 5).txg % 4) (ubV (smallU 5))).getD i zSec).val = zeroS := by
      match i, hi, h1 with
      | 0, _, _ => rfl
      | 1, _, h1 => exact absurd rfl h1
      | 2, _, _ => rfl
      | 3, _, _ => rfl
    rw [this, uread_zero]; rfl
  refine ⟨a1, a2, a3, a4, by omega, hne, r5, small_wf 5 (by omega), t1, fun i hi x hx => ?_⟩
  by_cases h1 : i = 1
  · subst h1
    rw [t1] at hx
    exact .inl (Option.some.inj hx).symm
  · rw [tz i hi h1] at hx
    cases hx
end Go.Proofs.Ytgmdhedabmkcoaa
