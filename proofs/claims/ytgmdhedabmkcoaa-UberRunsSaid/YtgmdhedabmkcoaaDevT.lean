/- A device's Rot: the walk. -/
import Derived.Test.YtgmdhedabmkcoaaDevA
import Derived.Test.YtgmdhedabmkcoaaGate
set_option linter.unusedSimpArgs false
set_option linter.unusedVariables false
namespace Go.Proofs.Ytgmdhedabmkcoaa
open Go.RowKit

theorem splice_cons {L m : List Value} {a : Value} {o : Nat} (h : L[o]? = some a) : splice L o (a :: m) = splice L (o + 1) m := by
  obtain ⟨ho, he⟩ := List.getElem?_eq_some_iff.1 h
  unfold splice
  rw [List.take_succ_eq_append_getElem ho, he, List.length_cons, show o + (m.length + 1) = o + 1 + m.length by omega]
  simp
theorem splice_take {L m : List Value} {o N : Nat} (h : o + m.length ≤ N) (hN : N ≤ L.length) : (splice L o m).take N = splice (L.take N) o m := by
  unfold splice
  have h1 : (L.take o).length = o := by rw [List.length_take]; omega
  rw [← List.append_assoc, List.take_append, show (L.take o ++ m).length = o + m.length by rw [List.length_append, h1], List.take_of_length_le (by rw [List.length_append, h1]; omega), List.append_assoc, List.take_take, Nat.min_eq_left (by omega), List.drop_take]
theorem splice_length {L m : List Value} {o : Nat} (h : o + m.length ≤ L.length) : (splice L o m).length = L.length := by
  unfold splice
  simp only [List.length_append, List.length_take, List.length_drop]
  omega
/-- A write's sector among writes. -/
theorem own_wr_set {w : World} {g n cap : Nat} {l : List WrD} (h : OwnRow wcells 129 101 w 0 (.slice (some ⟨g, 0, none⟩) n cap) l) (k : Nat) (hk : k < l.length) (s : Sec) :
    ∃ cur, Blk w g 101 cur ∧ k * 129 + 1 + (secC s.val).size ≤ cur.size ∧ ∀ w', Blk w' g 101 (splice cur.toList (k * 129 + 1) (secC s.val).toList).toArray → OwnRow wcells 129 101 w' 0 (.slice (some ⟨g, 0, none⟩) n cap) (l.set k ⟨l[k].loc, s⟩) := by
  obtain ⟨h1, h2⟩ := h
  rcases h2 with ⟨h2, _⟩ | ⟨g', cap', cur, hv, hb, hg, hc, hm, hsz, ht⟩
  · cases h2
  · simp only [Value.slice.injEq, Option.some.injEq, Addr.mk.injEq, and_true] at hv
    obtain ⟨rfl, hn, rfl⟩ := hv
    have hcl : cur.toList.length = cap * 129 := by simpa using hsz
    have hlc : l.length * 129 ≤ cap * 129 := Nat.mul_le_mul_right _ hc
    have hs : (secC s.val).toList.length = 128 := by rw [secC_scells]; exact sw.len s
    have hfit : k * 129 + 1 + 128 ≤ l.length * 129 := by omega
    refine ⟨cur, hg, by rw [secV_size, hsz]; omega, fun w' hb' => ⟨?_, .inr ⟨g, cap, _, ?_, hb, hb', ?_, hm, ?_, ?_⟩⟩⟩
    · rw [ww.flat]
    · rw [List.length_set, hn]
    · rw [List.length_set]; exact hc
    · rw [List.size_toArray, splice_length (by rw [hs, hcl]; omega)]; exact hcl
    · rw [List.length_set]
      show (splice cur.toList (k * 129 + 1) (secC s.val).toList).take (l.length * 129) = _
      rw [splice_take (by rw [hs]; omega) (by rw [hcl]; exact hlc), ht, secC_scells]
      have hc0 : (l.flatMap wcells)[k * 129]? = some (.int .i64 (l[k].loc : Int)) := by
        have := ww.at l k hk 0 (by omega)
        rw [Nat.add_zero] at this
        rw [this]; rfl
      rw [← splice_cons hc0]
      exact wide_set ww l k hk ⟨l[k].loc, s⟩
/-- The pending writes behind a rot, the first k done. -/
def rotW (n : Nat) (s : Sec) (x : WrD) : WrD := if x.loc = n then ⟨x.loc, s⟩ else x
def rotTo (n : Nat) (s : Sec) (k : Nat) (l : List WrD) : List WrD := (l.take k).map (rotW n s) ++ l.drop k
theorem rotTo_length (n : Nat) (s : Sec) (k : Nat) (l : List WrD) : (rotTo n s k l).length = l.length := by
  unfold rotTo; rw [List.length_append, List.length_map, ← List.length_append, List.take_append_drop]
theorem rotTo_get (n : Nat) (s : Sec) (k : Nat) (l : List WrD) (hk : k < l.length) : (rotTo n s k l)[k]'(by rw [rotTo_length]; exact hk) = l[k] := by
  unfold rotTo
  have h1 : ((l.take k).map (rotW n s)).length = k := by rw [List.length_map, List.length_take]; omega
  rw [List.getElem_append_right (by omega)]
  simp only [h1, Nat.sub_self, List.getElem_drop, Nat.add_zero]
theorem rotTo_set (n : Nat) (s : Sec) (k : Nat) (l : List WrD) (hk : k < l.length) : rotTo n s (k + 1) l = (rotTo n s k l).set k (rotW n s l[k]) := by
  unfold rotTo
  have h1 : ((l.take k).map (rotW n s)).length = k := by rw [List.length_map, List.length_take]; omega
  rw [List.set_append_right _ _ (by omega), h1, Nat.sub_self, List.take_succ_eq_append_getElem hk, List.drop_eq_getElem_cons hk, List.set_cons_zero]
  simp only [List.map_append, List.map_cons, List.map_nil, List.append_assoc, List.cons_append, List.nil_append]
theorem rotTo_same (n : Nat) (s : Sec) (k : Nat) (l : List WrD) (hk : k < l.length) (h : l[k].loc ≠ n) : rotTo n s (k + 1) l = rotTo n s k l := by
  rw [rotTo_set n s k l hk]
  unfold rotW
  rw [if_neg h]
  conv => lhs; arg 3; rw [← rotTo_get n s k l hk]
  exact List.set_getElem_self _
theorem rot_cases (n : Nat) (s : Sec) (k : Nat) (l : List WrD) (hk : k < l.length) (hk' : k < (rotTo n s k l).length) :
    ((rotTo n s k l)[k].loc = n → rotTo n s (k + 1) l = (rotTo n s k l).set k ⟨(rotTo n s k l)[k].loc, s⟩) ∧ ((rotTo n s k l)[k].loc ≠ n → rotTo n s (k + 1) l = rotTo n s k l) := by
  rw [rotTo_get n s k l hk]
  exact ⟨fun h => by rw [rotTo_set n s k l hk]; unfold rotW; rw [if_pos h], fun h => rotTo_same n s k l hk h⟩
theorem rotTo_zero (n : Nat) (s : Sec) (l : List WrD) : rotTo n s 0 l = l := by simp [rotTo]
theorem rotTo_end (n : Nat) (s : Sec) (l : List WrD) : rotTo n s l.length l = l.map (rotW n s) := by simp [rotTo]
def DevD.rotted (v : DevD) (i : Int) (s : Sec) : DevD := if v.hasB i = true then { v with stable := v.stable.set i.toNat s, newest := v.newest.set i.toNat s, pend := v.pend.map (rotW i.toNat s) } else v
def DevD.rotE (v : DevD) (i : Int) : Int := if v.hasB i = true then 0 else 41
theorem Dv.setPend {w w' : World} {h : Hnd} {v : DevD} (D : Dv w h v) (l : List WrD) (ho : OwnRow wcells 129 101 w' 0 h.vp l) (hl : ∀ x ∈ l, x.loc < v.stable.length) (hg : w.grownBy w' h.vp.ownBlock) : Dv w' h { v with pend := l } :=
  ⟨D.dev.grown hg (own_ne (by decide) D.dev D.pend), D.b1.grown hg (own_ne (by decide) D.b1 D.pend), D.b2.grown hg (own_ne (by decide) D.b2 D.pend), D.len, D.max, D.ne, ho, hl, D.ops, D.left⟩
end Go.Proofs.Ytgmdhedabmkcoaa
