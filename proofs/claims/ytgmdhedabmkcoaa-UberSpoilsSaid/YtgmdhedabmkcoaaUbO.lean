/- A ring of which one sector is overwritten: plain laws; four ubers in an array. -/
import Derived.Test.YtgmdhedabmkcoaaUbV
import Derived.Test.YtgmdhedabmkcoaaDevTW
import Derived.Test.YtgmdhedabmkcoaaArrO
set_option linter.unusedSimpArgs false
set_option linter.unusedVariables false
namespace Go.Proofs.Ytgmdhedabmkcoaa
open Go.RowKit Go.Sort

def quadC (l : List UbD) : Array Value := (l.flatMap ucells).toArray
theorem quadC_size (l : List UbD) : (quadC l).size = l.length * 7 := by simp [quadC, uw.flat]
theorem quad_part (l : List UbD) (k : Nat) (h : k < l.length) : (quadC l).extract (k * 7) (k * 7 + 7) = uC l[k] := by
  apply Array.toList_inj.1
  rw [Array.toList_extract, show (quadC l).toList = l.flatMap ucells by simp [quadC]]
  apply List.ext_getElem?
  intro j
  simp only [List.getElem?_take, List.getElem?_drop, List.extract]
  by_cases hj : j < 7
  · have h1 := uw.at l k h j hj
    rw [if_pos (by omega), h1]
    rfl
  · rw [if_neg (by omega)]
    simp [uC]
    omega
theorem index_quad (l : List UbD) (hl : l.length = 4) (k : Nat) (h : k < l.length) (W : World) : (Instr.index 53 (.agg (quadC l)) (.int .i64 (k : Int))).run Try.prog W = .ok (.agg (uC l[k])) W := by
  have h8 : (0 : Int) ≤ (k : Int) ∧ (k : Int) < ((4 : Nat) : Int) := by omega
  have hp := quad_part l k h
  have hs : (sizeOf 27).run Try.prog W = .ok 7 W := by kernel_rfl
  have hg : (isAgg 27).run Try.prog W = .ok true W := by kernel_rfl
  simp [Instr.index, asIntOf, run_underlying (P := Try.prog) Try.underlying53, h8, hs, part, hg, hp]
  omega
theorem info_quad (l : List UbD) (hl : l.length = 4) : (Try.prog.info? 53).map (·.size) = some (quadC l).size := by rw [quadC_size, hl]; kernel_rfl
set_option maxRecDepth 100000 in
theorem open_quad {H : Type} {enc : TypeId × Value → H} {W : World} {base : Nat} {v : Value} {d : DataW H} {ps : List MemPlace}
    (hval : Value.okWide Try.prog W .any base 53 v) (hd : DataW.Trod enc Try.prog W 0 (fun _ => true) true 53 v d ps) : ∃ l : List UbD, v = .agg (quadC l) ∧ l.length = 4 ∧ ∀ x ∈ l, x.wf := by
  obtain ⟨cs, rfl, _⟩ := okWide_array Try.underlying53 hval
  obtain ⟨fuel, hf⟩ := hd
  obtain ⟨l, h1, h2, h3⟩ := array_trod (f := ucells) (k := 7) (fun u => u.wf) (n := 4) Try.underlying53 (by kernel_rfl) (by kernel_rfl) (fun m cs y hy => ub_trod hy) hf
  refine ⟨l, ?_, h1, h3⟩
  have h4 : cs.toList = l.flatMap ucells := by simpa [Value.cells] using h2
  unfold quadC
  rw [← h4]
/-- Ubers in a slice. -/
theorem ubs_at {w : World} {a : Option Addr} {n cap : Nat} {l : List UbD} (h : IsRow ucells w (.slice a n cap) l) (h0 : 0 < l.length) : ∃ b off, a = some ⟨b, off, none⟩ ∧ b < w.heap.size ∧ ∀ i (hi : i < l.length), w.rangeAt b (off + i * 7) (uC l[i]).toList := by
  obtain ⟨b, off, h1, h2, _, h4⟩ := IsRow.get h uw h0
  exact ⟨b, off, h1, h2, fun i hi j v hj => by
    have := h4 i hi j v (by simpa [ucells] using hj)
    rw [show off + i * 7 + j = off + (i * 7 + j) by omega]
    exact this⟩
/-- A device of four sectors with its power. -/
structure Live4 (v : DevD) (k : Nat) : Prop where
  left : v.left = -1
  dead : v.dead = false
  len : v.stable.length = 4
  nlen : v.newest.length = 4
  pend : v.pend.length ≤ k
theorem live_new : Live4 (newD (clampN 4)) 0 := by
  have hc : clampN 4 = 4 := by decide
  rw [hc]
  exact ⟨rfl, rfl, by simp [newD], by simp [newD], by simp [newD]⟩
theorem Live4.mono {v : DevD} {k m : Nat} (L : Live4 v k) (h : k ≤ m) : Live4 v m := ⟨L.left, L.dead, L.len, L.nlen, Nat.le_trans L.pend h⟩
theorem Live4.write {v : DevD} {k : Nat} (L : Live4 v k) {n : Nat} (hn : n < 4) (s : Sec) : Live4 (v.written (n : Int) s) (k + 1) := by
  rw [written_live L.left L.dead (by rw [L.len]; exact hn)]
  obtain ⟨h1, h2, h3, h4, h5⟩ := counted_same v
  refine ⟨L.left, L.dead, L.len, ?_, ?_⟩
  · show (v.newest.set n s).length = 4
    rw [List.length_set, L.nlen]
  · show (v.pend ++ [_]).length ≤ _
    rw [List.length_append]
    have := L.pend
    simp only [List.length_cons, List.length_nil]
    omega
theorem Live4.counts {v : DevD} {k : Nat} (L : Live4 v k) (m : Nat) : Live4 (v.counts m) k := by
  obtain ⟨h1, h2, h3, h4, h5⟩ := counts_same v m
  exact ⟨h5.trans L.left, h4.trans L.dead, by rw [h1]; exact L.len, by rw [h2]; exact L.nlen, by rw [h3]; exact L.pend⟩
theorem Live4.rotE {v : DevD} {k : Nat} (L : Live4 v k) {n : Nat} (hn : n < 4) : v.rotE (n : Int) = 0 := by
  unfold DevD.rotE
  rw [if_pos ((hasB_iff _ _).2 (by rw [L.len]; omega))]
theorem rot_at {v : DevD} {k : Nat} (L : Live4 v k) {n : Nat} (hn : n < 4) (s : Sec) {i : Nat} (hi : i < 4) :
    (v.rotted (n : Int) s).atU i = if i = n then (uread s.val).bind (fun u => if u.txg % 4 = n then some u else none) else v.atU i := by
  have e : v.rotted (n : Int) s = { v with stable := v.stable.set n s, newest := v.newest.set n s, pend := v.pend.map (rotW n s) } := by
    unfold DevD.rotted
    rw [if_pos ((hasB_iff _ _).2 (by rw [L.len]; omega)), Int.toNat_natCast]
  rw [e, atU_live (by exact L.dead) (by show i < (v.stable.set n s).length; rw [List.length_set, L.len]; exact hi)]
  by_cases hin : i = n
  · subst hin
    rw [if_pos rfl]
    show (uread ((v.newest.set i s).getD i zSec).val).bind _ = _
    rw [List.getD_eq_getElem?_getD, List.getElem?_set_self (by rw [L.nlen]; exact hi)]
    rfl
  · rw [if_neg hin, atU_live L.dead (by rw [L.len]; exact hi)]
    show (uread ((v.newest.set n s).getD i zSec).val).bind _ = _
    rw [List.getD_eq_getElem?_getD, List.getElem?_set_ne (fun e => hin e.symm), List.getD_eq_getElem?_getD]
theorem spoil_keep {v : DevD} {k : Nat} (L : Live4 v k) {n : Nat} (hn : n < 4) (s : Sec) {u : UbD} (hu : u ∈ v.ringU) (hne : u.txg % 4 ≠ n) : u ∈ (v.rotted (n : Int) s).ringU := by
  obtain ⟨i, hi, ha⟩ := ringU_mem.1 hu
  have hm := atU_mod ha
  exact ringU_mem.2 ⟨i, hi, by rw [rot_at L hn s hi, if_neg (by omega)]; exact ha⟩
theorem atU_right {v : DevD} {i : Nat} {u : UbD} (h : v.atU i = some u) : rightU u = true := by
  unfold DevD.atU at h
  split at h
  · obtain ⟨x, hx, h2⟩ := Option.bind_eq_some_iff.1 h
    split at h2
    · have := Option.some.inj h2
      subst this
      exact (uread_some hx).1
    · cases h2
  · cases h
theorem spoil_none {v : DevD} {s : Sec} (h : uread s.val = none) : (uread s.val).getD zUb ∉ v.ringU := by
  rw [h]
  intro hu
  obtain ⟨i, hi, ha⟩ := ringU_mem.1 hu
  have := atU_right ha
  revert this
  decide
theorem spoil_some {v : DevD} {k : Nat} (L : Live4 v k) {n : Nat} (hn : n < 4) (s : Sec) {u : UbD} (h : uread s.val = some u) (he : u.txg % 4 = n) : u ∈ (v.rotted (n : Int) s).ringU :=
  ringU_mem.2 ⟨n, hn, by rw [rot_at L hn s hn, if_pos rfl, h]; show (if _ then _ else _) = _; rw [if_pos he]⟩
theorem ring_length (v : DevD) : v.ringU.length ≤ 4 := by
  unfold DevD.ringU
  rw [(sortU_perm _).length_eq]
  exact rawU_length v 4
theorem take_mem {y : UbD} {l : List UbD} {j : Nat} (hj : j < l.length) : decide (y ∈ l.take (j + 1)) = (decide (y ∈ l.take j) || decide (y = l[j])) := by
  rw [List.take_succ_eq_append_getElem hj, Bool.eq_iff_iff]
  simp only [decide_eq_true_eq, Bool.or_eq_true, List.mem_append, List.mem_singleton]
end Go.Proofs.Ytgmdhedabmkcoaa
