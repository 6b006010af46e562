/- Lists of records: in memory; as bytes: plain functions. -/
import Derived.Test.YthbfhlphclgnaaaSetB
set_option linter.unusedSimpArgs false
set_option linter.unusedVariables false
namespace Go.Proofs.Ythbfhlphclgnaaa
open Go.RowKit Go.Sort

/-- A record and where its list lies. -/
structure SetV where
  d : SetD
  a : Option Addr
  n : Nat
  c : Nat
def SetV.v (y : SetV) : Value := .slice y.a y.n y.c
def setcells (y : SetV) : List Value := (setC y.d y.v).toList
theorem setw : Wide setcells 11 := ⟨by omega, fun _ => rfl, fun y u hu => by
  have := setC_one y.d y.a y.n y.c
  unfold setcells SetV.v at hu
  rw [Array.all_eq_true'] at this
  exact this u (by simpa using hu)⟩
/-- A slice of records. -/
def IsSets (w : World) (v : Value) (l : List SetD) : Prop := ∃ ys : List SetV, ys.map (·.d) = l ∧ IsRow setcells w v ys ∧ ∀ y ∈ ys, IsPtrs w y.v y.d.dead
theorem IsSets.up {w w' : World} {v : Value} {l : List SetD} (h : IsSets w v l) (hu : Up w w') : IsSets w' v l := by
  obtain ⟨ys, h1, h2, h3⟩ := h
  exact ⟨ys, h1, IsRow.up h2 hu, fun y hy => IsRow.up (h3 y hy) hu⟩
theorem IsSets.slice {w : World} {v : Value} {l : List SetD} (h : IsSets w v l) : ∃ a cap, v = .slice a l.length cap := by
  obtain ⟨ys, rfl, h2, _⟩ := h
  rw [List.length_map]
  exact h2.slice
theorem IsSets.length_le {w : World} {v : Value} {l : List SetD} (h : IsSets w v l) : l.length ≤ 9223372036854775807 := by
  obtain ⟨ys, rfl, h2, _⟩ := h
  rw [List.length_map]
  exact h2.length_le
theorem IsSets.nil (w : World) : IsSets w (.slice none 0 0) [] := ⟨[], rfl, IsRow.nil _ _, fun _ h => by cases h⟩
theorem sets_at {w : World} {a : Option Addr} {n cap : Nat} {l : List SetD} (h : IsSets w (.slice a n cap) l) (h0 : 0 < l.length) :
    ∃ b off, a = some ⟨b, off, none⟩ ∧ b < w.heap.size ∧ ∀ i (hi : i < l.length), ∃ da dn dc, w.rangeAt b (off + i * 11) (setC l[i] (.slice da dn dc)).toList ∧ IsPtrs w (.slice da dn dc) l[i].dead := by
  obtain ⟨ys, rfl, h2, h3⟩ := h
  rw [List.length_map] at h0
  obtain ⟨b, off, h4, h5, _, h6⟩ := IsRow.get h2 setw h0
  refine ⟨b, off, h4, h5, fun i hi => ?_⟩
  rw [List.length_map] at hi
  refine ⟨ys[i].a, ys[i].n, ys[i].c, fun j v hj => ?_, ?_⟩
  · rw [List.getElem_map] at hj
    have := h6 i hi j v hj
    rw [show off + i * 11 + j = off + (i * 11 + j) by omega]
    exact this
  · rw [List.getElem_map]
    exact h3 _ (List.getElem_mem hi)

def headBytes (next : Nat) : List UInt8 := putBytes [8] [next]
def setsTexts (next : Nat) (l : List SetD) : List (List UInt8) := headBytes next :: l.map recBytes
def setsO (next : Nat) (l : List SetD) : Option (List UInt8) := if next ≤ 281474976710655 ∧ l.length ≤ 32 ∧ (∀ x ∈ l, rightS x = true) then some (joinBytes (setsTexts next l)) else none
theorem headBytes_length (next : Nat) : (headBytes next).length = 8 := by unfold headBytes; simp [putBytes, numBytes_length]
theorem joinFlat_length3 (a b c : List UInt8) : (joinBytes [a, b, c]).length = 8 + a.length + b.length + c.length := by
  simp [joinBytes, joinFlat, joinOne, numBytes_length]
  omega
theorem recBytes_short {x : SetD} (h : rightS x = true) : (recBytes x).length ≤ 65535 := by
  obtain ⟨_, _, _, _, h5, _, h7, _⟩ := (rightS_iff x).1 h
  have := name_short h5
  unfold recBytes
  rw [joinFlat_length3, setHead_length, bytesL_length]
  omega
theorem okJoin_sets {next : Nat} {l : List SetD} (hl : l.length ≤ 32) (hr : ∀ x ∈ l, rightS x = true) : okJoin (setsTexts next l) := by
  refine ⟨by unfold setsTexts; simp; omega, fun t ht => ?_⟩
  unfold setsTexts at ht
  rcases List.mem_cons.1 ht with rfl | ht
  · rw [headBytes_length]; omega
  · obtain ⟨x, hx, rfl⟩ := List.mem_map.1 ht
    exact recBytes_short (hr x hx)
theorem okPut_head {next : Nat} (h : next ≤ 281474976710655) : okPut [8] [next] := by
  refine ⟨rfl, by unfold okWs; intro w hw; simp at hw; omega, ?_⟩
  simp only [fits, and_true]
  show next < 256 ^ 8
  omega
theorem setsO_none {next : Nat} {l : List SetD} {x : SetD} (hx : x ∈ l) (h : rightS x = false) : setsO next l = none := by
  unfold setsO
  rw [if_neg]
  intro hh
  have := hh.2.2 x hx
  rw [h] at this
  cases this
/-- A text alone. -/
theorem OwnTexts.one (w : World) (base : Nat) (hb : base ≤ w.heap.size) (a : Option Addr) (n c : Nat) (t : List UInt8) (h : Own byteCell 5 w base (.slice a n c) t) :
    OwnTexts (w.alloc (.cells #[.slice a n c] 29)) base (.slice (some ⟨w.heap.size, 0, none⟩) 1 1) [t] := by
  refine ⟨[⟨a, n, c⟩], rfl, ?_, fun i hi _ => ?_⟩
  · exact World.ownsRow_lit (base := base) (e := 29) (size := 1) w #[.slice a n c] 1 hb (by unfold maxLen; omega) rfl
  · match i, hi with
    | 0, _ => exact h.up (up_alloc w _)
    | (k + 1), hi => simp at hi
end Go.Proofs.Ythbfhlphclgnaaa
