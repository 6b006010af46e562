/- What a slice that came in, or that was made, reads as; small laws on it; how an argument is opened. -/
import Derived.Test.YtgmdhedabmkcoaaRows
import Derived.WalkKit
import Derived.ProofKit
import Derived.SizedLaws
import Derived.Deep.QuietTactic
import Derived.BigQuiet
import Derived.Lib.Hide
namespace Go.Proofs.Ytgmdhedabmkcoaa
open Go.RowKit

/-- All that was there is as it was. -/
def Up (w w' : World) : Prop := Below w.heap.size w w'
theorem Up.refl (w : World) : Up w w := Below.refl _ _
theorem Up.trans {a b c : World} (h : Up a b) (k : Up b c) : Up a c := Below.trans h (Below.mono k (Below.size h))
theorem Up.size {a b : World} (h : Up a b) : a.heap.size ≤ b.heap.size := Below.size h
theorem Up.cell {w w' : World} (h : Up w w') {a : Addr} {v : Value} (hc : w.cell? a = some v) : w'.cell? a = some v :=
  (Below.cell h (World.block_lt_of_cell? w a hc)).trans hc
theorem Up.cellOpt {w w' : World} (h : Up w w') {a : Addr} {x : Option Value} (hx : x.isSome = true) (hc : w.cell? a = x) : w'.cell? a = x := by
  obtain ⟨v, rfl⟩ := Option.isSome_iff_exists.1 hx
  exact h.cell hc
theorem Up.frozen {w w' : World} (h : Up w w') {a : Addr} (ha : a.block < w.heap.size) : w'.frozen? a = w.frozen? a := Below.frozen h ha
theorem Up.alloc {w w' : World} (h : Up w w') (o : Obj) : Up w (w'.alloc o) := Below.alloc h h.size o
theorem Up.drew {w w' : World} (h : Up w w') : Up w w'.drew := Below.drew h
theorem Up.drewN {w w' : World} (h : Up w w') (n : Nat) : Up w (w'.drewN n) :=
  ⟨h.os, h.tape, h.output, h.size, h.block⟩
theorem up_alloc (w : World) (o : Obj) : Up w (w.alloc o) := (Up.refl w).alloc o
theorem Up.setCell {w w' : World} (h : Up w w') {a : Addr} (ha : w.heap.size ≤ a.block) (u : Value) : Up w (w'.setCell a u) := Below.setCell h ha u
theorem Up.grown {w w' w'' : World} {row : Option Nat} (h : Up w w') (hg : w'.grownBy w'' row) (hr : ∀ k, row = some k → w.heap.size ≤ k) : Up w w'' := Below.grown h hg h.size hr
theorem Up.below {w w' : World} (h : Up w w') : Below w.heap.size w w' := h

/-- The value 'v' is a slice whose elements (of one cell each) are the list 'l', each written by 'f'. -/
def IsOnes {α : Type} (f : α → Value) (w : World) (v : Value) (l : List α) : Prop :=
  (l = [] ∧ ∃ a cap, v = .slice a 0 cap ∧ cap ≤ maxLen ∧ (a = none → cap = 0)) ∨
  ∃ b off cap, v = .slice (some ⟨b, off, none⟩) l.length cap ∧ 0 < l.length ∧ l.length ≤ cap ∧ cap ≤ maxLen ∧ ∀ i (h : i < l.length), w.cell? ⟨b, off + i, none⟩ = some (f l[i])

theorem IsOnes.up {α : Type} {f : α → Value} {w w' : World} {v : Value} {l : List α} (h : IsOnes f w v l) (hu : Up w w') : IsOnes f w' v l := by
  rcases h with h | ⟨b, off, cap, h1, h2, h3, h4, h5⟩
  · exact .inl h
  · exact .inr ⟨b, off, cap, h1, h2, h3, h4, fun i hi => hu.cell (h5 i hi)⟩
theorem IsOnes.length_le {α : Type} {f : α → Value} {w : World} {v : Value} {l : List α} (h : IsOnes f w v l) : l.length ≤ 9223372036854775807 := by
  rcases h with ⟨rfl, _⟩ | ⟨b, off, cap, _, _, h1, h2, _⟩
  · simp
  · unfold maxLen at h2; omega
theorem IsOnes.slice {α : Type} {f : α → Value} {w : World} {v : Value} {l : List α} (h : IsOnes f w v l) : ∃ a cap, v = .slice a l.length cap := by
  rcases h with ⟨rfl, a, cap, rfl, _⟩ | ⟨b, off, cap, rfl, _⟩
  · exact ⟨a, cap, rfl⟩
  · exact ⟨_, cap, rfl⟩
theorem IsOnes.nil {α : Type} (f : α → Value) (w : World) : IsOnes f w (.slice none 0 0) [] := .inl ⟨rfl, none, 0, rfl, Nat.zero_le _, fun _ => rfl⟩

theorem get_of_ones {α : Type} {f : α → Value} {w : World} {a : Option Addr} {cap : Nat} {l : List α} {n : Nat} (h : IsOnes f w (.slice a n cap) l) (hn : n = l.length) (h0 : 0 < l.length) :
    ∃ b off, a = some ⟨b, off, none⟩ ∧ b < w.heap.size ∧ ∀ i (h : i < l.length), w.cell? ⟨b, off + i, none⟩ = some (f l[i]) := by
  rcases h with ⟨rfl, _⟩ | ⟨b, off, cap', hv, _, _, _, hc⟩
  · simp at h0
  · simp at hv
    exact ⟨b, off, hv.1, World.block_lt_of_cell? w _ (hc 0 h0), hc⟩
def intCell (n : Int) : Value := .int .i64 n
def u64Cell (n : Nat) : Value := .int .u64 (n : Int)
theorem intCell_one (n : Int) : (intCell n).oneCell' = true := rfl
theorem u64Cell_one (n : Nat) : (u64Cell n).oneCell' = true := rfl
def byteCell (c : UInt8) : Value := .int .u8 (c.toNat : Int)
/-- A slice of bytes that reads as 'l' (nil, too, reads as the empty list). -/
abbrev IsBytes (w : World) (v : Value) (l : List UInt8) : Prop := IsOnes byteCell w v l

/-- An owned row reads as a slice of one-cell elements. -/
theorem IsOnes.owned {α : Type} {f : α → Value} {w : World} {base : Nat} {e : TypeId} {v : Value} {l : List α} (h : w.ownsRow base e 1 v l.length (l.map f)) : IsOnes f w v l := by
  obtain ⟨_, h2⟩ := h
  rcases h2 with ⟨rfl, h0⟩ | ⟨g, cap, cur, rfl, _, hg, hn, hm, hs, ht⟩
  · have : l = [] := List.length_eq_zero_iff.1 h0
    subst this
    exact IsOnes.nil f w
  · by_cases h0 : l.length = 0
    · have : l = [] := List.length_eq_zero_iff.1 h0
      subst this
      exact .inl ⟨rfl, _, cap, rfl, hm, fun h => by cases h⟩
    · refine .inr ⟨g, 0, cap, rfl, by omega, hn, hm, fun i hi => ?_⟩
      have hc : w.cell? ⟨g, 0 + i, none⟩ = cur[0 + i]? := by simp [World.cell?, hg]
      rw [hc, Nat.zero_add]
      have h1 : (cur.toList.take (l.length * 1))[i]? = (l.map f)[i]? := by rw [ht]
      rw [List.getElem?_take, if_pos (by omega)] at h1
      simp at h1
      rw [h1, List.getElem?_eq_getElem hi]
      rfl

/-- Cells just as they lie in a new block. -/
theorem IsOnes.lit {α : Type} {f : α → Value} (w : World) (cs : Array Value) (t : TypeId) (fr : Nat × Nat) (l : List α) (n : Nat) (hn : n = l.length) (hm : n ≤ maxLen) (hcs : cs.toList = l.map f) :
    IsOnes f (w.alloc (.cells cs t fr)) (.slice (some ⟨w.heap.size, 0, none⟩) n n) l := by
  subst hn
  by_cases h0 : l.length = 0
  · have : l = [] := List.length_eq_zero_iff.1 h0
    subst this
    exact .inl ⟨rfl, _, 0, rfl, Nat.zero_le _, fun _ => rfl⟩
  · refine .inr ⟨w.heap.size, 0, l.length, rfl, by omega, Nat.le_refl _, hm, fun i hi => ?_⟩
    have hh : (w.alloc (.cells cs t fr)).heap[w.heap.size]? = some (.cells cs t fr) := by
      show (w.heap.push _)[w.heap.size]? = _
      simp
    have hc : (w.alloc (.cells cs t fr)).cell? ⟨w.heap.size, 0 + i, none⟩ = cs[0 + i]? := by unfold World.cell?; rw [hh]; rfl
    rw [hc, Nat.zero_add]
    have h1 : cs.toList[i]? = (l.map f)[i]? := by rw [hcs]
    simp at h1
    rw [h1, List.getElem?_eq_getElem hi]
    rfl

theorem IsOnes.litAt {α : Type} {f : α → Value} (w : World) (b : Nat) (hb : b = w.heap.size) (cs : Array Value) (t : TypeId) (fr : Nat × Nat) (l : List α) (n : Nat) (hn : n = l.length) (hm : n ≤ maxLen) (hcs : cs.toList = l.map f) :
    IsOnes f (w.alloc (.cells cs t fr)) (.slice (some ⟨b, 0, none⟩) n n) l := by
  subst hb
  exact IsOnes.lit w cs t fr l n hn hm hcs

theorem getElem_of_some {α : Type} {l : List α} {j : Nat} {x : α} (h : l[j]? = some x) : ∃ hj : j < l.length, l[j] = x := List.getElem?_eq_some_iff.1 h

/-- How long a slice's datum is, its spare places too. -/
def dlen {H : Type} : DataW H → Nat
  | .slice e s => e.length + s.length
  | .lit (.string b) => b.length
  | _ => 0
theorem dlen_reach {H : Type} {P : Program} {ts : List TypeId} {ds : List (DataW H)} (h : (DataW.weightsEach P ts ds).all (· ≤ reachBytes) = true) {j : Nat} {t e : TypeId} {d : DataW H}
    (ht : ts[j]? = some t) (hd : ds[j]? = some d) (hu : P.underlying t = some (.slice e)) (hs : d = .nil ∨ ∃ x y, d = .slice x y) : dlen d * P.bytesOf e ≤ 140737488351232 := by
  rcases hs with rfl | ⟨x, y, rfl⟩
  · simp [dlen]
  · exact sized_slice h ht hd hu

theorem bulk_one {H : Type} (d : DataW H) : 1 ≤ Rows.uptoBulk d := by
  cases d with
  | lit l => cases l <;> simp [Rows.uptoBulk]
  | nil => simp [Rows.uptoBulk]
  | ptr d => simp [Rows.uptoBulk]
  | slice elems spare => simp [Rows.uptoBulk]
  | agg parts => simp [Rows.uptoBulk]
  | iface t d => simp [Rows.uptoBulk]
  | map entries => simp [Rows.uptoBulk]
  | held h => simp [Rows.uptoBulk]
theorem bulk_part {H : Type} {d : DataW H} {l : List (DataW H)} (h : d ∈ l) : Rows.uptoBulk d ≤ Rows.uptoBulkAll l := by
  induction l with
  | nil => cases h
  | cons x r ih =>
    simp only [Rows.uptoBulkAll]
    cases List.mem_cons.1 h with
    | inl e => subst e; omega
    | inr e => have := ih e; omega
theorem bulk_length {H : Type} (l : List (DataW H)) : l.length ≤ Rows.uptoBulkAll l := by
  induction l with
  | nil => simp [Rows.uptoBulkAll]
  | cons x r ih => have := bulk_one x; simp only [Rows.uptoBulkAll, List.length_cons]; omega
theorem dlen_bulk {H : Type} (d : DataW H) : dlen d ≤ Rows.uptoBulk d := by
  unfold dlen
  split
  · rename_i e s
    have h1 := bulk_length e
    have h2 := bulk_length s
    simp only [Rows.uptoBulk]
    omega
  · simp only [Rows.uptoBulk]; omega
  · exact Nat.zero_le _
/-- The bound of the second form, at one argument. -/
theorem bulk_at {H : Type} {ds : List (DataW H)} (h : Rows.uptoBulkAll ds ≤ 1048576) {j : Nat} {d : DataW H} (hd : ds[j]? = some d) : Rows.uptoBulk d ≤ 1048576 :=
  Nat.le_trans (bulk_part (List.mem_of_getElem? hd)) h

/-- A slice whose elements are one cell each, as it is read. 'hdec': what an element reads as. -/
theorem ones_trod {α : Type} (f : α → Value) (Q : α → Prop) {H : Type} {enc : TypeId × Value → H} {P : Program} {W : World} {t e : TypeId} {v : Value} {d : DataW H} {ps : List MemPlace} {fuel : Nat}
    (ht : P.underlying t = some (.slice e)) (hc1 : P.cellsOf e = 1)
    (hdec : ∀ n c y, DataW.trod enc P W 0 (fun _ => true) true n e [c] = some y → ∃ x, c = f x ∧ Q x)
    (hf : DataW.trod enc P W 0 (fun _ => true) true fuel t [v] = some (d, ps)) :
    ∃ l : List α, IsOnes f W v l ∧ l.length ≤ dlen d ∧ (d = .nil ∨ ∃ x y, d = .slice x y) ∧ ∀ x ∈ l, Q x := by
  rcases DataW.trod_slice ht hf with ⟨h1, h2⟩ | ⟨a, len, cap, elems, rest, n, _, hcs, hx, _, hl, hm, hel, hget, hsp, _⟩
  · simp at h1
    subst h1
    simp only [Prod.mk.injEq] at h2
    exact ⟨[], IsOnes.nil f W, by simp, .inl h2.1, by simp⟩
  · simp at hcs
    subst hcs
    simp only [Prod.mk.injEq] at hx
    obtain ⟨rfl, _⟩ := hx
    have each : ∀ i, i < len → ∃ x, W.cell? (a.add i) = some (f x) ∧ Q x := by
      intro i hi
      have h := hget i hi
      rw [hc1, Nat.mul_one, List.getElem?_eq_getElem (by omega), Option.bind_eq_some_iff] at h
      obtain ⟨cs, hcs, hy⟩ := h
      have hlen : cs.length = 1 := (World.cells?_some hcs).2.1
      obtain ⟨c, rfl⟩ := List.length_eq_one_iff.1 hlen
      obtain ⟨x, rfl, hq⟩ := hdec n c _ hy
      exact ⟨x, ChangeShapes.cell_of_cells?_one hcs, hq⟩
    have all : ∀ k, k ≤ len → ∃ l : List α, l.length = k ∧ (∀ i (h : i < l.length), W.cell? (a.add i) = some (f l[i])) ∧ ∀ x ∈ l, Q x := by
      intro k
      induction k with
      | zero => exact fun _ => ⟨[], rfl, fun i h => absurd h (Nat.not_lt_zero i), by simp⟩
      | succ k ih =>
        intro hk
        obtain ⟨l, h1, h2, h3⟩ := ih (by omega)
        obtain ⟨x, hx, hq⟩ := each k (by omega)
        refine ⟨l ++ [x], by simp [h1], fun i hi => ?_, fun y hy => ?_⟩
        · rw [List.getElem_append]
          split
          · exact h2 i _
          · simp at hi
            obtain rfl : i = k := by omega
            simpa using hx
        · rcases List.mem_append.1 hy with hy | hy
          · exact h3 y hy
          · simp at hy; subst hy; exact hq
    obtain ⟨l, h1, h2, h3⟩ := all len (Nat.le_refl _)
    refine ⟨l, ?_, by simp [dlen, h1, hel], .inr ⟨_, _, rfl⟩, h3⟩
    by_cases h0 : len = 0
    · subst h0
      have : l = [] := List.length_eq_zero_iff.1 h1
      subst this
      exact .inl ⟨rfl, _, cap, rfl, hm, fun h => by cases h⟩
    · have hc0 := h2 0 (by omega)
      obtain ⟨b, off, spot⟩ := a
      have hspot : spot = none := by simpa [Addr.add] using World.cell?_spot hc0
      subst hspot
      refine .inr ⟨b, off, cap, by rw [h1], by omega, by omega, hm, fun i hi => ?_⟩
      have := h2 i hi
      unfold Addr.add at this
      split at this
      · rename_i h; subst h; exact this
      · exact this
/-- .. an argument. -/
theorem open_ones {α : Type} (f : α → Value) (Q : α → Prop) {H : Type} {enc : TypeId × Value → H} {P : Program} {W : World} {base : Nat} {t e : TypeId} {v : Value} {d : DataW H} {ps : List MemPlace}
    (ht : P.underlying t = some (.slice e)) (hc1 : P.cellsOf e = 1)
    (hdec : ∀ n c y, DataW.trod enc P W 0 (fun _ => true) true n e [c] = some y → ∃ x, c = f x ∧ Q x)
    (hval : Value.okWide P W .any base t v) (hd : DataW.Trod enc P W 0 (fun _ => true) true t v d ps) :
    ∃ l : List α, IsOnes f W v l ∧ l.length ≤ dlen d ∧ (d = .nil ∨ ∃ x y, d = .slice x y) ∧ ∀ x ∈ l, Q x := by
  obtain ⟨a0, len, cap, rfl⟩ := WideShapes.okWide_slice ht hval
  obtain ⟨fuel, hf⟩ := hd
  exact ones_trod f Q ht hc1 hdec hf

theorem dec_u8 {H : Type} {enc : TypeId × Value → H} {P : Program} {W : World} {e : TypeId} (he : P.underlying e = some (.int .u8)) :
    ∀ n c y, DataW.trod enc P W 0 (fun _ => true) true n e [c] = some y → ∃ x, c = byteCell x ∧ True := by
  intro n c y hy
  obtain ⟨m, hm, _, hw⟩ := DataW.trod_int he hy
  simp at hm
  subst hm
  have hb : 0 ≤ m ∧ m ≤ 255 := by simpa [Lit.wf, IntKind.min, IntKind.max, IntKind.signed, IntKind.bits] using hw
  refine ⟨UInt8.ofNat m.toNat, ?_, trivial⟩
  unfold byteCell
  congr 1
  rw [UInt8.toNat_ofNat_of_lt' (by show m.toNat < 256; omega)]
  omega

theorem dec_i64 {H : Type} {enc : TypeId × Value → H} {P : Program} {W : World} {e : TypeId} (he : P.underlying e = some (.int .i64)) :
    ∀ n c y, DataW.trod enc P W 0 (fun _ => true) true n e [c] = some y → ∃ x, c = intCell x ∧ -9223372036854775808 ≤ x ∧ x ≤ 9223372036854775807 := by
  intro n c y hy
  obtain ⟨m, hm, _, hw⟩ := DataW.trod_int he hy
  simp at hm
  subst hm
  have hb : -9223372036854775808 ≤ m ∧ m ≤ 9223372036854775807 := by simpa [Lit.wf, IntKind.min, IntKind.max, IntKind.signed, IntKind.bits] using hw
  exact ⟨m, rfl, hb⟩
theorem dec_u64 {H : Type} {enc : TypeId × Value → H} {P : Program} {W : World} {e : TypeId} (he : P.underlying e = some (.int .u64)) :
    ∀ n c y, DataW.trod enc P W 0 (fun _ => true) true n e [c] = some y → ∃ x, c = u64Cell x ∧ x < 18446744073709551616 := by
  intro n c y hy
  obtain ⟨m, hm, _, hw⟩ := DataW.trod_int he hy
  simp at hm
  subst hm
  have hb : 0 ≤ m ∧ m ≤ 18446744073709551615 := by simpa [Lit.wf, IntKind.min, IntKind.max, IntKind.signed, IntKind.bits] using hw
  refine ⟨m.toNat, ?_, by omega⟩
  unfold u64Cell
  congr 1
  omega
/-- Numbers that came in. -/
theorem open_u8 {H : Type} {enc : TypeId × Value → H} {P : Program} {W : World} {base : Nat} {t : TypeId} {v : Value} {d : DataW H} {ps : List MemPlace} (ht : P.underlying t = some (.int .u8))
    (hval : Value.okWide P W .any base t v) (hd : DataW.Trod enc P W 0 (fun _ => true) true t v d ps) : ∃ n : Nat, v = .int .u8 (n : Int) ∧ n < 256 := by
  obtain ⟨m, rfl, _, _, hw⟩ := ChangeShapes.open_int ht hval hd
  have hb : 0 ≤ m ∧ m ≤ 255 := by simpa [Lit.wf, IntKind.min, IntKind.max, IntKind.signed, IntKind.bits] using hw
  exact ⟨m.toNat, by congr 1; omega, by omega⟩
theorem open_u32 {H : Type} {enc : TypeId × Value → H} {P : Program} {W : World} {base : Nat} {t : TypeId} {v : Value} {d : DataW H} {ps : List MemPlace} (ht : P.underlying t = some (.int .u32))
    (hval : Value.okWide P W .any base t v) (hd : DataW.Trod enc P W 0 (fun _ => true) true t v d ps) : ∃ n : Nat, v = .int .u32 (n : Int) ∧ n < 4294967296 := by
  obtain ⟨m, rfl, _, _, hw⟩ := ChangeShapes.open_int ht hval hd
  have hb : 0 ≤ m ∧ m ≤ 4294967295 := by simpa [Lit.wf, IntKind.min, IntKind.max, IntKind.signed, IntKind.bits] using hw
  exact ⟨m.toNat, by congr 1; omega, by omega⟩
theorem open_u64 {H : Type} {enc : TypeId × Value → H} {P : Program} {W : World} {base : Nat} {t : TypeId} {v : Value} {d : DataW H} {ps : List MemPlace} (ht : P.underlying t = some (.int .u64))
    (hval : Value.okWide P W .any base t v) (hd : DataW.Trod enc P W 0 (fun _ => true) true t v d ps) : ∃ n : Nat, v = .int .u64 (n : Int) ∧ n < 18446744073709551616 := by
  obtain ⟨m, rfl, _, _, hw⟩ := ChangeShapes.open_int ht hval hd
  have hb : 0 ≤ m ∧ m ≤ 18446744073709551615 := by simpa [Lit.wf, IntKind.min, IntKind.max, IntKind.signed, IntKind.bits] using hw
  exact ⟨m.toNat, by congr 1; omega, by omega⟩
theorem open_i64 {H : Type} {enc : TypeId × Value → H} {P : Program} {W : World} {base : Nat} {t : TypeId} {v : Value} {d : DataW H} {ps : List MemPlace} (ht : P.underlying t = some (.int .i64))
    (hval : Value.okWide P W .any base t v) (hd : DataW.Trod enc P W 0 (fun _ => true) true t v d ps) : ∃ n : Int, v = .int .i64 n ∧ -9223372036854775808 ≤ n ∧ n ≤ 9223372036854775807 := by
  obtain ⟨m, rfl, _, _, hw⟩ := ChangeShapes.open_int ht hval hd
  have hb : -9223372036854775808 ≤ m ∧ m ≤ 9223372036854775807 := by simpa [Lit.wf, IntKind.min, IntKind.max, IntKind.signed, IntKind.bits] using hw
  exact ⟨m, rfl, hb⟩

theorem u32_not (a : Nat) (ha : a < 4294967296) : bits .xor .u32 (4294967295) (a : Int) = ((4294967295 - a : Nat) : Int) := by
  show IntKind.u32.wrap ((BitVec.ofInt 32 4294967295 ^^^ BitVec.ofInt 32 (a : Int)).toNat : Int) = _
  have h1 : BitVec.ofInt 32 4294967295 = BitVec.allOnes 32 := by decide
  rw [h1, BitVec.allOnes_xor, BitVec.toNat_not, ofInt_u32 a (by omega)]
  simp [IntKind.wrap, IntKind.bits, IntKind.signed]
  omega
end Go.Proofs.Ytgmdhedabmkcoaa
