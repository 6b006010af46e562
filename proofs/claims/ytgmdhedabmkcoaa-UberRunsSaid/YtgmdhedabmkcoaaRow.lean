/- Slices whose elements have several cells each; the laws of append, make and of pieces on them. -/
import Derived.Test.YtgmdhedabmkcoaaLaws
import Derived.Deep.DeepAppendRoom
set_option linter.unusedSimpArgs false
namespace Go.Proofs.Ytgmdhedabmkcoaa
open Go.RowKit

/-- How an element is written in cells: always k of them, each one cell. -/
structure Wide {α : Type} (f : α → List Value) (k : Nat) : Prop where
  pos : 0 < k
  len : ∀ x, (f x).length = k
  one : ∀ x, ∀ u ∈ f x, u.oneCell' = true

theorem Wide.flat {α : Type} {f : α → List Value} {k : Nat} (h : Wide f k) (l : List α) : (l.flatMap f).length = l.length * k := by
  induction l with
  | nil => simp
  | cons x l ih => rw [List.flatMap_cons, List.length_append, h.len, ih, List.length_cons, Nat.succ_mul]; omega
theorem Wide.ones {α : Type} {f : α → List Value} {k : Nat} (h : Wide f k) (l : List α) : ∀ u ∈ l.flatMap f, u.oneCell' = true := by
  intro u hu
  obtain ⟨x, _, hx⟩ := List.mem_flatMap.1 hu
  exact h.one x u hx
theorem Wide.at {α : Type} {f : α → List Value} {k : Nat} (h : Wide f k) : ∀ (l : List α) (i : Nat) (hi : i < l.length) (j : Nat), j < k → (l.flatMap f)[i * k + j]? = (f l[i])[j]?
  | x :: l, 0, _, j, hj => by
    rw [List.flatMap_cons, List.getElem?_append_left (by rw [h.len]; omega)]
    simp
  | x :: l, i + 1, hi, j, hj => by
    rw [List.flatMap_cons, List.getElem?_append_right (by rw [h.len, Nat.succ_mul]; omega), h.len]
    rw [show (i + 1) * k + j - k = i * k + j from by rw [Nat.succ_mul]; omega]
    exact h.at l i (by simpa using hi) j hj

/-- The value 'v' is a slice that reads as 'l', each element written by 'f' (k cells). -/
def IsRow {α : Type} (f : α → List Value) (w : World) (v : Value) (l : List α) : Prop :=
  (l = [] ∧ ∃ a cap, v = .slice a 0 cap ∧ cap ≤ maxLen ∧ (a = none → cap = 0)) ∨
  ∃ b off cap, v = .slice (some ⟨b, off, none⟩) l.length cap ∧ 0 < l.length ∧ l.length ≤ cap ∧ cap ≤ maxLen ∧ ∀ j u, (l.flatMap f)[j]? = some u → w.cell? ⟨b, off + j, none⟩ = some u
/-- A row of the call's own. -/
def OwnRow {α : Type} (f : α → List Value) (k : Nat) (e : TypeId) (w : World) (base : Nat) (v : Value) (xs : List α) : Prop := w.ownsRow base e k v xs.length (xs.flatMap f)

section
variable {α : Type} {f : α → List Value} {k : Nat} {e : TypeId}
theorem IsRow.up {w w' : World} {v : Value} {l : List α} (h : IsRow f w v l) (hu : Up w w') : IsRow f w' v l := by
  rcases h with h | ⟨b, off, cap, h1, h2, h3, h4, h5⟩
  · exact .inl h
  · exact .inr ⟨b, off, cap, h1, h2, h3, h4, fun j u hj => hu.cell (h5 j u hj)⟩
theorem IsRow.length_le {w : World} {v : Value} {l : List α} (h : IsRow f w v l) : l.length ≤ 9223372036854775807 := by
  rcases h with ⟨rfl, _⟩ | ⟨b, off, cap, _, _, h1, h2, _⟩
  · simp
  · unfold maxLen at h2; omega
theorem IsRow.slice {w : World} {v : Value} {l : List α} (h : IsRow f w v l) : ∃ a cap, v = .slice a l.length cap := by
  rcases h with ⟨rfl, a, cap, rfl, _⟩ | ⟨b, off, cap, rfl, _⟩
  · exact ⟨a, cap, rfl⟩
  · exact ⟨_, cap, rfl⟩
theorem IsRow.nil (f : α → List Value) (w : World) : IsRow f w (.slice none 0 0) [] := .inl ⟨rfl, none, 0, rfl, Nat.zero_le _, fun _ => rfl⟩
/-- A slice that is not empty: where its elements lie. -/
theorem IsRow.get {w : World} {a : Option Addr} {n cap : Nat} {l : List α} (h : IsRow f w (.slice a n cap) l) (hw : Wide f k) (h0 : 0 < l.length) :
    ∃ b off, a = some ⟨b, off, none⟩ ∧ b < w.heap.size ∧ n ≤ cap ∧ ∀ i (hi : i < l.length) j u, (f l[i])[j]? = some u → w.cell? ⟨b, off + (i * k + j), none⟩ = some u := by
  rcases h with ⟨rfl, _⟩ | ⟨b, off, cap', hv, _, hl, _, hc⟩
  · simp at h0
  · simp at hv
    obtain ⟨rfl, rfl, rfl⟩ := hv
    have key : ∀ i (hi : i < l.length) j u, (f l[i])[j]? = some u → w.cell? ⟨b, off + (i * k + j), none⟩ = some u := fun i hi j u hu => by
      have hj : j < k := by rw [← hw.len l[i]]; exact (List.getElem?_eq_some_iff.1 hu).1
      exact hc _ _ ((hw.at l i hi j hj).trans hu)
    refine ⟨b, off, rfl, ?_, hl, key⟩
    have hf0 : 0 < (f l[0]).length := by rw [hw.len]; exact hw.pos
    exact World.block_lt_of_cell? w _ (key 0 h0 0 _ (List.getElem?_eq_getElem hf0))
theorem IsRow.owned {w : World} {base : Nat} {v : Value} {l : List α} (hw : Wide f k) (h : w.ownsRow base e k v l.length (l.flatMap f)) : IsRow f w v l := by
  obtain ⟨_, h2⟩ := h
  rcases h2 with ⟨rfl, h0⟩ | ⟨g, cap, cur, rfl, _, hg, hn, hm, hs, ht⟩
  · have : l = [] := List.length_eq_zero_iff.1 h0
    subst this
    exact IsRow.nil f w
  · by_cases h0 : l.length = 0
    · have : l = [] := List.length_eq_zero_iff.1 h0
      subst this
      exact .inl ⟨rfl, _, cap, rfl, hm, fun h => by cases h⟩
    · refine .inr ⟨g, 0, cap, rfl, by omega, hn, hm, fun j u hj => ?_⟩
      have hlt : j < l.length * k := by rw [← hw.flat]; exact (List.getElem?_eq_some_iff.1 hj).1
      have hc : w.cell? ⟨g, 0 + j, none⟩ = cur[0 + j]? := by simp [World.cell?, hg]
      rw [hc, Nat.zero_add]
      have h1 : (cur.toList.take (l.length * k))[j]? = (l.flatMap f)[j]? := by rw [ht]
      rw [List.getElem?_take, if_pos hlt] at h1
      simp at h1
      rw [h1, hj]
theorem OwnRow.row {w : World} {base : Nat} {v : Value} {l : List α} (h : OwnRow f k e w base v l) (hw : Wide f k) : IsRow f w v l := IsRow.owned hw h
theorem OwnRow.nil (f : α → List Value) (k : Nat) (e : TypeId) (w : World) (base : Nat) : OwnRow f k e w base (.slice none 0 0) [] := World.ownsRow_nil _ _ _ _
theorem OwnRow.mono {w : World} {base base' : Nat} {v : Value} {xs : List α} (h : OwnRow f k e w base v xs) (hb : base' ≤ base) : OwnRow f k e w base' v xs := by
  obtain ⟨h1, h2⟩ := h
  refine ⟨h1, ?_⟩
  rcases h2 with h2 | ⟨g, cap, cur, hv, hg, r⟩
  · exact .inl h2
  · exact .inr ⟨g, cap, cur, hv, by omega, r⟩
theorem OwnRow.up {w w' : World} {base : Nat} {v : Value} {xs : List α} (h : OwnRow f k e w base v xs) (hu : Up w w') : OwnRow f k e w' base v xs := by
  obtain ⟨h1, h2⟩ := h
  refine ⟨h1, ?_⟩
  rcases h2 with h2 | ⟨g, cap, cur, hv, hg, hh, r⟩
  · exact .inl h2
  · have hlt : g < w.heap.size := by
      rcases Nat.lt_or_ge g w.heap.size with h | h
      · exact h
      · simp [Array.getElem?_eq_none h] at hh
    exact .inr ⟨g, cap, cur, hv, hg, by rw [Below.block hu g hlt]; exact hh, r⟩
theorem OwnRow.made (f : α → List Value) (k : Nat) (e : TypeId) (w : World) (base : Nat) (hb : base ≤ w.heap.size) : OwnRow f k e (w.alloc (.cells #[] e)) base (.slice (some ⟨w.heap.size, 0, none⟩) 0 0) [] :=
  World.ownsRow_made w #[] 0 hb (Nat.zero_le _) (by simp)
theorem OwnRow.block_lt {w : World} {base : Nat} {v : Value} {xs : List α} (h : OwnRow f k e w base v xs) : ∀ n, v.ownBlock = some n → base ≤ n ∧ n < w.heap.size := World.ownsRow.lt h
/-- It stays while another row grows that is not it. -/
theorem OwnRow.kept {w w' : World} {row : Option Nat} {base : Nat} {v : Value} {xs : List α} (h : OwnRow f k e w base v xs) (hg : w.grownBy w' row) (hne : v.ownBlock = none ∨ v.ownBlock ≠ row) : OwnRow f k e w' base v xs := World.ownsRow.kept h hg hne

/-- Cells just as they lie in a new block. -/
theorem IsRow.litAt (w : World) (b : Nat) (hb : b = w.heap.size) (cs : Array Value) (t : TypeId) (fr : Nat × Nat) (l : List α) (n : Nat) (hn : n = l.length) (hm : n ≤ maxLen) (hcs : cs.toList = l.flatMap f) :
    IsRow f (w.alloc (.cells cs t fr)) (.slice (some ⟨b, 0, none⟩) n n) l := by
  subst hb hn
  by_cases h0 : l.length = 0
  · have : l = [] := List.length_eq_zero_iff.1 h0
    subst this
    exact .inl ⟨rfl, _, 0, rfl, Nat.zero_le _, fun _ => rfl⟩
  · refine .inr ⟨w.heap.size, 0, l.length, rfl, by omega, Nat.le_refl _, hm, fun j u hj => ?_⟩
    have hh : (w.alloc (.cells cs t fr)).heap[w.heap.size]? = some (.cells cs t fr) := by
      show (w.heap.push _)[w.heap.size]? = _
      simp
    have hc : (w.alloc (.cells cs t fr)).cell? ⟨w.heap.size, 0 + j, none⟩ = cs[0 + j]? := by unfold World.cell?; rw [hh]; rfl
    rw [hc, Nat.zero_add]
    have h1 : cs.toList[j]? = (l.flatMap f)[j]? := by rw [hcs]
    simp at h1
    rw [h1, hj]
end

section
variable {α : Type} {P : Program}
theorem wp_append_row {f : α → List Value} {k : Nat} (hw : Wide f k) {w : World} {o : Oper} {a : Act} {K : Act → World → Prop} {Q : Exit → Act → World → Prop} (s x : Operand) (t : TypeId)
    (ho : o.op = .call { callee := .builtin .append, args := #[s, x], argTypes := #[t, t] })
    (base : Nat) (e : TypeId) (z : Value) (bytes : Nat) (ht : P.underlying t = some (.slice e)) (hinfo : (P.info? e).map (fun i => (i.zero, i.size, i.bytes)) = some (some z, k, bytes)) (hzs : z.cells.size = k)
    (v : Value) (xs : List α) (hs : a.eval s = v) (hown : OwnRow f k e w base v xs) (vx : Value) (ys : List α) (hx : a.eval x = vx) (hsrc : IsRow f w vx ys)
    (hbytes : (xs.length + ys.length) * bytes ≤ 140737488355328) (hmax : xs.length + ys.length ≤ 9223372036854775807) (hbase : base ≤ w.heap.size)
    (h : ∀ v' w', OwnRow f k e w' base v' (xs ++ ys) → w.grownBy w' v.ownBlock → Below base w w' → K (a.put o.dst v') w') : o.wp P a w K Q := by
  obtain ⟨i, hi, hz0, hz1, hz2⟩ := info_parts hinfo
  have hmax' : xs.length + ys.length ≤ maxLen := by unfold maxLen; omega
  have key : ∀ (ad : Addr) (c : Nat), vx = .slice (some ad) ys.length c → (∀ j u, (ys.flatMap f)[j]? = some u → w.cell? (ad.add j) = some u) → o.wp P a w K Q := by
    intro ad c hvx hnews
    refine wp_append_own w s x t ho base e i z k bytes ht hi hz0 hz1 hz2 hzs hw.pos v xs.length (xs.flatMap f) hs hown ad ys.length c (ys.flatMap f) (by rw [hx, hvx]) (hw.flat ys) hnews (hw.ones ys) hmax' hbytes hbase ?_
    intro v' w' h1 h2 _
    refine h v' w' ?_ h2 (below_grown h2 hbase fun k hk => (hown.block_lt k hk).1)
    unfold OwnRow
    rw [List.length_append, List.flatMap_append]
    exact h1
  rcases hsrc with ⟨rfl, ad, cap, rfl, hc, hn⟩ | ⟨b, off, cap, rfl, h0, hl, hm, hc⟩
  · cases ad with
    | none =>
      obtain rfl := hn rfl
      have hrun := run_append_owned_none (P := P) (w := w) base t o.type e i k ht hi v xs.length (xs.flatMap f) hown
      unfold Oper.wp
      simp [execOp, ho, resolve, invoke, builtin, hs, hx, hrun, Result.andThen]
      exact h v w (by rw [List.append_nil]; exact hown) ⟨rfl, rfl, rfl, Nat.le_refl _, fun _ _ _ => rfl⟩ (Below.refl _ _)
    | some ad => exact key ad cap rfl (by simp)
  · refine key _ cap rfl fun j u hj => ?_
    rw [add_plain]
    exact hc j u hj
theorem wpList_append_row {f : α → List Value} {k : Nat} (hw : Wide f k) {w : World} {ops : Array Oper} {rest : List Oper} {o : Oper} {a : Act} {Q : Exit → Act → World → Prop} (hgd : o.guard = none) (s x : Operand) (t : TypeId)
    (ho : o.op = .call { callee := .builtin .append, args := #[s, x], argTypes := #[t, t] })
    (base : Nat) (e : TypeId) (z : Value) (bytes : Nat) (ht : P.underlying t = some (.slice e)) (hinfo : (P.info? e).map (fun i => (i.zero, i.size, i.bytes)) = some (some z, k, bytes)) (hzs : z.cells.size = k)
    (v : Value) (xs : List α) (hs : a.eval s = v) (hown : OwnRow f k e w base v xs) (vx : Value) (ys : List α) (hx : a.eval x = vx) (hsrc : IsRow f w vx ys)
    (hbytes : (xs.length + ys.length) * bytes ≤ 140737488355328) (hmax : xs.length + ys.length ≤ 9223372036854775807) (hbase : base ≤ w.heap.size)
    (h : ∀ v' w', OwnRow f k e w' base v' (xs ++ ys) → w.grownBy w' v.ownBlock → Below base w w' → wpList P ops Q rest (a.put o.dst v') w') : wpList P ops Q (o :: rest) a w :=
  wpList_plain hgd fun _ hK => wp_append_row hw s x t ho base e z bytes ht hinfo hzs v xs hs hown vx ys hx hsrc hbytes hmax hbase fun v' w' h1 h2 h3 => hK _ _ (h v' w' h1 h2 h3)
/-- .. as a step of a region that draws its order. -/
theorem step_append_row {f : α → List Value} {k : Nat} (hw : Wide f k) {w : World} {ops : Array Oper} {o : Oper} {a : Act} {K : Act → World → Prop} {Q : Exit → Act → World → Prop} {E : Prop} (hgd : o.guard = none) (s x : Operand) (t : TypeId)
    (ho : o.op = .call { callee := .builtin .append, args := #[s, x], argTypes := #[t, t] })
    (base : Nat) (e : TypeId) (z : Value) (bytes : Nat) (ht : P.underlying t = some (.slice e)) (hinfo : (P.info? e).map (fun i => (i.zero, i.size, i.bytes)) = some (some z, k, bytes)) (hzs : z.cells.size = k)
    (v : Value) (xs : List α) (hs : a.eval s = v) (hown : OwnRow f k e w base v xs) (vx : Value) (ys : List α) (hx : a.eval x = vx) (hsrc : IsRow f w vx ys)
    (hbytes : (xs.length + ys.length) * bytes ≤ 140737488355328) (hmax : xs.length + ys.length ≤ 9223372036854775807) (hbase : base ≤ w.heap.size)
    (h : ∀ v' w', OwnRow f k e w' base v' (xs ++ ys) → w.grownBy w' v.ownBlock → Below base w w' → K (a.put o.dst v') w') :
    if Region.wanted o (yielded ops a.tmps) = true then Oper.wp P o a w K Q else E := by
  have hw2 : Region.wanted o (yielded ops a.tmps) = true := by simp [Region.wanted, hgd]
  rw [if_pos hw2]
  exact wp_append_row hw s x t ho base e z bytes ht hinfo hzs v xs hs hown vx ys hx hsrc hbytes hmax hbase h
/-- 'append([]T{}, ys...)': a copy in memory of its own. -/
theorem wpList_fresh_row {f : α → List Value} {k : Nat} (hw : Wide f k) {w : World} {ops : Array Oper} {rest : List Oper} {o : Oper} {a : Act} {Q : Exit → Act → World → Prop} (hgd : o.guard = none) (s x : Operand) (t : TypeId)
    (ho : o.op = .call { callee := .builtin .append, args := #[s, x], argTypes := #[t, t] })
    (e : TypeId) (z : Value) (bytes : Nat) (ht : P.underlying t = some (.slice e)) (hinfo : (P.info? e).map (fun i => (i.zero, i.size, i.bytes)) = some (some z, k, bytes)) (hzs : z.cells.size = k)
    (b : Nat) (hb : b = w.heap.size) (hs : a.eval s = .slice (some ⟨b, 0, none⟩) 0 0) (vx : Value) (ys : List α) (hx : a.eval x = vx) (hsrc : IsRow f w vx ys)
    (hbytes : ys.length * bytes ≤ 140737488355328)
    (h : ∀ v' w', OwnRow f k e w' b v' ys → Up w w' → wpList P ops Q rest (a.put o.dst v') w') : wpList P ops Q (o :: rest) a (w.alloc (.cells #[] e)) := by
  subst hb
  refine wpList_append_row hw hgd s x t ho w.heap.size e z bytes ht hinfo hzs _ [] hs (OwnRow.made f k e w w.heap.size (Nat.le_refl _)) vx ys hx (hsrc.up (up_alloc w _)) (by simpa using hbytes) (by simpa using hsrc.length_le) (up_alloc w _).size ?_
  intro v' w' h1 _ h3
  exact h v' w' h1 ((up_alloc w _).below_trans h3 (Nat.le_refl _))

/-- An append that fits in what was made: no bound on bytes. -/
theorem wp_append_room {f : α → List Value} {k : Nat} (hw : Wide f k) {w : World} {o : Oper} {a : Act} {K : Act → World → Prop} {Q : Exit → Act → World → Prop} (s x : Operand) (t : TypeId)
    (ho : o.op = .call { callee := .builtin .append, args := #[s, x], argTypes := #[t, t] })
    (base : Nat) (e : TypeId) (z : Value) (bytes : Nat) (ht : P.underlying t = some (.slice e)) (hinfo : (P.info? e).map (fun i => (i.zero, i.size, i.bytes)) = some (some z, k, bytes))
    (g cap n : Nat) (xs : List α) (hn : n = xs.length) (hs : a.eval s = .slice (some ⟨g, 0, none⟩) n cap) (hown : OwnRow f k e w base (.slice (some ⟨g, 0, none⟩) n cap) xs) (vx : Value) (ys : List α) (hx : a.eval x = vx) (hsrc : IsRow f w vx ys)
    (m : Nat) (hm : m = xs.length + ys.length) (hroom : m ≤ cap) (hbase : base ≤ w.heap.size)
    (h : ∀ w', OwnRow f k e w' base (.slice (some ⟨g, 0, none⟩) m cap) (xs ++ ys) → w.grownBy w' (some g) → Below base w w' → K (a.put o.dst (.slice (some ⟨g, 0, none⟩) m cap)) w') : o.wp P a w K Q := by
  subst hn hm
  obtain ⟨i, hi, hz0, hz1, hz2⟩ := info_parts hinfo
  have hg := hown.block_lt g rfl
  have key : ∀ (ad : Addr) (c : Nat), vx = .slice (some ad) ys.length c → (∀ j u, (ys.flatMap f)[j]? = some u → w.cell? (ad.add j) = some u) → o.wp P a w K Q := by
    intro ad c hvx hnews
    refine wp_append_own_spare w s x t ho base e i k ht hi hz1 g xs.length cap (xs.flatMap f) hs hown ad ys.length c (ys.flatMap f) (by rw [hx, hvx]) (hw.flat ys) hnews (hw.ones ys) hroom ?_
    intro w' h1 h2
    refine h w' ?_ h2 (below_grown h2 hbase fun j hj => by cases hj; exact hg.1)
    unfold OwnRow
    rw [List.length_append, List.flatMap_append]
    exact h1
  rcases hsrc with ⟨rfl, ad, c, rfl, hc, hn⟩ | ⟨b, off, c, rfl, h0, hl, hm2, hc⟩
  · cases ad with
    | none =>
      obtain rfl := hn rfl
      have hrun := run_append_owned_none (P := P) (w := w) base t o.type e i k ht hi _ xs.length (xs.flatMap f) hown
      unfold Oper.wp
      simp [execOp, ho, resolve, invoke, builtin, hs, hx, hrun, Result.andThen]
      exact h w (by rw [List.append_nil]; exact hown) ⟨rfl, rfl, rfl, Nat.le_refl _, fun _ _ _ => rfl⟩ (Below.refl _ _)
    | some ad => exact key ad c rfl (by simp)
  · refine key _ c rfl fun j u hj => ?_
    rw [add_plain]
    exact hc j u hj
theorem wpList_append_room {f : α → List Value} {k : Nat} (hw : Wide f k) {w : World} {ops : Array Oper} {rest : List Oper} {o : Oper} {a : Act} {Q : Exit → Act → World → Prop} (hgd : o.guard = none) (s x : Operand) (t : TypeId)
    (ho : o.op = .call { callee := .builtin .append, args := #[s, x], argTypes := #[t, t] })
    (base : Nat) (e : TypeId) (z : Value) (bytes : Nat) (ht : P.underlying t = some (.slice e)) (hinfo : (P.info? e).map (fun i => (i.zero, i.size, i.bytes)) = some (some z, k, bytes))
    (g cap n : Nat) (xs : List α) (hn : n = xs.length) (hs : a.eval s = .slice (some ⟨g, 0, none⟩) n cap) (hown : OwnRow f k e w base (.slice (some ⟨g, 0, none⟩) n cap) xs) (vx : Value) (ys : List α) (hx : a.eval x = vx) (hsrc : IsRow f w vx ys)
    (m : Nat) (hm : m = xs.length + ys.length) (hroom : m ≤ cap) (hbase : base ≤ w.heap.size)
    (h : ∀ w', OwnRow f k e w' base (.slice (some ⟨g, 0, none⟩) m cap) (xs ++ ys) → w.grownBy w' (some g) → Below base w w' → wpList P ops Q rest (a.put o.dst (.slice (some ⟨g, 0, none⟩) m cap)) w') : wpList P ops Q (o :: rest) a w :=
  wpList_plain hgd fun _ hK => wp_append_room hw s x t ho base e z bytes ht hinfo g cap n xs hn hs hown vx ys hx hsrc m hm hroom hbase fun w' h1 h2 h3 => hK _ _ (h w' h1 h2 h3)
theorem step_append_room {f : α → List Value} {k : Nat} (hw : Wide f k) {w : World} {ops : Array Oper} {o : Oper} {a : Act} {K : Act → World → Prop} {Q : Exit → Act → World → Prop} {E : Prop} (hgd : o.guard = none) (s x : Operand) (t : TypeId)
    (ho : o.op = .call { callee := .builtin .append, args := #[s, x], argTypes := #[t, t] })
    (base : Nat) (e : TypeId) (z : Value) (bytes : Nat) (ht : P.underlying t = some (.slice e)) (hinfo : (P.info? e).map (fun i => (i.zero, i.size, i.bytes)) = some (some z, k, bytes))
    (g cap n : Nat) (xs : List α) (hn : n = xs.length) (hs : a.eval s = .slice (some ⟨g, 0, none⟩) n cap) (hown : OwnRow f k e w base (.slice (some ⟨g, 0, none⟩) n cap) xs) (vx : Value) (ys : List α) (hx : a.eval x = vx) (hsrc : IsRow f w vx ys)
    (m : Nat) (hm : m = xs.length + ys.length) (hroom : m ≤ cap) (hbase : base ≤ w.heap.size)
    (h : ∀ w', OwnRow f k e w' base (.slice (some ⟨g, 0, none⟩) m cap) (xs ++ ys) → w.grownBy w' (some g) → Below base w w' → K (a.put o.dst (.slice (some ⟨g, 0, none⟩) m cap)) w') :
    if Region.wanted o (yielded ops a.tmps) = true then Oper.wp P o a w K Q else E := by
  have hw2 : Region.wanted o (yielded ops a.tmps) = true := by simp [Region.wanted, hgd]
  rw [if_pos hw2]
  exact wp_append_room hw s x t ho base e z bytes ht hinfo g cap n xs hn hs hown vx ys hx hsrc m hm hroom hbase h
end

/-- A piece of a slice: its value. -/
def partOf (k : Nat) (a : Option Addr) (lo hi cap : Nat) : Value := .slice (if cap = lo then a else a.map (·.add (lo * k))) (hi - lo) (cap - lo)
theorem IsRow.part {α : Type} {f : α → List Value} {k : Nat} (hw : Wide f k) {w : World} {a : Option Addr} {n cap : Nat} {l : List α} (h : IsRow f w (.slice a n cap) l) {lo hi : Nat} (h1 : lo ≤ hi) (h2 : hi ≤ l.length) :
    IsRow f w (partOf k a lo hi cap) ((l.take hi).drop lo) := by
  have hlen : ((l.take hi).drop lo).length = hi - lo := by simp; omega
  rcases h with ⟨rfl, a', cap', hv, hm, hn⟩ | ⟨b, off, cap', hv, h0, hl, hm, hc⟩
  · simp at h2
    subst h2
    obtain rfl : lo = 0 := by omega
    simp only [Value.slice.injEq] at hv
    obtain ⟨rfl, _, rfl⟩ := hv
    refine .inl ⟨by simp, _, cap, rfl, hm, fun h => ?_⟩
    by_cases hc : cap = 0
    · exact hc
    · rw [if_neg hc] at h
      exact hn (by simpa using h)
  · simp only [Value.slice.injEq] at hv
    obtain ⟨rfl, _, rfl⟩ := hv
    by_cases he : hi = lo
    · subst he
      have : (l.take hi).drop hi = [] := List.length_eq_zero_iff.1 (by rw [hlen]; omega)
      rw [this]
      refine .inl ⟨rfl, _, cap - hi, by unfold partOf; rw [Nat.sub_self], by omega, fun h => ?_⟩
      split at h
      · omega
      · simp at h
    · refine .inr ⟨b, off + lo * k, cap - lo, ?_, by omega, by omega, by omega, fun j u hj => ?_⟩
      · unfold partOf
        rw [if_neg (by omega), hlen]
        simp [add_plain]
      · have hsplit : l.flatMap f = (l.take lo).flatMap f ++ (((l.take hi).drop lo).flatMap f ++ (l.drop hi).flatMap f) := by
          rw [← List.flatMap_append, ← List.flatMap_append]
          congr 1
          have e1 : l.take hi = l.take lo ++ (l.take hi).drop lo := by
            have := List.take_append_drop lo (l.take hi)
            rw [List.take_take, Nat.min_eq_left h1] at this
            exact this.symm
          rw [← List.append_assoc, ← e1, List.take_append_drop]
        have hl2 : ((l.take lo).flatMap f).length = lo * k := by rw [hw.flat, List.length_take, Nat.min_eq_left (by omega)]
        have := hc (lo * k + j) u (by
          rw [hsplit, List.getElem?_append_right (by rw [hl2]; omega), hl2, show lo * k + j - lo * k = j from by omega]
          rw [List.getElem?_append_left (List.getElem?_eq_some_iff.1 hj).1]
          exact hj)
        rw [show off + lo * k + j = off + (lo * k + j) from by omega]
        exact this
theorem run_part {P : Program} (T : TypeId) (k : Nat) (ht : P.underlying T = some (.slice (P.elem T))) (hs : ∀ W : World, (sizeOf (P.elem T)).run P W = .ok k W) (a : Option Addr) (len cap lo hi : Nat) (h1 : lo ≤ hi) (h2 : hi ≤ cap) (W : World) :
    (Instr.slice T (.slice a len cap) (some (.int .i64 (lo : Int))) (some (.int .i64 (hi : Int))) none).run P W = .ok (partOf k a lo hi cap) W := by
  rw [run_slice_lh W T a len cap ht .i64 .i64 lo hi (by omega) (by omega) (by omega), hs]
  simp [Result.andThen, sliced, partOf]
theorem run_part_from {P : Program} (T : TypeId) (k : Nat) (ht : P.underlying T = some (.slice (P.elem T))) (hs : ∀ W : World, (sizeOf (P.elem T)).run P W = .ok k W) (a : Option Addr) (len cap lo : Nat) (h1 : lo ≤ len) (W : World) :
    (Instr.slice T (.slice a len cap) (some (.int .i64 (lo : Int))) none none).run P W = .ok (partOf k a lo len cap) W := by
  rw [run_slice_l W T a len cap ht .i64 lo (by omega) (by omega), hs]
  simp [Result.andThen, sliced, partOf]
theorem run_part_to {P : Program} (T : TypeId) (k : Nat) (ht : P.underlying T = some (.slice (P.elem T))) (hs : ∀ W : World, (sizeOf (P.elem T)).run P W = .ok k W) (a : Option Addr) (len cap hi : Nat) (h2 : hi ≤ cap) (W : World) :
    (Instr.slice T (.slice a len cap) none (some (.int .i64 (hi : Int))) none).run P W = .ok (partOf k a 0 hi cap) W := by
  rw [run_slice_h W T a len cap ht .i64 hi (by omega) (by omega), hs]
  simp [Result.andThen, sliced, partOf]

/-- 'make([]T, 0, c)'. -/
theorem run_makeR0 {P : Program} (t e : TypeId) (z : Value) (k bytes : Nat) (ht : P.underlying t = some (.slice e)) (hinfo : (P.info? e).map (fun i => (i.zero, i.size, i.bytes)) = some (some z, k, bytes)) (c : Nat)
    (hc : bytes * c ≤ 281474976710656) (hm : c ≤ 9223372036854775807) (w : World) :
    (Instr.makeSlice t (.int .i64 0) (.int .i64 (c : Int))).run P w = .ok (.slice (some ⟨w.heap.size, 0, none⟩) 0 c) (w.alloc (.cells (madeCells z.cells (c * k)) e)) := by
  obtain ⟨i, hi, hz0, hz1, hz2⟩ := info_parts hinfo
  have hb : (bytes : Int) * (c : Int) ≤ 281474976710656 := by
    have h : ((bytes * c : Nat) : Int) ≤ 281474976710656 := by omega
    rwa [Int.natCast_mul] at h
  have := run_make (P := P) w t e i z ht hi hz0 .i64 .i64 0 c (by omega) (by omega) (by rw [hz2]; exact hb) (by omega)
  rw [hz1] at this
  simpa using this
theorem OwnRow.room {α : Type} (f : α → List Value) (k : Nat) (e : TypeId) (w : World) (z : Value) (base c : Nat) (hb : base ≤ w.heap.size) (hc : c ≤ 9223372036854775807) :
    OwnRow f k e (w.alloc (.cells (madeCells z.cells (c * k)) e)) base (.slice (some ⟨w.heap.size, 0, none⟩) 0 c) [] :=
  World.ownsRow_made w _ c hb (by unfold maxLen; omega) (size_madeCells _ _)
end Go.Proofs.Ytgmdhedabmkcoaa
