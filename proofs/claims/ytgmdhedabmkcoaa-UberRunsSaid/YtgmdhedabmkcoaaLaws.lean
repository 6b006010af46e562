/- Laws for the walk on slices of one-cell elements: append onto a row of the call's own, bytes to a string. -/
import Derived.Test.YtgmdhedabmkcoaaBase
import Derived.Laws.AppendOwnNone
import Derived.Laws.CopyOwn
namespace Go.Proofs.Ytgmdhedabmkcoaa
open Go.RowKit

theorem add_plain (b off j : Nat) : (⟨b, off, none⟩ : Addr).add j = ⟨b, off + j, none⟩ := by unfold Addr.add; split <;> simp_all

/-- The value 'v' is a row of the call's own (its block's number at least 'base') that reads as 'xs'. -/
def Own {α : Type} (f : α → Value) (e : TypeId) (w : World) (base : Nat) (v : Value) (xs : List α) : Prop := w.ownsRow base e 1 v xs.length (xs.map f)
theorem Own.ones {α : Type} {f : α → Value} {e : TypeId} {w : World} {base : Nat} {v : Value} {xs : List α} (h : Own f e w base v xs) : IsOnes f w v xs := IsOnes.owned h
theorem Own.nil {α : Type} (f : α → Value) (e : TypeId) (w : World) (base : Nat) : Own f e w base (.slice none 0 0) [] := World.ownsRow_nil _ _ _ _
theorem Own.mono {α : Type} {f : α → Value} {e : TypeId} {w : World} {base base' : Nat} {v : Value} {xs : List α} (h : Own f e w base v xs) (hb : base' ≤ base) : Own f e w base' v xs := by
  obtain ⟨h1, h2⟩ := h
  refine ⟨h1, ?_⟩
  rcases h2 with h2 | ⟨g, cap, cur, hv, hg, r⟩
  · exact .inl h2
  · exact .inr ⟨g, cap, cur, hv, by omega, r⟩
theorem Own.up {α : Type} {f : α → Value} {e : TypeId} {w w' : World} {base : Nat} {v : Value} {xs : List α} (h : Own f e w base v xs) (hu : Up w w') : Own f e w' base v xs := by
  obtain ⟨h1, h2⟩ := h
  refine ⟨h1, ?_⟩
  rcases h2 with h2 | ⟨g, cap, cur, hv, hg, hh, r⟩
  · exact .inl h2
  · have hlt : g < w.heap.size := by
      rcases Nat.lt_or_ge g w.heap.size with h | h
      · exact h
      · simp [Array.getElem?_eq_none h] at hh
    exact .inr ⟨g, cap, cur, hv, hg, by rw [Below.block hu g hlt]; exact hh, r⟩
theorem Own.made {α : Type} (f : α → Value) (e : TypeId) (w : World) (base : Nat) (hb : base ≤ w.heap.size) : Own f e (w.alloc (.cells #[] e)) base (.slice (some ⟨w.heap.size, 0, none⟩) 0 0) [] :=
  World.ownsRow_made w #[] 0 hb (Nat.zero_le _) rfl
theorem Own.block_lt {α : Type} {f : α → Value} {e : TypeId} {w : World} {base : Nat} {v : Value} {xs : List α} (h : Own f e w base v xs) : ∀ k, v.ownBlock = some k → base ≤ k ∧ k < w.heap.size := World.ownsRow.lt h
theorem below_grown {base : Nat} {w w' : World} {row : Option Nat} (hg : w.grownBy w' row) (hb : base ≤ w.heap.size) (hr : ∀ k, row = some k → base ≤ k) : Below base w w' := (Below.refl base w).grown hg hb hr
/-- An owned row that is not empty: its cells, free to be written. -/
theorem Own.row {α : Type} {f : α → Value} {e : TypeId} {w : World} {base : Nat} {v : Value} {xs : List α} (h : Own f e w base v xs) (h0 : 0 < xs.length) :
    ∃ g cap, v = .slice (some ⟨g, 0, none⟩) xs.length cap ∧ base ≤ g ∧ g < w.heap.size ∧ (∀ i (h : i < xs.length), w.cell? ⟨g, i, none⟩ = some (f xs[i])) ∧ (∀ i, w.frozen? ⟨g, i, none⟩ = false) ∧
      ∀ i x, Own f e (w.setCell ⟨g, i, none⟩ (f x)) base v (xs.set i x) := by
  have hb := h.block_lt
  rcases h.2 with ⟨_, h'⟩ | ⟨g, cap, cur, rfl, _⟩
  · omega
  · refine ⟨g, cap, rfl, (hb g rfl).1, (hb g rfl).2, fun i hi => ?_, fun i => World.ownsRow.frozenAt h i, fun i x => ?_⟩
    · rw [World.ownsRow.cellAt h i (by omega), List.getElem?_map, List.getElem?_eq_getElem hi]; rfl
    · have := (World.ownsRow.stored h i (f x)).1
      unfold Own
      rw [List.length_set, List.map_set]
      exact this
/-- Below its own rows a call leaves all as it was. -/
theorem Up.below_trans {w0 w w' : World} (h : Up w0 w) {base : Nat} (hb : Below base w w') (hbase : w0.heap.size ≤ base) : Up w0 w' := Below.trans h (hb.mono hbase)

section
variable {α : Type} {P : Program}
theorem wp_append_ones (f : α → Value) (hf : ∀ x, (f x).oneCell' = true) {w : World} {o : Oper} {a : Act} {K : Act → World → Prop} {Q : Exit → Act → World → Prop} (s x : Operand) (t : TypeId)
    (ho : o.op = .call { callee := .builtin .append, args := #[s, x], argTypes := #[t, t] })
    (base : Nat) (e : TypeId) (z : Value) (bytes : Nat) (ht : P.underlying t = some (.slice e)) (hinfo : (P.info? e).map (fun i => (i.zero, i.size, i.bytes)) = some (some z, 1, bytes)) (hzs : z.cells.size = 1)
    (v : Value) (xs : List α) (hs : a.eval s = v) (hown : Own f e w base v xs) (vx : Value) (ys : List α) (hx : a.eval x = vx) (hsrc : IsOnes f w vx ys)
    (hbytes : (xs.length + ys.length) * bytes ≤ 140737488355328) (hmax : xs.length + ys.length ≤ 9223372036854775807) (hbase : base ≤ w.heap.size)
    (h : ∀ v' w', Own f e w' base v' (xs ++ ys) → w.grownBy w' v.ownBlock → Below base w w' → K (a.put o.dst v') w') : o.wp P a w K Q := by
  obtain ⟨i, hi, hz0, hz1, hz2⟩ := info_parts hinfo
  have hmax' : xs.length + ys.length ≤ maxLen := by unfold maxLen; omega
  have key : ∀ (ad : Addr) (c : Nat), vx = .slice (some ad) ys.length c → (∀ j u, (ys.map f)[j]? = some u → w.cell? (ad.add j) = some u) → o.wp P a w K Q := by
    intro ad c hvx hnews
    refine wp_append_own w s x t ho base e i z 1 bytes ht hi hz0 hz1 hz2 hzs (by decide) v xs.length (xs.map f) hs hown ad ys.length c (ys.map f) (by rw [hx, hvx]) (by simp) hnews (fun u hu => ?_) hmax' hbytes hbase ?_
    · obtain ⟨y, _, rfl⟩ := List.mem_map.1 hu
      exact hf y
    · intro v' w' h1 h2 _
      refine h v' w' ?_ h2 (below_grown h2 hbase fun k hk => (hown.block_lt k hk).1)
      unfold Own
      rw [List.length_append, List.map_append]
      exact h1
  rcases hsrc with ⟨rfl, ad, cap, rfl, hc, hn⟩ | ⟨b, off, cap, rfl, h0, hl, hm, hc⟩
  · cases ad with
    | none =>
      obtain rfl := hn rfl
      have hrun := run_append_owned_none (P := P) (w := w) base t o.type e i 1 ht hi v xs.length (xs.map f) hown
      unfold Oper.wp
      simp [execOp, ho, resolve, invoke, builtin, hs, hx, hrun, Result.andThen]
      exact h v w (by rw [List.append_nil]; exact hown) ⟨rfl, rfl, rfl, Nat.le_refl _, fun _ _ _ => rfl⟩ (Below.refl _ _)
    | some ad => exact key ad cap rfl (by simp)
  · refine key _ cap rfl fun j u hj => ?_
    simp only [List.getElem?_map, Option.map_eq_some_iff] at hj
    obtain ⟨y, hy, rfl⟩ := hj
    obtain ⟨hjl, rfl⟩ := getElem_of_some hy
    rw [add_plain]
    exact hc j hjl
theorem wpList_append_ones (f : α → Value) (hf : ∀ x, (f x).oneCell' = true) {w : World} {ops : Array Oper} {rest : List Oper} {o : Oper} {a : Act} {Q : Exit → Act → World → Prop} (hgd : o.guard = none) (s x : Operand) (t : TypeId)
    (ho : o.op = .call { callee := .builtin .append, args := #[s, x], argTypes := #[t, t] })
    (base : Nat) (e : TypeId) (z : Value) (bytes : Nat) (ht : P.underlying t = some (.slice e)) (hinfo : (P.info? e).map (fun i => (i.zero, i.size, i.bytes)) = some (some z, 1, bytes)) (hzs : z.cells.size = 1)
    (v : Value) (xs : List α) (hs : a.eval s = v) (hown : Own f e w base v xs) (vx : Value) (ys : List α) (hx : a.eval x = vx) (hsrc : IsOnes f w vx ys)
    (hbytes : (xs.length + ys.length) * bytes ≤ 140737488355328) (hmax : xs.length + ys.length ≤ 9223372036854775807) (hbase : base ≤ w.heap.size)
    (h : ∀ v' w', Own f e w' base v' (xs ++ ys) → w.grownBy w' v.ownBlock → Below base w w' → wpList P ops Q rest (a.put o.dst v') w') : wpList P ops Q (o :: rest) a w :=
  wpList_plain hgd fun _ hK => wp_append_ones f hf s x t ho base e z bytes ht hinfo hzs v xs hs hown vx ys hx hsrc hbytes hmax hbase fun v' w' h1 h2 h3 => hK _ _ (h v' w' h1 h2 h3)
/-- .. as a step of a region that draws its order. -/
theorem step_append_ones (f : α → Value) (hf : ∀ x, (f x).oneCell' = true) {w : World} {ops : Array Oper} {o : Oper} {a : Act} {K : Act → World → Prop} {Q : Exit → Act → World → Prop} {E : Prop} (hgd : o.guard = none) (s x : Operand) (t : TypeId)
    (ho : o.op = .call { callee := .builtin .append, args := #[s, x], argTypes := #[t, t] })
    (base : Nat) (e : TypeId) (z : Value) (bytes : Nat) (ht : P.underlying t = some (.slice e)) (hinfo : (P.info? e).map (fun i => (i.zero, i.size, i.bytes)) = some (some z, 1, bytes)) (hzs : z.cells.size = 1)
    (v : Value) (xs : List α) (hs : a.eval s = v) (hown : Own f e w base v xs) (vx : Value) (ys : List α) (hx : a.eval x = vx) (hsrc : IsOnes f w vx ys)
    (hbytes : (xs.length + ys.length) * bytes ≤ 140737488355328) (hmax : xs.length + ys.length ≤ 9223372036854775807) (hbase : base ≤ w.heap.size)
    (h : ∀ v' w', Own f e w' base v' (xs ++ ys) → w.grownBy w' v.ownBlock → Below base w w' → K (a.put o.dst v') w') :
    if Region.wanted o (yielded ops a.tmps) = true then Oper.wp P o a w K Q else E := by
  have hw : Region.wanted o (yielded ops a.tmps) = true := by simp [Region.wanted, hgd]
  rw [if_pos hw]
  exact wp_append_ones f hf s x t ho base e z bytes ht hinfo hzs v xs hs hown vx ys hx hsrc hbytes hmax hbase h
/-- 'append([]T{}, ys...)': a copy in memory of its own. -/
theorem wpList_fresh_ones (f : α → Value) (hf : ∀ x, (f x).oneCell' = true) {w : World} {ops : Array Oper} {rest : List Oper} {o : Oper} {a : Act} {Q : Exit → Act → World → Prop} (hgd : o.guard = none) (s x : Operand) (t : TypeId)
    (ho : o.op = .call { callee := .builtin .append, args := #[s, x], argTypes := #[t, t] })
    (e : TypeId) (z : Value) (bytes : Nat) (ht : P.underlying t = some (.slice e)) (hinfo : (P.info? e).map (fun i => (i.zero, i.size, i.bytes)) = some (some z, 1, bytes)) (hzs : z.cells.size = 1)
    (hs : a.eval s = .slice (some ⟨w.heap.size, 0, none⟩) 0 0) (vx : Value) (ys : List α) (hx : a.eval x = vx) (hsrc : IsOnes f w vx ys)
    (hbytes : ys.length * bytes ≤ 140737488355328)
    (h : ∀ v' w', Own f e w' w.heap.size v' ys → Up w w' → wpList P ops Q rest (a.put o.dst v') w') : wpList P ops Q (o :: rest) a (w.alloc (.cells #[] e)) := by
  refine wpList_append_ones f hf hgd s x t ho w.heap.size e z bytes ht hinfo hzs _ [] hs (Own.made f e w w.heap.size (Nat.le_refl _)) vx ys hx (hsrc.up (up_alloc w _)) (by simpa using hbytes) (by simpa using hsrc.length_le) (up_alloc w _).size ?_
  intro v' w' h1 _ h3
  exact h v' w' h1 ((up_alloc w _).below_trans h3 (Nat.le_refl _))
end

/-- A piece of a slice: its value. -/
def pieceOf (a : Option Addr) (lo hi cap : Nat) : Value := .slice (if cap = lo then a else a.map (·.add (lo * 1))) (hi - lo) (cap - lo)
theorem IsOnes.piece {α : Type} {f : α → Value} {w : World} {a : Option Addr} {n cap : Nat} {l : List α} (h : IsOnes f w (.slice a n cap) l) {lo hi : Nat} (h1 : lo ≤ hi) (h2 : hi ≤ l.length) :
    IsOnes f w (pieceOf a lo hi cap) ((l.take hi).drop lo) := by
  have hlen : ((l.take hi).drop lo).length = hi - lo := by simp; omega
  rcases h with ⟨rfl, a', cap', hv, hm, hn⟩ | ⟨b, off, cap', hv, h0, hl, hm, hc⟩
  · simp at h2
    subst h2
    obtain rfl : lo = 0 := by omega
    simp only [Value.slice.injEq] at hv
    obtain ⟨rfl, _, rfl⟩ := hv
    refine .inl ⟨by simp, _, cap, rfl, hm, fun h => ?_⟩
    by_cases hc : cap = 0
    · exact hc
    · rw [if_neg hc] at h
      exact hn (by simpa using h)
  · simp only [Value.slice.injEq] at hv
    obtain ⟨rfl, _, rfl⟩ := hv
    by_cases he : hi = lo
    · subst he
      have : (l.take hi).drop hi = [] := List.length_eq_zero_iff.1 (by rw [hlen]; omega)
      rw [this]
      refine .inl ⟨rfl, _, cap - hi, by unfold pieceOf; rw [Nat.sub_self], by omega, fun h => ?_⟩
      split at h
      · omega
      · simp at h
    · refine .inr ⟨b, off + lo, cap - lo, ?_, by omega, by omega, by omega, fun i hi' => ?_⟩
      · unfold pieceOf
        rw [if_neg (by omega), hlen]
        simp [add_plain]
      · have := hc (lo + i) (by omega)
        rw [show off + lo + i = off + (lo + i) from by omega, this]
        simp
theorem run_piece {P : Program} (T : TypeId) (ht : P.underlying T = some (.slice (P.elem T))) (hs : ∀ W : World, (sizeOf (P.elem T)).run P W = .ok 1 W) (a : Option Addr) (len cap lo hi : Nat) (h1 : lo ≤ hi) (h2 : hi ≤ cap) (W : World) :
    (Instr.slice T (.slice a len cap) (some (.int .i64 (lo : Int))) (some (.int .i64 (hi : Int))) none).run P W = .ok (pieceOf a lo hi cap) W := by
  rw [run_slice_lh W T a len cap ht .i64 .i64 lo hi (by omega) (by omega) (by omega), hs]
  simp [Result.andThen, sliced, pieceOf]
theorem run_piece_from {P : Program} (T : TypeId) (ht : P.underlying T = some (.slice (P.elem T))) (hs : ∀ W : World, (sizeOf (P.elem T)).run P W = .ok 1 W) (a : Option Addr) (len cap lo : Nat) (h1 : lo ≤ len) (W : World) :
    (Instr.slice T (.slice a len cap) (some (.int .i64 (lo : Int))) none none).run P W = .ok (pieceOf a lo len cap) W := by
  rw [run_slice_l W T a len cap ht .i64 lo (by omega) (by omega), hs]
  simp [Result.andThen, sliced, pieceOf]
theorem run_piece_to {P : Program} (T : TypeId) (ht : P.underlying T = some (.slice (P.elem T))) (hs : ∀ W : World, (sizeOf (P.elem T)).run P W = .ok 1 W) (a : Option Addr) (len cap hi : Nat) (h2 : hi ≤ cap) (W : World) :
    (Instr.slice T (.slice a len cap) none (some (.int .i64 (hi : Int))) none).run P W = .ok (pieceOf a 0 hi cap) W := by
  rw [run_slice_h W T a len cap ht .i64 hi (by omega) (by omega), hs]
  simp [Result.andThen, sliced, pieceOf]

/-- n zero values, as a make lays them. -/
def zRow (z : Value) (n : Nat) : Array Value := madeCells z.cells n
theorem zRow_size (z : Value) (n : Nat) : (zRow z n).size = n := by unfold zRow; exact size_madeCells _ _
theorem zRow_list (z : Value) (hz : z.cells = #[z]) (n : Nat) : (zRow z n).toList = List.replicate n z := by unfold zRow; rw [hz, toList_madeCells_one]
/-- 'make([]T, 0, c)'. -/
theorem run_make0 {P : Program} (t e : TypeId) (z : Value) (bytes : Nat) (ht : P.underlying t = some (.slice e)) (hinfo : (P.info? e).map (fun i => (i.zero, i.size, i.bytes)) = some (some z, 1, bytes)) (c : Nat)
    (hc : bytes * c ≤ 281474976710656) (hm : c ≤ 9223372036854775807) (w : World) :
    (Instr.makeSlice t (.int .i64 0) (.int .i64 (c : Int))).run P w = .ok (.slice (some ⟨w.heap.size, 0, none⟩) 0 c) (w.alloc (.cells (zRow z c) e)) := by
  obtain ⟨i, hi, hz0, hz1, hz2⟩ := info_parts hinfo
  have hb : (bytes : Int) * (c : Int) ≤ 281474976710656 := by
    have h : ((bytes * c : Nat) : Int) ≤ 281474976710656 := by omega
    rwa [Int.natCast_mul] at h
  have := run_make (P := P) w t e i z ht hi hz0 .i64 .i64 0 c (by omega) (by omega) (by rw [hz2]; exact hb) (by omega)
  rw [hz1] at this
  simpa [zRow] using this
/-- 'make([]T, c)'. -/
theorem run_makeN {P : Program} (t e : TypeId) (z : Value) (bytes : Nat) (ht : P.underlying t = some (.slice e)) (hinfo : (P.info? e).map (fun i => (i.zero, i.size, i.bytes)) = some (some z, 1, bytes)) (c : Nat)
    (hc : bytes * c ≤ 281474976710656) (hm : c ≤ 9223372036854775807) (w : World) :
    (Instr.makeSlice t (.int .i64 (c : Int)) (.int .i64 (c : Int))).run P w = .ok (.slice (some ⟨w.heap.size, 0, none⟩) c c) (w.alloc (.cells (zRow z c) e)) := by
  obtain ⟨i, hi, hz0, hz1, hz2⟩ := info_parts hinfo
  have hb : (bytes : Int) * (c : Int) ≤ 281474976710656 := by
    have h : ((bytes * c : Nat) : Int) ≤ 281474976710656 := by omega
    rwa [Int.natCast_mul] at h
  have := run_make (P := P) w t e i z ht hi hz0 .i64 .i64 c c (by omega) (by omega) (by rw [hz2]; exact hb) (by omega)
  rw [hz1] at this
  simpa [zRow] using this
theorem Own.room {α : Type} (f : α → Value) (e : TypeId) (w : World) (z : Value) (base c : Nat) (hb : base ≤ w.heap.size) (hc : c ≤ 9223372036854775807) : Own f e (w.alloc (.cells (zRow z c) e)) base (.slice (some ⟨w.heap.size, 0, none⟩) 0 c) [] :=
  World.ownsRow_made w (zRow z c) c hb (by unfold maxLen; omega) (by rw [zRow_size, Nat.mul_one])
theorem Own.zeros {α : Type} (f : α → Value) (e : TypeId) (w : World) (z : Value) (x : α) (hz : z.cells = #[z]) (hx : f x = z) (base c : Nat) (hb : base ≤ w.heap.size) (hc : c ≤ 9223372036854775807) :
    Own f e (w.alloc (.cells (zRow z c) e)) base (.slice (some ⟨w.heap.size, 0, none⟩) c c) (List.replicate c x) := by
  unfold Own
  have := World.ownsRow_lit (base := base) (e := e) (size := 1) w (zRow z c) c hb (by unfold maxLen; omega) (by rw [zRow_size, Nat.mul_one])
  rw [zRow_list z hz] at this
  rw [List.length_replicate, List.map_replicate, hx]
  exact this

/-- A row of the call's own stays while a row of another type grows. -/
theorem Own.kept_apart {α β : Type} {f : α → Value} {f' : β → Value} {e e' : TypeId} {w w' : World} {base base' : Nat} {v v' : Value} {xs : List α} {ys : List β} (h : Own f e w base v xs) (h2 : Own f' e' w base' v' ys) (hne : e ≠ e')
    (hg : w.grownBy w' v'.ownBlock) : Own f e w' base v xs := by
  refine World.ownsRow.kept h hg ?_
  obtain ⟨_, h⟩ := h
  obtain ⟨_, h2⟩ := h2
  rcases h with ⟨rfl, _⟩ | ⟨g, cap, cur, rfl, _, hh, _⟩
  · exact .inl rfl
  · right
    rcases h2 with ⟨rfl, _⟩ | ⟨g', cap', cur', rfl, _, hh', _⟩
    · simp [Value.ownBlock]
    · intro heq
      simp [Value.ownBlock] at heq
      subst heq
      rw [hh] at hh'
      simp at hh'
      exact hne hh'.2
/-- 'copy' into a row that was just made, as long as it. -/
theorem wpList_copy_made {α : Type} {P : Program} (f : α → Value) (hf : ∀ x, (f x).oneCell' = true) {w : World} {ops : Array Oper} {rest : List Oper} {o : Oper} {a : Act} {Q : Exit → Act → World → Prop} (hgd : o.guard = none) (d s : Operand) (t : TypeId)
    (ho : o.op = .call { callee := .builtin .copy, args := #[d, s], argTypes := #[t, t] }) (e : TypeId) (z : Value) (bytes : Nat) (ht : P.underlying t = some (.slice e))
    (hinfo : (P.info? e).map (fun i => (i.zero, i.size, i.bytes)) = some (some z, 1, bytes)) (g n base : Nat) (hg : w.heap[g]? = some (.cells (zRow z n) e)) (hb : base ≤ g) (hn63 : n ≤ 9223372036854775807)
    (vs : Value) (ys : List α) (hd : a.eval d = .slice (some ⟨g, 0, none⟩) n n) (hs : a.eval s = vs) (hsrc : IsOnes f w vs ys) (hn : n ≤ ys.length)
    (h : ∀ w', Own f e w' base (.slice (some ⟨g, 0, none⟩) n n) (ys.take n) → Below g w w' → wpList P ops Q rest (a.put o.dst (goInt n)) w') : wpList P ops Q (o :: rest) a w := by
  obtain ⟨i, hi, hz0, hz1, hz2⟩ := info_parts hinfo
  obtain ⟨sa, sc, rfl⟩ := hsrc.slice
  have hlen : ((ys.take n).map f).length = n := by simp; omega
  have hcs : (zRow z n).toList.length = n := by rw [Array.length_toList, zRow_size]
  refine wpList_copy_splice hgd d s t t ho e ht (by rw [hi]; simp [hz1]) (some ⟨g, 0, none⟩) sa n n ys.length sc hd hs g 0 (zRow z n).toList e (by simpa using hg) ((ys.take n).map f) (by rw [hlen]; exact (Nat.min_eq_right hn).symm) ?_ (by rw [hlen, hcs]; omega) ?_ g w (Below.refl _ _) (Nat.le_refl _) ?_
  · intro hpos
    rw [hlen] at hpos
    obtain ⟨b, off, rfl, _, hc⟩ := get_of_ones hsrc rfl (by omega)
    refine ⟨rfl, _, rfl, fun j u hj => ?_⟩
    simp only [List.getElem?_map, Option.map_eq_some_iff] at hj
    obtain ⟨y, hy, rfl⟩ := hj
    rw [List.getElem?_take] at hy
    split at hy
    · obtain ⟨hjl, rfl⟩ := getElem_of_some hy
      rw [add_plain]
      exact hc j hjl
    · cases hy
  · intro u hu
    obtain ⟨y, _, rfl⟩ := List.mem_map.1 hu
    exact hf y
  · intro w' hh hbel
    rw [hlen]
    refine h w' ?_ hbel
    have hh := hh.out
    have hsp : splice (zRow z n).toList 0 ((ys.take n).map f) = (ys.take n).map f := by
      unfold splice
      rw [hlen, List.take_zero, List.nil_append, List.drop_of_length_le (by omega), List.append_nil]
    rw [hsp] at hh
    have hl2 : (ys.take n).length = n := by simp; omega
    refine ⟨by simp, .inr ⟨g, n, ((ys.take n).map f).toArray, by rw [hl2], hb, hh, by omega, by unfold maxLen; omega, by simp; omega, ?_⟩⟩
    rw [List.take_of_length_le (by simp)]

theorem byteCell_one (c : UInt8) : (byteCell c).oneCell' = true := rfl
def strOf (l : List UInt8) : ByteArray := ⟨l.toArray⟩
theorem strOf_inj {a b : List UInt8} : strOf a = strOf b ↔ a = b := by
  unfold strOf
  constructor
  · intro h
    have := congrArg (fun x => x.data.toList) h
    simpa using this
  · rintro rfl; rfl
theorem strOf_data (l : List UInt8) : (strOf l).data.toList = l := rfl
theorem strOf_size (l : List UInt8) : (strOf l).size = l.length := rfl
/-- string(b). -/
theorem run_string_of_bytes {P : Program} (src e : TypeId) (hs : P.underlying src = some (.slice e)) (he : P.underlying e = some (.int .u8)) (dst : TypeId) (hd : P.underlying dst = some .string) (w : World) (v : Value) (l : List UInt8) (h : IsBytes w v l) :
    (convert src dst v).run P w = .ok (.string (strOf l)) w := by
  have conv : ∀ b off cap, (∀ i (h : i < l.length), w.cell? ⟨b, off + i, none⟩ = some (byteCell l[i])) → (convert src dst (.slice (some ⟨b, off, none⟩) l.length cap)).run P w = .ok (.string (strOf l)) w := by
    intro b off cap hc
    have hx := run_convert_bytes_arg (P := P) w src e hs he b off l.length cap (l.map fun c => (c.toNat : Int)) (by simp) (fun i hi => by
      rw [hc i hi]; unfold byteCell; simp [List.getD, List.getElem?_eq_getElem hi]) dst hd
    rw [hx]
    congr 2
    unfold strOf strOfNums
    congr 2
    rw [List.map_map]
    conv => rhs; rw [← List.map_id l]
    apply List.map_congr_left
    intro c _
    simp
  rcases h with ⟨rfl, a, cap, rfl, _, hn⟩ | ⟨b, off, cap, rfl, _, _, _, hc⟩
  · cases a with
    | none => exact run_convert_bytes_nil w src e hs he 0 cap dst hd
    | some a =>
      rw [run_convert_bytes_string w src dst e _ 0 cap hs he hd, run_bytesToString w _ 0 cap [] (by simp [loadCells]; rfl)]
      rfl
  · exact conv b off cap hc
end Go.Proofs.Ytgmdhedabmkcoaa
