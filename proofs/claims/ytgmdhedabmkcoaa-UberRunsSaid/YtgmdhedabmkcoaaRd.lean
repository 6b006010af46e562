/- The document's device as a value: what it holds; There, power, Break, At: the walks. -/
import Derived.Test.YtgmdhedabmkcoaaUbM
import Derived.Test.YtgmdhedabmkcoaaUbV
import Derived.Test.YtgmdhedabmkcoaaDevT
set_option linter.unusedSimpArgs false
set_option linter.unusedVariables false
namespace Go.Proofs.Ytgmdhedabmkcoaa
open Go.RowKit Go.Sort

/-- A slice, as a value. -/
structure Sl where
  a : Option Addr
  n : Nat
  c : Nat
def Sl.v (s : Sl) : Value := .slice s.a s.n s.c
def nilS : Sl := ⟨none, 0, 0⟩
def rdC (s p : Sl) (o l : Int) (d : Bool) : Array Value := #[.slice s.a s.n s.c, .slice p.a p.n p.c, .int .i64 o, .int .i64 l, .bool d]
theorem rdC_one (s p : Sl) (o l : Int) (d : Bool) : (rdC s p o l d).all (·.oneCell') = true := by simp [rdC, Value.oneCell']
theorem info_rd (s p : Sl) (o l : Int) (d : Bool) : (Try.prog.info? 61).map (·.size) = some (rdC s p o l d).size := by kernel_rfl
theorem zero_rd : ∀ W : World, (zeroValue 61).run Try.prog W = .ok (.agg (rdC nilS nilS 0 0 false)) W :=
  (zero_of_info (P := Try.prog) (t := 61) (v := .agg (rdC nilS nilS 0 0 false)) (n := 5) (by kernel_rfl)).1
theorem rd_at {w : World} {g : Nat} {t : TypeId} {s p : Sl} {o l : Int} {d : Bool} (h : Blk w g t (rdC s p o l d)) :
    w.cell? ⟨g, 0, none⟩ = some (.slice s.a s.n s.c) ∧ w.cell? ⟨g, 1, none⟩ = some (.slice p.a p.n p.c) ∧ w.cell? ⟨g, 2, none⟩ = some (.int .i64 o) ∧ w.cell? ⟨g, 3, none⟩ = some (.int .i64 l) ∧ w.cell? ⟨g, 4, none⟩ = some (.bool d) :=
  ⟨by rw [h.cell]; rfl, by rw [h.cell]; rfl, by rw [h.cell]; rfl, by rw [h.cell]; rfl, by rw [h.cell]; rfl⟩
theorem rd_ix (s p : Sl) (o l : Int) (d : Bool) : (rdC s p o l d)[0]? = some (.slice s.a s.n s.c) ∧ (rdC s p o l d)[1]? = some (.slice p.a p.n p.c) ∧ (rdC s p o l d)[2]? = some (.int .i64 o) ∧ (rdC s p o l d)[3]? = some (.int .i64 l) ∧ (rdC s p o l d)[4]? = some (.bool d) := ⟨rfl, rfl, rfl, rfl, rfl⟩
/-- What the document's device holds. -/
structure RDv (w : World) (s p : Sl) (v : DevD) : Prop where
  st : IsRow scells w s.v v.stable
  pe : IsRow wcells w p.v v.pend
  max : v.stable.length ≤ 1024
  pmax : v.pend.length ≤ 1000000
  locs : ∀ x ∈ v.pend, x.loc < v.stable.length
  left : -1 ≤ v.left ∧ v.left ≤ 9223372036854775807
  sn : s.n = v.stable.length
  pn : p.n = v.pend.length
  sb : ∀ b, s.v.ownBlock = some b → b < w.heap.size
  pb : ∀ b, p.v.ownBlock = some b → b < w.heap.size
theorem RDv.up {w w' : World} {s p : Sl} {v : DevD} (R : RDv w s p v) (U : Up w w') : RDv w' s p v := ⟨R.st.up U, R.pe.up U, R.max, R.pmax, R.locs, R.left, R.sn, R.pn, fun b h => Nat.lt_of_lt_of_le (R.sb b h) U.size, fun b h => Nat.lt_of_lt_of_le (R.pb b h) U.size⟩
/-- Another block is written. -/
theorem RDv.grown {w w' : World} {s p : Sl} {v : DevD} {g : Nat} (R : RDv w s p v) (hg : w.grownBy w' (some g)) (h : ∀ b, (s.v.ownBlock = some b ∨ p.v.ownBlock = some b) → b ≠ g) : RDv w' s p v := by
  have T := Touch.of_grown (F := fun b => b = g) hg (fun k hk => by cases hk; rfl)
  exact ⟨R.st.touch T (fun b hb hh => h b (.inl hb) hh), R.pe.touch T (fun b hb hh => h b (.inr hb) hh), R.max, R.pmax, R.locs, R.left, R.sn, R.pn, fun b hb => Nat.lt_of_lt_of_le (R.sb b hb) T.size, fun b hb => Nat.lt_of_lt_of_le (R.pb b hb) T.size⟩
/-- The slices' blocks are those that were, or new ones. -/
def Kept (w : World) (s p s' p' : Sl) : Prop := ∀ b, (s'.v.ownBlock = some b ∨ p'.v.ownBlock = some b) → (s.v.ownBlock = some b ∨ p.v.ownBlock = some b) ∨ w.heap.size ≤ b
theorem Kept.refl (w : World) (s p : Sl) : Kept w s p s p := fun b hb => .inl hb
theorem Kept.trans {w w' : World} {s p s' p' s2 p2 : Sl} (h : Kept w s p s' p') (k : Kept w' s' p' s2 p2) (U : w.heap.size ≤ w'.heap.size) : Kept w s p s2 p2 := fun b hb => by
  rcases k b hb with h1 | h1
  · exact h b h1
  · exact .inr (by omega)
/-- A document's function's answer: a device, and the error. -/
def RPost (w : World) (s p : Sl) (v' : DevD) (e : Ending) (w' : World) : Prop :=
  ∃ s' p' o', e = .returned (.agg (rdC s' p' o' v'.left v'.dead)) ∧ RDv w' s' p' v' ∧ Up w w' ∧ Kept w s p s' p'
def RPostE (w : World) (s p : Sl) (v' : DevD) (x : Value) (e : Ending) (w' : World) : Prop :=
  ∃ s' p' o', e = .returned (.tuple #[.agg (rdC s' p' o' v'.left v'.dead), x]) ∧ RDv w' s' p' v' ∧ Up w w' ∧ Kept w s p s' p'
section
variable {P : Program}
/-- A field of a known block is written. -/
theorem wl_setf {ops : Array Oper} {rest : List Oper} {op : Oper} {a : Act} {w : World} {Q : Exit → Act → World → Prop} (hgd : op.guard = none) (ty : TypeId) (x y : Operand) (ho : op.op = .store ty x y)
    (g i : Nat) (hx : a.eval x = .pointer (some ⟨g, i, none⟩)) (v : Value) (hy : a.eval y = v) (hv : v.cells = #[v]) (h1 : v.oneCell' = true) (t : TypeId) (C : Array Value) (hb : Blk w g t C) (hi : i < C.size) (hs : ∀ W : World, (sizeOf ty).run P W = .ok 1 W)
    (h : ∀ w', Blk w' g t (C.setIfInBounds i v) → w.grownBy w' (some g) → wpList P ops Q rest (a.put op.dst undef) w') : wpList P ops Q (op :: rest) a w :=
  wpList_plain hgd fun _ hK => wp_store_cell ty x y ho ⟨g, i, none⟩ hx v hy hv h1 C[i] (by rw [hb.cell]; exact Array.getElem?_eq_getElem hi) (hb.free i) (hs w) (hK _ _ (h _ (hb.setCell i v) (grown_setCell hb i v)))
end
set_option maxRecDepth 100000 in
set_option maxHeartbeats 8000000 in
theorem there_any (w : World) (s p : Sl) (o : Int) (v : DevD) (R : RDv w s p v) (i : Int) :
    Calls Try.prog 58 #[.agg (rdC s p o v.left v.dead), .int .i64 i] w fun e w' => BoolUp (v.hasB i) w e w' := by
  have B1 := Lib.hid (Blk.new w 61 (rdC s p o v.left v.dead))
  have U1 := Lib.hid (up_alloc w (.cells (rdC s p o v.left v.dead) 61))
  have sn := R.sn
  have hm := R.max
  obtain ⟨c0, _, _, _, _⟩ := rd_at B1.out
  obtain ⟨i0, _, _, _, _⟩ := rd_ix s p o v.left v.dead
  obtain ⟨sa, n, sc⟩ := s
  dsimp only at sn c0 B1 U1 i0
  subst sn
  have HB := Lib.hid (hasB_iff v i)
  clear R
  generalize v.left = vl at *
  generalize v.dead = vd at *
  generalize v.hasB i = vh at *
  generalize v.stable.length = m at *
  by_cases h1 : 0 ≤ i
  rotate_left
  · have b1 : ((0 : Int) ≤ i) = False := by simp; omega
    have HF := Lib.hid (show vh = false by rw [← Bool.not_eq_true, HB.out]; omega)
    go_enter Try.func58, Try.ntmps58
    go_wp2_with fail
    go_ret
    exact ⟨by rw [HF.out] <;> rfl, U1.out⟩
  have b1 : ((0 : Int) ≤ i) = True := by simp; omega
  by_cases h2 : i < (m : Int)
  · have b2 : (i < (m : Int)) = True := by simp; omega
    have HF := Lib.hid (show vh = true from HB.out.2 ⟨h1, h2⟩)
    go_enter Try.func58, Try.ntmps58
    go_wp2_with fail
    go_ret
    exact ⟨by rw [HF.out] <;> rfl, U1.out⟩
  · have b2 : (i < (m : Int)) = False := by simp; omega
    have HF := Lib.hid (show vh = false by rw [← Bool.not_eq_true, HB.out]; omega)
    go_enter Try.func58, Try.ntmps58
    go_wp2_with fail
    go_ret
    exact ⟨by rw [HF.out] <;> rfl, U1.out⟩
set_option maxRecDepth 100000 in
set_option maxHeartbeats 8000000 in
theorem power_any (w : World) (s p : Sl) (o : Int) (v : DevD) (R : RDv w s p v) :
    Calls Try.prog 66 #[.agg (rdC s p o v.left v.dead)] w fun e w' => e = .returned (.tuple #[.agg (rdC s p o v.spent.left v.spent.dead), .bool v.powerB]) ∧ Up w w' := by
  have B1 := Lib.hid ((Blk.new w 61 (rdC s p o v.left v.dead)).up (up_alloc _ (.cells (rdC nilS nilS 0 0 false) 61)))
  have z1 := Blk.new (w.alloc (.cells (rdC s p o v.left v.dead) 61)) 61 (rdC nilS nilS 0 0 false)
  rw [sz_alloc] at z1
  have Z1 := Lib.hid z1
  have U1 := Lib.hid ((up_alloc w (.cells (rdC s p o v.left v.dead) 61)).trans (up_alloc _ (.cells (rdC nilS nilS 0 0 false) 61)))
  clear z1
  have hl := R.left
  have SP := Lib.hid (spent_same v)
  have SE := Lib.hid (show v.spent = if v.dead = true ∨ v.left = 0 then { v with dead := true } else { v with left := if 0 < v.left then v.left - 1 else v.left } from rfl)
  have PE := Lib.hid (show v.powerB = !(v.dead || decide (v.left = 0)) from rfl)
  obtain ⟨_, _, _, c3, c4⟩ := rd_at B1.out
  obtain ⟨_, _, _, i3, i4⟩ := rd_ix s p o v.left v.dead
  clear R
  obtain ⟨x, hx⟩ : ∃ x, x = v.left := ⟨_, rfl⟩
  obtain ⟨d, hd⟩ : ∃ d, d = v.dead := ⟨_, rfl⟩
  rw [← hx] at c3 i3 i4 B1 U1 Z1 hl ⊢
  rw [← hd] at c4 i3 i4 B1 U1 Z1 ⊢
  have HX := Lib.hid hx
  have HD := Lib.hid hd
  clear hx hd
  cases d
  · by_cases h0 : x = 0
    · have b0 : ((0 : Int) == 0) = true := by simp
      have SV := Lib.hid (show v.spent = { v with dead := true } by rw [SE.out, if_pos (.inr (by rw [← HX.out]; exact h0))])
      have PV := Lib.hid (show v.powerB = false by rw [PE.out, ← HX.out, h0]; simp)
      rw [SV.out, PV.out]
      subst h0
      go_enter Try.func66, Try.ntmps66
      go_wp2_with (first
        | ((with_reducible refine wg_alloc 61 ?_); refine wpList_alloc_blk rfl 61 rfl (rdC nilS nilS 0 0 false) zero_rd ?_)
        | ((with_reducible refine wg_store 4 (.tmp 11) (.const (.bool true)) ?_); refine wl_setf rfl 4 (.tmp 11) (.const (.bool true)) rfl w.heap.size 4 rfl (.bool true) rfl rfl rfl 61 _ B1.out (by show 4 < 5; decide) (fun W => by kernel_rfl) ?_))
      intro w5 b5 g5
      have B5 := Lib.hid (show Blk w5 w.heap.size 61 (rdC s p o 0 true) from b5)
      have Z5 := Lib.hid (Z1.out.grown g5 (by simp))
      have U5 := Lib.hid (Up.grown U1.out g5 (fun k hk => by cases hk; exact Nat.le_refl _))
      obtain ⟨_, _, _, _, _⟩ := rd_at B5.out
      go_wp2_with (first
        | ((with_reducible refine wg_alloc 61 ?_); refine wpList_alloc_blk rfl 61 rfl (rdC nilS nilS 0 0 false) zero_rd ?_)
        | ((with_reducible refine wg_load 61 (.tmp 1) ?_); refine wpList_load_blkG rfl 61 (.tmp 1) rfl w.heap.size rfl 61 _ B5.out _ Try.underlying61 rfl (info_rd _ _ _ _ _) ?_)
        | ((with_reducible refine wg_store 61 (.tmp 2) (.tmp 12) ?_); refine wpList_store_blk rfl 61 (.tmp 2) (.tmp 12) rfl (w.heap.size + 1) (rdC s p o 0 true) rfl rfl 61 _ Z5.out (info_rd _ _ _ _ _) rfl (rdC_one _ _ _ _ _) ?_))
      intro w9 b9 g9
      have U9 := Up.grown U5.out g9 (fun k hk => by cases hk; exact Nat.le_succ _)
      go_wp2_with fail
      (try simp only [Exit.inBlock, Exit.then])
      exact bodyPost_ret (v := .tuple #[.agg (rdC s p o 0 true), .bool false]) (results_blk rfl _ _ _ (w.heap.size + 1) 61 _ _ rfl rfl b9 _ Try.underlying61 rfl (info_rd _ _ _ _ _)) rfl (⟨by simp only [← HX.out], U9⟩)
    have b0 : (x == 0) = false := by simp; omega
    have PV := Lib.hid (show v.powerB = true by rw [PE.out, ← HX.out, ← HD.out]; simp; exact h0)
    by_cases hp : 0 < x
    · have b1 : ((0 : Int) < x) = True := by simp; omega
      have SV := Lib.hid (show v.spent = { v with left := v.left - 1 } by rw [SE.out, if_neg (by rw [← HX.out, ← HD.out]; simp; exact h0), if_pos (by rw [← HX.out]; exact hp)])
      rw [SV.out, PV.out]
      go_enter Try.func66, Try.ntmps66
      go_wp2_with (first
        | ((with_reducible refine wg_alloc 61 ?_); refine wpList_alloc_blk rfl 61 rfl (rdC nilS nilS 0 0 false) zero_rd ?_)
        | ((with_reducible refine wg_store 3 (.tmp 19) (.tmp 18) ?_); refine wl_setf rfl 3 (.tmp 19) (.tmp 18) rfl w.heap.size 3 rfl (.int .i64 (x - 1)) rfl rfl rfl 61 _ B1.out (by show 3 < 5; decide) (fun W => by kernel_rfl) ?_))
      intro w5 b5 g5
      have B5 := Lib.hid (show Blk w5 w.heap.size 61 (rdC s p o (x - 1) false) from b5)
      have Z5 := Lib.hid (Z1.out.grown g5 (by simp))
      have U5 := Lib.hid (Up.grown U1.out g5 (fun k hk => by cases hk; exact Nat.le_refl _))
      obtain ⟨_, _, _, _, _⟩ := rd_at B5.out
      go_wp2_with (first
        | ((with_reducible refine wg_alloc 61 ?_); refine wpList_alloc_blk rfl 61 rfl (rdC nilS nilS 0 0 false) zero_rd ?_)
        | ((with_reducible refine wg_load 61 (.tmp 1) ?_); refine wpList_load_blkG rfl 61 (.tmp 1) rfl w.heap.size rfl 61 _ B5.out _ Try.underlying61 rfl (info_rd _ _ _ _ _) ?_)
        | ((with_reducible refine wg_store 61 (.tmp 2) (.tmp 20) ?_); refine wpList_store_blk rfl 61 (.tmp 2) (.tmp 20) rfl (w.heap.size + 1) (rdC s p o (x - 1) false) rfl rfl 61 _ Z5.out (info_rd _ _ _ _ _) rfl (rdC_one _ _ _ _ _) ?_))
      intro w9 b9 g9
      have U9 := Up.grown U5.out g9 (fun k hk => by cases hk; exact Nat.le_succ _)
      go_wp2_with fail
      (try simp only [Exit.inBlock, Exit.then])
      exact bodyPost_ret (v := .tuple #[.agg (rdC s p o (x - 1) false), .bool true]) (results_blk rfl _ _ _ (w.heap.size + 1) 61 _ _ rfl rfl b9 _ Try.underlying61 rfl (info_rd _ _ _ _ _)) rfl (⟨by simp only [← HX.out, ← HD.out], U9⟩)
    · have b1 : ((0 : Int) < x) = False := by simp; omega
      have SV := Lib.hid (show v.spent = v by rw [SE.out, if_neg (by rw [← HX.out, ← HD.out]; simp; exact h0), if_neg (by rw [← HX.out]; exact hp)])
      rw [SV.out, PV.out]
      go_enter Try.func66, Try.ntmps66
      go_wp2_with (first
        | ((with_reducible refine wg_alloc 61 ?_); refine wpList_alloc_blk rfl 61 rfl (rdC nilS nilS 0 0 false) zero_rd ?_)
        | ((with_reducible refine wg_load 61 (.tmp 1) ?_); refine wpList_load_blkG rfl 61 (.tmp 1) rfl w.heap.size rfl 61 _ B1.out _ Try.underlying61 rfl (info_rd _ _ _ _ _) ?_)
        | ((with_reducible refine wg_store 61 (.tmp 2) (.tmp 20) ?_); refine wpList_store_blk rfl 61 (.tmp 2) (.tmp 20) rfl (w.heap.size + 1) (rdC s p o x false) rfl rfl 61 _ Z1.out (info_rd _ _ _ _ _) rfl (rdC_one _ _ _ _ _) ?_))
      intro w9 b9 g9
      have U9 := Up.grown U1.out g9 (fun k hk => by cases hk; exact Nat.le_succ _)
      go_wp2_with fail
      (try simp only [Exit.inBlock, Exit.then])
      exact bodyPost_ret (v := .tuple #[.agg (rdC s p o x false), .bool true]) (results_blk rfl _ _ _ (w.heap.size + 1) 61 _ _ rfl rfl b9 _ Try.underlying61 rfl (info_rd _ _ _ _ _)) rfl (⟨by rw [← HX.out, ← HD.out], U9⟩)
  · have SV := Lib.hid (show v.spent = { v with dead := true } by rw [SE.out, if_pos (.inl HD.out.symm)])
    have PV := Lib.hid (show v.powerB = false by rw [PE.out, ← HD.out]; simp)
    rw [SV.out, PV.out]
    go_enter Try.func66, Try.ntmps66
    go_wp2_with (first
      | ((with_reducible refine wg_alloc 61 ?_); refine wpList_alloc_blk rfl 61 rfl (rdC nilS nilS 0 0 false) zero_rd ?_)
      | ((with_reducible refine wg_store 4 (.tmp 11) (.const (.bool true)) ?_); refine wl_setf rfl 4 (.tmp 11) (.const (.bool true)) rfl w.heap.size 4 rfl (.bool true) rfl rfl rfl 61 _ B1.out (by show 4 < 5; decide) (fun W => by kernel_rfl) ?_))
    intro w5 b5 g5
    have B5 := Lib.hid (show Blk w5 w.heap.size 61 (rdC s p o x true) from b5)
    have Z5 := Lib.hid (Z1.out.grown g5 (by simp))
    have U5 := Lib.hid (Up.grown U1.out g5 (fun k hk => by cases hk; exact Nat.le_refl _))
    obtain ⟨_, _, _, _, _⟩ := rd_at B5.out
    go_wp2_with (first
      | ((with_reducible refine wg_alloc 61 ?_); refine wpList_alloc_blk rfl 61 rfl (rdC nilS nilS 0 0 false) zero_rd ?_)
      | ((with_reducible refine wg_load 61 (.tmp 1) ?_); refine wpList_load_blkG rfl 61 (.tmp 1) rfl w.heap.size rfl 61 _ B5.out _ Try.underlying61 rfl (info_rd _ _ _ _ _) ?_)
      | ((with_reducible refine wg_store 61 (.tmp 2) (.tmp 12) ?_); refine wpList_store_blk rfl 61 (.tmp 2) (.tmp 12) rfl (w.heap.size + 1) (rdC s p o x true) rfl rfl 61 _ Z5.out (info_rd _ _ _ _ _) rfl (rdC_one _ _ _ _ _) ?_))
    intro w9 b9 g9
    have U9 := Up.grown U5.out g9 (fun k hk => by cases hk; exact Nat.le_succ _)
    go_wp2_with fail
    (try simp only [Exit.inBlock, Exit.then])
    exact bodyPost_ret (v := .tuple #[.agg (rdC s p o x true), .bool false]) (results_blk rfl _ _ _ (w.heap.size + 1) 61 _ _ rfl rfl b9 _ Try.underlying61 rfl (info_rd _ _ _ _ _)) rfl (⟨by simp only [← HX.out], U9⟩)
set_option maxRecDepth 100000 in
set_option maxHeartbeats 8000000 in
theorem rbreak_any (w : World) (s p : Sl) (o : Int) (v : DevD) (R : RDv w s p v) (n : Int) (hn : -9223372036854775808 ≤ n ∧ n ≤ 9223372036854775807) :
    Calls Try.prog 26 #[.agg (rdC s p o v.left v.dead), .int .i64 n] w fun e w' => e = .returned (.agg (rdC s p o (v.broken n).left v.dead)) ∧ Up w w' := by
  have B1 := Lib.hid ((Blk.new w 61 (rdC s p o v.left v.dead)).up (up_alloc _ (.cells (rdC nilS nilS 0 0 false) 61)))
  have z1 := Blk.new (w.alloc (.cells (rdC s p o v.left v.dead) 61)) 61 (rdC nilS nilS 0 0 false)
  rw [sz_alloc] at z1
  have Z1 := Lib.hid z1
  have U1 := Lib.hid ((up_alloc w (.cells (rdC s p o v.left v.dead) 61)).trans (up_alloc _ (.cells (rdC nilS nilS 0 0 false) 61)))
  clear z1
  have BV := Lib.hid (show (v.broken n).left = if n < -1 then -1 else n from rfl)
  clear R
  generalize v.left = x at *
  generalize hd : v.dead = d at *
  clear hd
  by_cases h0 : n < 0
  · have b0 : (n < 0) = True := by simp; omega
    have HL := Lib.hid (show (v.broken n).left = -1 by rw [BV.out]; split <;> omega)
    go_enter Try.func26, Try.ntmps26
    go_wp2_with (first
      | ((with_reducible refine wg_alloc 61 ?_); refine wpList_alloc_blk rfl 61 rfl (rdC nilS nilS 0 0 false) zero_rd ?_)
      | ((with_reducible refine wg_store 3 (.tmp 6) (.tmp 5) ?_); refine wl_setf rfl 3 (.tmp 6) (.tmp 5) rfl w.heap.size 3 rfl (.int .i64 n) rfl rfl rfl 61 _ B1.out (by show 3 < 5; decide) (fun W => by kernel_rfl) ?_))
    intro w5 b5 g5
    have B5 := Lib.hid (show Blk w5 w.heap.size 61 (rdC s p o n d) from b5)
    have Z5 := Lib.hid (Z1.out.grown g5 (by simp))
    have U5 := Lib.hid (Up.grown U1.out g5 (fun k hk => by cases hk; exact Nat.le_refl _))
    obtain ⟨_, _, _, _, _⟩ := rd_at B5.out
    go_wp2_with (first
      | ((with_reducible refine wg_store 3 (.tmp 9) (.const (.int .i64 (-1))) ?_); refine wl_setf rfl 3 (.tmp 9) (.const (.int .i64 (-1))) rfl w.heap.size 3 rfl (.int .i64 (-1)) rfl rfl rfl 61 _ B5.out (by show 3 < 5; decide) (fun W => by kernel_rfl) ?_))
    intro w6 b6 g6
    have B6 := Lib.hid (show Blk w6 w.heap.size 61 (rdC s p o (-1) d) from b6)
    have Z6 := Lib.hid (Z5.out.grown g6 (by simp))
    have U6 := Lib.hid (Up.grown U5.out g6 (fun k hk => by cases hk; exact Nat.le_refl _))
    obtain ⟨_, _, _, _, _⟩ := rd_at B6.out
    go_wp2_with (first
      | ((with_reducible refine wg_alloc 61 ?_); refine wpList_alloc_blk rfl 61 rfl (rdC nilS nilS 0 0 false) zero_rd ?_)
      | ((with_reducible refine wg_load 61 (.tmp 2) ?_); refine wpList_load_blkG rfl 61 (.tmp 2) rfl w.heap.size rfl 61 _ B6.out _ Try.underlying61 rfl (info_rd _ _ _ _ _) ?_)
      | ((with_reducible refine wg_store 61 (.tmp 4) (.tmp 10) ?_); refine wpList_store_blk rfl 61 (.tmp 4) (.tmp 10) rfl (w.heap.size + 1) (rdC s p o (-1) d) rfl rfl 61 _ Z6.out (info_rd _ _ _ _ _) rfl (rdC_one _ _ _ _ _) ?_))
    intro w9 b9 g9
    have U9 := Up.grown U6.out g9 (fun k hk => by cases hk; exact Nat.le_succ _)
    go_wp2_with fail
    (try simp only [Exit.inBlock, Exit.then])
    exact bodyPost_ret (v := .agg (rdC s p o (-1) d)) (results_one rfl _ _ _ (w.heap.size + 1) 61 _ rfl b9 _ Try.underlying61 rfl (info_rd _ _ _ _ _)) rfl (⟨by rw [HL.out], U9⟩)
  · have b0 : (n < 0) = False := by simp; omega
    have HL := Lib.hid (show (v.broken n).left = n by rw [BV.out]; split <;> omega)
    go_enter Try.func26, Try.ntmps26
    go_wp2_with (first
      | ((with_reducible refine wg_alloc 61 ?_); refine wpList_alloc_blk rfl 61 rfl (rdC nilS nilS 0 0 false) zero_rd ?_)
      | ((with_reducible refine wg_store 3 (.tmp 6) (.tmp 5) ?_); refine wl_setf rfl 3 (.tmp 6) (.tmp 5) rfl w.heap.size 3 rfl (.int .i64 n) rfl rfl rfl 61 _ B1.out (by show 3 < 5; decide) (fun W => by kernel_rfl) ?_))
    intro w5 b5 g5
    have B5 := Lib.hid (show Blk w5 w.heap.size 61 (rdC s p o n d) from b5)
    have Z5 := Lib.hid (Z1.out.grown g5 (by simp))
    have U5 := Lib.hid (Up.grown U1.out g5 (fun k hk => by cases hk; exact Nat.le_refl _))
    obtain ⟨_, _, _, _, _⟩ := rd_at B5.out
    go_wp2_with (first
      | ((with_reducible refine wg_alloc 61 ?_); refine wpList_alloc_blk rfl 61 rfl (rdC nilS nilS 0 0 false) zero_rd ?_)
      | ((with_reducible refine wg_load 61 (.tmp 2) ?_); refine wpList_load_blkG rfl 61 (.tmp 2) rfl w.heap.size rfl 61 _ B5.out _ Try.underlying61 rfl (info_rd _ _ _ _ _) ?_)
      | ((with_reducible refine wg_store 61 (.tmp 4) (.tmp 10) ?_); refine wpList_store_blk rfl 61 (.tmp 4) (.tmp 10) rfl (w.heap.size + 1) (rdC s p o n d) rfl rfl 61 _ Z5.out (info_rd _ _ _ _ _) rfl (rdC_one _ _ _ _ _) ?_))
    intro w9 b9 g9
    have U9 := Up.grown U5.out g9 (fun k hk => by cases hk; exact Nat.le_succ _)
    go_wp2_with fail
    (try simp only [Exit.inBlock, Exit.then])
    exact bodyPost_ret (v := .agg (rdC s p o n d)) (results_one rfl _ _ _ (w.heap.size + 1) 61 _ rfl b9 _ Try.underlying61 rfl (info_rd _ _ _ _ _)) rfl (⟨by rw [HL.out], U9⟩)
theorem secsR_at {w : World} {a : Option Addr} {n cap : Nat} {l : List Sec} (h : IsRow scells w (.slice a n cap) l) (h0 : 0 < l.length) : ∃ b off, a = some ⟨b, off, none⟩ ∧ b < w.heap.size ∧ ∀ i (hi : i < l.length), w.rangeAt b (off + i * 128) (secC l[i].val).toList := by
  obtain ⟨b, off, h1, h2, _, h4⟩ := IsRow.get h sw h0
  exact ⟨b, off, h1, h2, fun i hi j v hj => by
    have := h4 i hi j v (by rwa [secC_scells] at hj)
    rw [show off + i * 128 + j = off + (i * 128 + j) by omega]
    exact this⟩
theorem wrsR_at {w : World} {a : Option Addr} {n cap : Nat} {l : List WrD} (h : IsRow wcells w (.slice a n cap) l) (h0 : 0 < l.length) : ∃ b off, a = some ⟨b, off, none⟩ ∧ b < w.heap.size ∧ ∀ i (hi : i < l.length), w.rangeAt b (off + i * 129) (wrC l[i]).toList := by
  obtain ⟨b, off, h1, h2, _, h4⟩ := IsRow.get h ww h0
  exact ⟨b, off, h1, h2, fun i hi j v hj => by
    have := h4 i hi j v (by simpa [wrC] using hj)
    rw [show off + i * 129 + j = off + (i * 129 + j) by omega]
    exact this⟩
theorem info_rw (x : WrD) : (Try.prog.info? 121).map (·.size) = some (wrC x).size := by rw [wrC_size]; kernel_rfl
theorem info_rw3 : (Try.prog.info? 121).map (fun i => (i.zero, i.size, i.bytes)) = some (some (.agg (wrC zWr)), 129, 136) := by kernel_rfl
theorem zero_rw : ∀ W : World, (zeroValue 121).run Try.prog W = .ok (.agg (wrC zWr)) W := fun W => by
  obtain ⟨i, hi, hz0, _, _⟩ := info_parts info_rw3
  simp [zeroValue, typeInfo, hi, hz0]
theorem info_rs3 : (Try.prog.info? 34).map (fun i => (i.zero, i.size, i.bytes)) = some (some (.agg (secC zeroS)), 128, 128) := by kernel_rfl
theorem wr_ix (x : WrD) : (wrC x)[0]? = some (.int .i64 (x.loc : Int)) := rfl
theorem info_secW (x : Sec) : (Try.prog.info? 34).map (·.size) = some (secC x.val).size := by rw [secC_size, x.property]; exact info_sec
theorem secZ (x : Sec) : (secC zeroS).size = (secC x.val).size := by rw [secC_size, secC_size, x.property]; rfl
set_option maxRecDepth 100000 in
set_option maxHeartbeats 8000000 in
theorem rat_any (w : World) (s p : Sl) (o : Int) (v : DevD) (R : RDv w s p v) (i : Int) :
    Calls Try.prog 32 #[.agg (rdC s p o v.left v.dead), .int .i64 i] w fun e w' => e = .returned (.agg (secC (v.stableAt i).val)) ∧ Up w w' := by
  have TH := Lib.hid (fun W (hu : Up w W) => there_any W s p o v (R.up hu) i)
  have B1 := Lib.hid ((Blk.new w 61 (rdC s p o v.left v.dead)).up (up_alloc _ (.cells (secC zeroS) 34)))
  have z1 := Blk.new (w.alloc (.cells (rdC s p o v.left v.dead) 61)) 34 (secC zeroS)
  rw [sz_alloc] at z1
  have Z1 := Lib.hid z1
  have U1 := Lib.hid ((up_alloc w (.cells (rdC s p o v.left v.dead) 61)).trans (up_alloc _ (.cells (secC zeroS) 34)))
  have HB := Lib.hid (hasB_iff v i)
  have SA := Lib.hid (show v.stableAt i = if v.hasB i = true then v.stable.getD i.toNat zSec else zSec from rfl)
  have ST := Lib.hid R.st
  have sn := R.sn
  have hm := R.max
  obtain ⟨sa, n, sc⟩ := s
  dsimp only at sn
  subst sn
  clear z1 R
  have TH1 := Lib.hid (TH.out _ U1.out)
  clear TH
  go_enter Try.func32, Try.ntmps32
  go_wp2_with (first
    | ((with_reducible refine wg_alloc 34 ?_); refine wpList_alloc_blk rfl 34 rfl (secC zeroS) zero_sec ?_)
    | ((with_reducible refine wg_load 61 (.tmp 2) ?_); refine wpList_load_blkG rfl 61 (.tmp 2) rfl w.heap.size rfl 61 _ B1.out _ Try.underlying61 rfl (info_rd _ _ _ _ _) ?_))
  refine TH1.out.mono ?_
  rintro e w2 ⟨rfl, U2⟩
  have B2 := Lib.hid (B1.out.up U2)
  have Z2 := Lib.hid (Z1.out.up U2)
  have UU := Lib.hid (U1.out.trans U2)
  obtain ⟨c0, _, _, _, _⟩ := rd_at B2.out
  dsimp only at c0
  clear TH1 U2 B1 Z1 U1
  cases hb : v.hasB i
  · have SV := Lib.hid (show v.stableAt i = zSec by rw [SA.out, hb]; rfl)
    clear hb
    go_wp2_with (first
      | ((with_reducible refine wg_build 34 #[] ?_); refine wpList_build0 rfl 34 rfl (secC zeroS) built_sec ?_)
      | ((with_reducible refine wg_store 34 (.tmp 4) (.tmp 9) ?_); refine wpList_store_blk rfl 34 (.tmp 4) (.tmp 9) rfl (w.heap.size + 1) (secC zeroS) rfl rfl 34 _ Z2.out info_sec rfl (secC_one _) ?_))
    intro w9 b9 g9
    have U9 := Up.grown UU.out g9 (fun k hk => by cases hk; exact Nat.le_succ _)
    go_wp2_with fail
    (try simp only [Exit.inBlock, Exit.then])
    exact bodyPost_ret (v := .agg (secC zeroS)) (results_one rfl _ _ _ (w.heap.size + 1) 34 _ rfl b9 _ Try.underlying34 rfl info_sec) rfl ⟨by rw [SV.out]; rfl, U9⟩
  · obtain ⟨h0, hlt⟩ := HB.out.1 hb
    obtain ⟨n, rfl⟩ := Int.eq_ofNat_of_zero_le h0
    have hlt : n < v.stable.length := by omega
    have SV := Lib.hid (show v.stableAt (n : Int) = v.stable[n] by rw [SA.out, hb, if_pos rfl, Int.toNat_natCast, List.getD_eq_getElem?_getD, List.getElem?_eq_getElem hlt]; rfl)
    obtain ⟨g, off, rfl, _, rg⟩ := secsR_at (ST.out.up UU.out) (by omega)
    have RG := Lib.hid (rg n hlt)
    have b3 : ((n : Int) < (v.stable.length : Int)) = True := by simp; omega
    clear hb rg h0 ST HB SA
    generalize v.stable[n] = x at *
    clear hlt
    generalize v.stable.length = m at *
    go_wp2_with (first
      | ((with_reducible refine wg_load 34 (.tmp 13) ?_); refine wl_part rfl 34 (.tmp 13) rfl g (off + n * 128) rfl (secC x.val) RG.out _ Try.underlying34 rfl (info_secW x) ?_)
      | ((with_reducible refine wg_store 34 (.tmp 4) (.tmp 14) ?_); refine wpList_store_blk rfl 34 (.tmp 4) (.tmp 14) rfl (w.heap.size + 1) (secC x.val) rfl rfl 34 _ Z2.out (info_secW x) (secZ x) (secC_one _) ?_))
    intro w9 b9 g9
    have U9 := Up.grown UU.out g9 (fun k hk => by cases hk; exact Nat.le_succ _)
    go_wp2_with fail
    (try simp only [Exit.inBlock, Exit.then])
    exact bodyPost_ret (v := .agg (secC x.val)) (results_one rfl _ _ _ (w.heap.size + 1) 34 _ rfl b9 _ Try.underlying34 rfl (info_secW x)) rfl ⟨by rw [SV.out], U9⟩
def nowF (i : Int) (ws : List WrD) (s : Sec) : Sec := ws.foldl (fun s x => if (x.loc : Int) = i then x.s else s) s
theorem nowF_snoc (i : Int) (ws : List WrD) (s : Sec) (k : Nat) (hk : k < ws.length) : nowF i (ws.take (k + 1)) s = if (ws[k].loc : Int) = i then ws[k].s else nowF i (ws.take k) s := by
  unfold nowF
  rw [List.take_succ_eq_append_getElem hk, List.foldl_append]
  rfl
set_option maxRecDepth 100000 in
set_option maxHeartbeats 8000000 in
theorem rnow_any (w : World) (s p : Sl) (o : Int) (v : DevD) (R : RDv w s p v) (i : Int) :
    Calls Try.prog 59 #[.agg (rdC s p o v.left v.dead), .int .i64 i] w fun e w' => e = .returned (.agg (secC (nowF i v.pend (v.stableAt i)).val)) ∧ Up w w' := by
  have RA := Lib.hid (fun W (hu : Up w W) => rat_any W s p o v (R.up hu) i)
  have B1 := Lib.hid ((Blk.new w 61 (rdC s p o v.left v.dead)).up (up_alloc _ (.cells (secC zeroS) 34)))
  have z1 := Blk.new (w.alloc (.cells (rdC s p o v.left v.dead) 61)) 34 (secC zeroS)
  rw [sz_alloc] at z1
  have Z1 := Lib.hid z1
  have U1 := Lib.hid ((up_alloc w (.cells (rdC s p o v.left v.dead) 61)).trans (up_alloc _ (.cells (secC zeroS) 34)))
  have PE := Lib.hid R.pe
  have pn := R.pn
  have hm := R.pmax
  obtain ⟨pa, n, pc⟩ := p
  dsimp only at pn
  subst pn
  clear z1 R
  have TH1 := Lib.hid (RA.out _ U1.out)
  generalize v.stableAt i = s0 at *
  generalize v.left = vl at *
  generalize v.dead = vd at *
  generalize v.pend = ws at *
  clear RA
  go_enter Try.func59, Try.ntmps59
  go_wp2_with (first
    | ((with_reducible refine wg_alloc 34 ?_); refine wpList_alloc_blk rfl 34 rfl (secC zeroS) zero_sec ?_)
    | ((with_reducible refine wg_load 61 (.tmp 2) ?_); refine wpList_load_blkG rfl 61 (.tmp 2) rfl w.heap.size rfl 61 _ B1.out _ Try.underlying61 rfl (info_rd _ _ _ _ _) ?_))
  refine TH1.out.mono ?_
  rintro e w2 ⟨rfl, U2⟩
  have UX := U2.trans (up_alloc w2 (.cells (secC s0.val) 34))
  have B2 := Lib.hid (B1.out.up UX)
  have Z2 := Lib.hid (Z1.out.up UX)
  have UU := Lib.hid (U1.out.trans UX)
  have BX := Lib.hid (Blk.new w2 34 (secC s0.val))
  obtain ⟨_, c1, _, _, _⟩ := rd_at B2.out
  dsimp only at c1
  have GE := Lib.hid (show w.heap.size + 1 < w2.heap.size from (Z1.out.up U2).lt)
  clear TH1 U2 B1 Z1 U1 UX
  go_wp2_with (first
    | ((with_reducible refine wg_alloc 34 ?_); refine wpList_alloc_blk rfl 34 rfl (secC zeroS) zero_sec ?_)
    | ((with_reducible refine wg_store 34 (.tmp 5) (.tmp 10) ?_); refine ws_new w2 rfl 34 (.tmp 5) (.tmp 10) rfl (secC s0.val) 34 (secC zeroS) rfl rfl rfl (info_secW s0) (secZ s0) (secC_one _) ?_))
  go_loopw [14] (fun i2 wr => ∃ k : Nat, k ≤ ws.length ∧ i2 = .int .i64 k ∧ Blk wr w2.heap.size 34 (secC (nowF i (ws.take k) s0).val) ∧ Blk wr (w.heap.size + 1) 34 (secC zeroS) ∧ Up w wr) (fun i2 _ => ws.length - (intOf i2).toNat)
  case atStart => exact ⟨0, Nat.zero_le _, rfl, BX.out, Z2.out, UU.out⟩
  case round =>
    obtain ⟨k, hk, rfl, bx, bz, upr⟩ := hrel
    have BXR := Lib.hid bx
    have BZR := Lib.hid bz
    have UPR := Lib.hid upr
    clear bx bz upr BX Z2 UU
    by_cases hlt : k < ws.length
    · have b3 : ((k : Int) < (ws.length : Int)) = True := by simp; omega
      obtain ⟨g, off, rfl, _, rg⟩ := wrsR_at (PE.out.up UPR.out) (by omega)
      have RG := Lib.hid (rg k hlt)
      have SN := Lib.hid (nowF_snoc i ws s0 k hlt)
      clear rg
      generalize ws[k] = x at *
      generalize nowF i (ws.take k) s0 = y at *
      have UA := up_alloc wr (.cells (wrC x) 121)
      have X5 := Lib.hid (wr_parts (Blk.new wr 121 (wrC x)))
      have x0 := wr_ix x
      have BX5 := Lib.hid (BXR.out.up UA)
      have BZ5 := Lib.hid (BZR.out.up UA)
      have U5 := Lib.hid (UPR.out.trans UA)
      clear UA BXR BZR UPR
      by_cases he : (x.loc : Int) = i
      · have bq : ((x.loc : Int) == i) = true := by simp [he]
        rw [if_pos he] at SN
        clear he
        go_wp2_with (first
          | ((with_reducible refine wg_load 121 (.tmp 16) ?_); refine wl_part rfl 121 (.tmp 16) rfl g (off + k * 129) rfl (wrC x) RG.out _ Try.underlying121 rfl (info_rw x) ?_)
          | ((with_reducible refine wg_alloc 121 ?_); refine wpList_alloc_blk rfl 121 rfl (wrC zWr) zero_rw ?_)
          | ((with_reducible refine wg_store 121 (.tmp 7) (.tmp 17) ?_); refine ws_new wr rfl 121 (.tmp 7) (.tmp 17) rfl (wrC x) 121 (wrC zWr) rfl rfl rfl (info_rw x) (info_wrZ x) (wrC_one x) ?_)
          | ((with_reducible refine wg_load 34 (.tmp 22) ?_); refine wl_part rfl 34 (.tmp 22) rfl wr.heap.size 1 rfl (secC x.s.val) X5.out.2 _ Try.underlying34 rfl (info_secW x.s) ?_)
          | ((with_reducible refine wg_store 34 (.tmp 5) (.tmp 23) ?_); refine wpList_store_blk rfl 34 (.tmp 5) (.tmp 23) rfl w2.heap.size (secC x.s.val) rfl rfl 34 _ BX5.out (info_secW x.s) (by rw [secC_size, secC_size, y.property, x.s.property]) (secC_one _) ?_))
        intro w6 b6 g6
        have Z6 := Lib.hid (BZ5.out.grown g6 (by simp; have := GE.out; omega))
        have U6 := Lib.hid (Up.grown U5.out g6 (fun j hj => by cases hj; have := GE.out; omega))
        have B6 := Lib.hid b6
        clear b6 g6
        go_wp2_with fail
        go_roundw
        case rel => exact ⟨k + 1, by omega, by go_num, by rw [SN.out]; exact B6.out, Z6.out, U6.out⟩
        case measure => simp [intOf]; omega
      · have bq : ((x.loc : Int) == i) = false := by simp [he]
        rw [if_neg he] at SN
        clear he
        go_wp2_with (first
          | ((with_reducible refine wg_load 121 (.tmp 16) ?_); refine wl_part rfl 121 (.tmp 16) rfl g (off + k * 129) rfl (wrC x) RG.out _ Try.underlying121 rfl (info_rw x) ?_)
          | ((with_reducible refine wg_alloc 121 ?_); refine wpList_alloc_blk rfl 121 rfl (wrC zWr) zero_rw ?_)
          | ((with_reducible refine wg_store 121 (.tmp 7) (.tmp 17) ?_); refine ws_new wr rfl 121 (.tmp 7) (.tmp 17) rfl (wrC x) 121 (wrC zWr) rfl rfl rfl (info_rw x) (info_wrZ x) (wrC_one x) ?_))
        go_roundw
        case rel => exact ⟨k + 1, by omega, by go_num, by rw [SN.out]; exact BX5.out, BZ5.out, U5.out⟩
        case measure => simp [intOf]; omega
    · obtain rfl : k = ws.length := by omega
      have b3 : ((ws.length : Int) < (ws.length : Int)) = False := by simp
      rw [List.take_of_length_le (Nat.le_refl _)] at BXR
      obtain ⟨y, hy⟩ : ∃ y, y = nowF i ws s0 := ⟨_, rfl⟩
      rw [← hy] at BXR
      have HY := Lib.hid hy
      clear hy
      go_wp2_with (first
        | ((with_reducible refine wg_load 34 (.tmp 5) ?_); refine wpList_load_blkG rfl 34 (.tmp 5) rfl w2.heap.size rfl 34 _ BXR.out _ Try.underlying34 rfl (info_secW y) ?_)
        | ((with_reducible refine wg_store 34 (.tmp 4) (.tmp 25) ?_); refine wpList_store_blk rfl 34 (.tmp 4) (.tmp 25) rfl (w.heap.size + 1) (secC y.val) rfl rfl 34 _ BZR.out (info_secW y) (secZ y) (secC_one _) ?_))
      intro w9 b9 g9
      have U9 := Up.grown UPR.out g9 (fun k hk => by cases hk; exact Nat.le_succ _)
      go_wp2_with fail
      (try simp only [Exit.inBlock, Exit.then])
      exact bodyPost_ret (v := .agg (secC y.val)) (results_one rfl _ _ _ (w.heap.size + 1) 34 _ rfl b9 _ Try.underlying34 rfl (info_secW y)) rfl ⟨by rw [HY.out], U9⟩
def appR (all : Bool) (ks : List Bool) (ws : List WrD) : List WrD := if all = true then ws else keepW ks 0 ws
theorem app_step (all : Bool) (ks : List Bool) (l : List Sec) (ws : List WrD) (k : Nat) (hk : k < ws.length) :
    applyW l (appR all ks (ws.take (k + 1))) = if all || ks.getD k false then (applyW l (appR all ks (ws.take k))).set ws[k].loc ws[k].s else applyW l (appR all ks (ws.take k)) := by
  cases all
  · simp only [appR, Bool.false_eq_true, if_false, Bool.false_or]
    rw [keepW_snoc ks ws k hk]
    by_cases h : ks.getD k false = true
    · rw [if_pos h, if_pos h]
      unfold applyW
      rw [List.foldl_append]
      rfl
    · rw [if_neg h, if_neg h, List.append_nil]
  · simp only [appR, if_true, Bool.true_or]
    exact applyW_snoc l ws k hk
theorem app_zero (all : Bool) (ks : List Bool) (l : List Sec) (ws : List WrD) : applyW l (appR all ks (ws.take 0)) = l := by
  cases all <;> rfl
theorem own_row_set {α : Type} {f : α → List Value} {k : Nat} {e : TypeId} (hw : Wide f k) {w : World} {base : Nat} {v : Value} {l : List α} (h : OwnRow f k e w base v l) (i : Nat) (hi : i < l.length) :
    ∃ g cap cur, v = .slice (some ⟨g, 0, none⟩) l.length cap ∧ base ≤ g ∧ Blk w g e cur ∧ i * k + k ≤ cur.size ∧ ∀ w' x, Blk w' g e (splice cur.toList (i * k) (f x)).toArray → OwnRow f k e w' base v (l.set i x) := by
  obtain ⟨h1, h2⟩ := h
  rcases h2 with ⟨_, h2⟩ | ⟨g, cap, cur, hv, hb, hg, hc, hm, hsz, ht⟩
  · omega
  · have hcl : cur.toList.length = cap * k := by simpa using hsz
    have hlc : l.length * k ≤ cap * k := Nat.mul_le_mul_right _ hc
    have hfit : i * k + k ≤ l.length * k := by
      have := Nat.mul_le_mul_right k (show i + 1 ≤ l.length from hi)
      rw [Nat.add_mul, Nat.one_mul] at this
      exact this
    refine ⟨g, cap, cur, hv, hb, hg, by omega, fun w' x hb' => ⟨?_, .inr ⟨g, cap, _, ?_, hb, hb', ?_, hm, ?_, ?_⟩⟩⟩
    · rw [hw.flat]
    · rw [List.length_set, hv]
    · rw [List.length_set]; exact hc
    · rw [List.size_toArray, splice_length (by rw [hw.len, hcl]; omega)]; exact hcl
    · rw [List.length_set]
      show (splice cur.toList (i * k) (f x)).take (l.length * k) = _
      rw [splice_take (by rw [hw.len]; exact hfit) (by rw [hcl]; exact hlc), ht, wide_set hw l i hi x]
set_option maxRecDepth 100000 in
set_option maxHeartbeats 8000000 in
theorem apply_any (w : World) (s p : Sl) (o : Int) (v : DevD) (R : RDv w s p v) (all : Bool) (vk : Value) (ks : List Bool) (hk : IsOnes boolCell w vk ks) :
    Calls Try.prog 57 #[.agg (rdC s p o v.left v.dead), .bool all, vk] w fun e w' => ∃ s', e = .returned (.agg (rdC s' nilS o v.left v.dead)) ∧ IsRow scells w' s'.v (applyW v.stable (appR all ks v.pend)) ∧ Up w w' ∧ (∀ b, s'.v.ownBlock = some b → w.heap.size ≤ b ∧ b < w'.heap.size) ∧ s'.n = v.stable.length := by
  have B1 := Lib.hid ((Blk.new w 61 (rdC s p o v.left v.dead)).up (up_alloc _ (.cells (rdC nilS nilS 0 0 false) 61)))
  have z1 := Blk.new (w.alloc (.cells (rdC s p o v.left v.dead) 61)) 61 (rdC nilS nilS 0 0 false)
  rw [sz_alloc] at z1
  have Z1 := Lib.hid z1
  have U1 := Lib.hid ((up_alloc w (.cells (rdC s p o v.left v.dead) 61)).trans (up_alloc _ (.cells (rdC nilS nilS 0 0 false) 61)))
  clear z1
  have kl := hk.length_le
  obtain ⟨ka, kc, rfl⟩ := hk.slice
  have HK := Lib.hid hk
  have ST := Lib.hid (R.st.up U1.out)
  have PE := Lib.hid R.pe
  have sn := R.sn
  have hm := R.max
  have pn := R.pn
  have hpm := R.pmax
  have LOC := Lib.hid R.locs
  obtain ⟨sa, sl, sc⟩ := s
  obtain ⟨pa, pl, pc⟩ := p
  dsimp only at sn pn
  subst sn pn
  clear R hk
  obtain ⟨i0, i1, i2, i3, i4⟩ := rd_ix ⟨sa, v.stable.length, sc⟩ ⟨pa, v.pend.length, pc⟩ o v.left v.dead
  dsimp only at i0 i1
  generalize v.left = vl at *
  generalize v.dead = vd at *
  generalize v.pend = ws at *
  generalize v.stable = ss at *
  have ST := Lib.hid (show IsRow scells ((w.alloc (.cells (rdC ⟨sa, ss.length, sc⟩ ⟨pa, ws.length, pc⟩ o vl vd) 61)).alloc (.cells (rdC nilS nilS 0 0 false) 61)) (.slice sa ss.length sc) ss from ST.out)
  clear i2 i3 i4
  go_enter Try.func57, Try.ntmps57
  go_wp2_with (first
    | ((with_reducible refine wg_alloc 61 ?_); refine wpList_alloc_blk rfl 61 rfl (rdC nilS nilS 0 0 false) zero_rd ?_)
    | (at_builtin; refine wpList_fresh_row sw rfl (.tmp 10) (.tmp 12) 58 rfl 34 (.agg (secC zeroS)) 128 Try.underlying58 info_rs3 (by show (secC zeroS).size = 128; rfl) (w.heap.size + 1 + 1) (by rw [sz_alloc, sz_alloc]) rfl _ ss rfl ST.out (by omega) ?_))
  intro v7 w7 own7 U7
  have B7 := Lib.hid (B1.out.up U7)
  have Z7 := Lib.hid (Z1.out.up U7)
  have UU := Lib.hid (U1.out.trans U7)
  have OW := Lib.hid own7
  obtain ⟨_, c1, _, _, _⟩ := rd_at B7.out
  dsimp only at c1
  clear i0 i1 ST own7 U7 B1 Z1 U1
  go_wp2_with fail
  clear c1
  go_loopw [17] (fun i2 wr => ∃ k : Nat, k ≤ ws.length ∧ i2 = .int .i64 k ∧ OwnRow scells 128 34 wr (w.heap.size + 1 + 1) v7 (applyW ss (appR all ks (ws.take k))) ∧ Blk wr w.heap.size 61 (rdC ⟨sa, ss.length, sc⟩ ⟨pa, ws.length, pc⟩ o vl vd) ∧ Blk wr (w.heap.size + 1) 61 (rdC nilS nilS 0 0 false) ∧ Up w wr) (fun i2 _ => ws.length - (intOf i2).toNat)
  case atStart => exact ⟨0, Nat.zero_le _, rfl, by rw [app_zero]; exact OW.out, B7.out, Z7.out, UU.out⟩
  case round =>
    obtain ⟨k, hk, rfl, ow, bb, bz, upr⟩ := hrel
    have OWR := Lib.hid ow
    have BBR := Lib.hid bb
    have BZR := Lib.hid bz
    have UPR := Lib.hid upr
    clear ow bb bz upr OW B7 Z7 UU
    have AL := Lib.hid (show (applyW ss (appR all ks (ws.take k))).length = ss.length from applyW_length _ _)
    by_cases hlt : k < ws.length
    · have b3 : ((k : Int) < (ws.length : Int)) = True := by simp; omega
      obtain ⟨g, off, rfl, _, rg⟩ := wrsR_at (PE.out.up UPR.out) (by omega)
      have RG := Lib.hid (rg k hlt)
      have SN := Lib.hid (app_step all ks ss ws k hlt)
      have LX := Lib.hid (LOC.out _ (List.getElem_mem hlt))
      clear rg
      generalize ws[k] = x at *
      generalize applyW ss (appR all ks (ws.take k)) = cu at *
      have UA := up_alloc wr (.cells (wrC x) 121)
      have X5 := Lib.hid (wr_parts (Blk.new wr 121 (wrC x)))
      have x0 := wr_ix x
      have OW5 := Lib.hid (OWR.out.up UA)
      have BB5 := Lib.hid (BBR.out.up UA)
      have BZ5 := Lib.hid (BZR.out.up UA)
      have U5 := Lib.hid (UPR.out.trans UA)
      have HK5 := Lib.hid (HK.out.up U5.out)
      clear UA OWR BBR BZR UPR
      have hxl : x.loc < cu.length := by rw [AL.out]; exact LX.out
      obtain ⟨rg, rcap, cur, rfl, hge, bq, hfit, hset⟩ := own_row_set sw OW5.out x.loc hxl
      have b4 : ((x.loc : Int) < (cu.length : Int)) = True := by simp; omega
      have GB := Lib.hid hge
      have BQ := Lib.hid bq
      have FT := Lib.hid (show x.loc * 128 + (secC x.s.val).size ≤ cur.size by rw [secV_size]; exact hfit)
      have SET := Lib.hid (fun w' hb => hset w' x.s hb)
      clear hge bq hfit hset hxl
      cases all
      · by_cases hkk : k < ks.length
        · have b5 : ((k : Int) < (ks.length : Int)) = True := by simp; omega
          obtain ⟨kb, ko, rfl, _, hkc⟩ := get_of_ones HK5.out rfl (by omega)
          have hc := hkc k hkk
          unfold boolCell at hc
          have KD := Lib.hid (show ks.getD k false = ks[k] by rw [List.getD_eq_getElem?_getD, List.getElem?_eq_getElem hkk]; rfl)
          rw [KD.out] at SN
          clear hkc
          generalize ks[k] = kv at *
          cases kv
          · go_wp2_with (first
              | ((with_reducible refine wg_load 121 (.tmp 20) ?_); refine wl_part rfl 121 (.tmp 20) rfl g (off + k * 129) rfl (wrC x) RG.out _ Try.underlying121 rfl (info_rw x) ?_)
              | ((with_reducible refine wg_alloc 121 ?_); refine wpList_alloc_blk rfl 121 rfl (wrC zWr) zero_rw ?_)
              | ((with_reducible refine wg_store 121 (.tmp 9) (.tmp 21) ?_); refine ws_new wr rfl 121 (.tmp 9) (.tmp 21) rfl (wrC x) 121 (wrC zWr) rfl rfl rfl (info_rw x) (info_wrZ x) (wrC_one x) ?_))
            go_roundw
            case rel => exact ⟨k + 1, by omega, by go_num, by rw [SN.out]; exact OW5.out, BB5.out, BZ5.out, U5.out⟩
            case measure => simp [intOf]; omega
          · go_wp2_with (first
              | ((with_reducible refine wg_load 121 (.tmp 20) ?_); refine wl_part rfl 121 (.tmp 20) rfl g (off + k * 129) rfl (wrC x) RG.out _ Try.underlying121 rfl (info_rw x) ?_)
              | ((with_reducible refine wg_alloc 121 ?_); refine wpList_alloc_blk rfl 121 rfl (wrC zWr) zero_rw ?_)
              | ((with_reducible refine wg_store 121 (.tmp 9) (.tmp 21) ?_); refine ws_new wr rfl 121 (.tmp 9) (.tmp 21) rfl (wrC x) 121 (wrC zWr) rfl rfl rfl (info_rw x) (info_wrZ x) (wrC_one x) ?_)
              | ((with_reducible refine wg_load 34 (.tmp 38) ?_); refine wl_part rfl 34 (.tmp 38) rfl wr.heap.size 1 rfl (secC x.s.val) X5.out.2 _ Try.underlying34 rfl (info_secW x.s) ?_)
              | ((with_reducible refine wg_store 34 (.tmp 40) (.tmp 39) ?_); refine wpList_store_part rfl 34 (.tmp 40) (.tmp 39) rfl rg (x.loc * 128) (secC x.s.val) rfl rfl 34 _ BQ.out (info_secW x.s) FT.out (secC_one _) ?_))
            intro w6 b6 g6
            rw [secC_scells] at b6
            have OW6 := Lib.hid (SET.out w6 b6)
            have BB6 := Lib.hid (BB5.out.grown g6 (by simp; have := GB.out; omega))
            have BZ6 := Lib.hid (BZ5.out.grown g6 (by simp; have := GB.out; omega))
            have U6 := Lib.hid (Up.grown U5.out g6 (fun j hj => by cases hj; have := GB.out; omega))
            clear b6 g6
            go_wp2_with fail
            go_roundw
            case rel => exact ⟨k + 1, by omega, by go_num, by rw [SN.out]; exact OW6.out, BB6.out, BZ6.out, U6.out⟩
            case measure => simp [intOf]; omega
        · have b5 : ((k : Int) < (ks.length : Int)) = False := by simp; omega
          have KD : ks.getD k false = false := by rw [List.getD_eq_getElem?_getD, List.getElem?_eq_none (by omega)]; rfl
          rw [KD] at SN
          clear KD
          go_wp2_with (first
            | ((with_reducible refine wg_load 121 (.tmp 20) ?_); refine wl_part rfl 121 (.tmp 20) rfl g (off + k * 129) rfl (wrC x) RG.out _ Try.underlying121 rfl (info_rw x) ?_)
            | ((with_reducible refine wg_alloc 121 ?_); refine wpList_alloc_blk rfl 121 rfl (wrC zWr) zero_rw ?_)
            | ((with_reducible refine wg_store 121 (.tmp 9) (.tmp 21) ?_); refine ws_new wr rfl 121 (.tmp 9) (.tmp 21) rfl (wrC x) 121 (wrC zWr) rfl rfl rfl (info_rw x) (info_wrZ x) (wrC_one x) ?_))
          go_roundw
          case rel => exact ⟨k + 1, by omega, by go_num, by rw [SN.out]; exact OW5.out, BB5.out, BZ5.out, U5.out⟩
          case measure => simp [intOf]; omega
      · go_wp2_with (first
          | ((with_reducible refine wg_load 121 (.tmp 20) ?_); refine wl_part rfl 121 (.tmp 20) rfl g (off + k * 129) rfl (wrC x) RG.out _ Try.underlying121 rfl (info_rw x) ?_)
          | ((with_reducible refine wg_alloc 121 ?_); refine wpList_alloc_blk rfl 121 rfl (wrC zWr) zero_rw ?_)
          | ((with_reducible refine wg_store 121 (.tmp 9) (.tmp 21) ?_); refine ws_new wr rfl 121 (.tmp 9) (.tmp 21) rfl (wrC x) 121 (wrC zWr) rfl rfl rfl (info_rw x) (info_wrZ x) (wrC_one x) ?_)
          | ((with_reducible refine wg_load 34 (.tmp 38) ?_); refine wl_part rfl 34 (.tmp 38) rfl wr.heap.size 1 rfl (secC x.s.val) X5.out.2 _ Try.underlying34 rfl (info_secW x.s) ?_)
          | ((with_reducible refine wg_store 34 (.tmp 40) (.tmp 39) ?_); refine wpList_store_part rfl 34 (.tmp 40) (.tmp 39) rfl rg (x.loc * 128) (secC x.s.val) rfl rfl 34 _ BQ.out (info_secW x.s) FT.out (secC_one _) ?_))
        intro w6 b6 g6
        rw [secC_scells] at b6
        have OW6 := Lib.hid (SET.out w6 b6)
        have BB6 := Lib.hid (BB5.out.grown g6 (by simp; have := GB.out; omega))
        have BZ6 := Lib.hid (BZ5.out.grown g6 (by simp; have := GB.out; omega))
        have U6 := Lib.hid (Up.grown U5.out g6 (fun j hj => by cases hj; have := GB.out; omega))
        clear b6 g6
        go_wp2_with fail
        go_roundw
        case rel => exact ⟨k + 1, by omega, by go_num, by rw [SN.out]; exact OW6.out, BB6.out, BZ6.out, U6.out⟩
        case measure => simp [intOf]; omega
    · obtain rfl : k = ws.length := by omega
      have b3 : ((ws.length : Int) < (ws.length : Int)) = False := by simp
      rw [List.take_of_length_le (Nat.le_refl _)] at OWR AL
      obtain ⟨qa, qc, rfl⟩ := (OWR.out.row sw).slice
      rw [AL.out] at OWR ⊢
      go_wp2_with (first
        | ((with_reducible refine wg_store 58 (.tmp 43) (.tmp 42) ?_); refine wl_setf rfl 58 (.tmp 43) (.tmp 42) rfl w.heap.size 0 rfl (.slice qa ss.length qc) rfl rfl rfl 61 _ BBR.out (by show 0 < 5; decide) (fun W => by kernel_rfl) ?_))
      intro w5 b5 g5
      have B5 := Lib.hid (show Blk w5 w.heap.size 61 (rdC ⟨qa, ss.length, qc⟩ ⟨pa, ws.length, pc⟩ o vl vd) from b5)
      have Z5 := Lib.hid (BZR.out.grown g5 (by simp))
      have U5 := Lib.hid (Up.grown UPR.out g5 (fun k hk => by cases hk; exact Nat.le_refl _))
      have O5 := Lib.hid (OWR.out.kept g5 (.inr (fun hh => by have := (OWR.out.block_lt _ hh).1; omega)))
      clear b5 g5
      go_wp2_with (first
        | ((with_reducible refine wg_store 59 (.tmp 44) (.const (.slice none 0 0)) ?_); refine wl_setf rfl 59 (.tmp 44) (.const (.slice none 0 0)) rfl w.heap.size 1 rfl (.slice none 0 0) rfl rfl rfl 61 _ B5.out (by show 1 < 5; decide) (fun W => by kernel_rfl) ?_))
      intro w6 b6 g6
      have B6 := Lib.hid (show Blk w6 w.heap.size 61 (rdC ⟨qa, ss.length, qc⟩ nilS o vl vd) from b6)
      have Z6 := Lib.hid (Z5.out.grown g6 (by simp))
      have U6 := Lib.hid (Up.grown U5.out g6 (fun k hk => by cases hk; exact Nat.le_refl _))
      have O6 := Lib.hid (O5.out.kept g6 (.inr (fun hh => by have := (O5.out.block_lt _ hh).1; omega)))
      clear b6 g6
      go_wp2_with (first
        | ((with_reducible refine wg_load 61 (.tmp 3) ?_); refine wpList_load_blkG rfl 61 (.tmp 3) rfl w.heap.size rfl 61 _ B6.out _ Try.underlying61 rfl (info_rd _ _ _ _ _) ?_)
        | ((with_reducible refine wg_store 61 (.tmp 6) (.tmp 45) ?_); refine wpList_store_blk rfl 61 (.tmp 6) (.tmp 45) rfl (w.heap.size + 1) (rdC ⟨qa, ss.length, qc⟩ nilS o vl vd) rfl rfl 61 _ Z6.out (info_rd _ _ _ _ _) rfl (rdC_one _ _ _ _ _) ?_))
      intro w9 b9 g9
      have U9 := Up.grown U6.out g9 (fun k hk => by cases hk; exact Nat.le_succ _)
      have O9 := O6.out.kept g9 (.inr (fun hh => by have := (O6.out.block_lt _ hh).1; omega))
      go_wp2_with fail
      (try simp only [Exit.inBlock, Exit.then])
      refine bodyPost_ret (v := .agg (rdC ⟨qa, ss.length, qc⟩ nilS o vl vd)) (results_one rfl _ _ _ (w.heap.size + 1) 61 _ rfl b9 _ Try.underlying61 rfl (info_rd _ _ _ _ _)) rfl ⟨⟨qa, ss.length, qc⟩, rfl, ?_, U9, fun b hb => ?_, rfl⟩
      · have := O9.row sw
        exact this
      · have := O9.block_lt b hb
        omega
theorem RDv.same {w : World} {s p : Sl} {v : DevD} (R : RDv w s p v) (v' : DevD) (h1 : v'.stable = v.stable) (h2 : v'.pend = v.pend) (h3 : -1 ≤ v'.left ∧ v'.left ≤ 9223372036854775807) : RDv w s p v' :=
  ⟨by rw [h1]; exact R.st, by rw [h2]; exact R.pe, by rw [h1]; exact R.max, by rw [h2]; exact R.pmax, by rw [h1, h2]; exact R.locs, h3, by rw [h1]; exact R.sn, by rw [h2]; exact R.pn, R.sb, R.pb⟩
theorem counted_spent (v : DevD) : v.counted.spent.stable = v.stable ∧ v.counted.spent.pend = v.pend ∧ v.counted.spent.left = v.spent.left ∧ v.counted.spent.dead = v.spent.dead := by
  unfold DevD.spent DevD.counted
  simp only
  split <;> exact ⟨rfl, rfl, rfl, rfl⟩
theorem spent_left {v : DevD} (h : -1 ≤ v.left ∧ v.left ≤ 9223372036854775807) : -1 ≤ v.spent.left ∧ v.spent.left ≤ 9223372036854775807 := by
  unfold DevD.spent
  split
  · exact h
  · show -1 ≤ (if 0 < v.left then v.left - 1 else v.left) ∧ (if 0 < v.left then v.left - 1 else v.left) ≤ _
    split <;> omega
theorem isNilB (w : World) : IsOnes boolCell w (.slice none 0 0) [] := IsOnes.nil _ _
theorem row_apart {α : Type} {f : α → List Value} {w w' : World} {v : Value} {l : List α} {g n : Nat} (h : IsRow f w v l) (hg : w.grownBy w' (some g)) (ho : ∀ b, v.ownBlock = some b → n ≤ b) (hn : g < n) : IsRow f w' v l :=
  h.touch (Touch.of_grown (F := fun b => b = g) hg (fun k hk => by cases hk; rfl)) (fun b hb hh => by have := ho b hb; omega)
/-- A device whose writes are stable, or forgotten. -/
theorem RDv.applied {w' : World} {s' : Sl} {l : List Sec} {v' : DevD} (h : IsRow scells w' s'.v l) (hs : v'.stable = l) (hm : l.length ≤ 1024) (hp : v'.pend = []) (hl : -1 ≤ v'.left ∧ v'.left ≤ 9223372036854775807) (hn : s'.n = l.length) (hb : ∀ b, s'.v.ownBlock = some b → b < w'.heap.size) : RDv w' s' nilS v' :=
  ⟨by rw [hs]; exact h, by rw [hp]; exact IsRow.nil _ _, by rw [hs]; exact hm, by rw [hp]; simp, by rw [hp]; simp, hl, by rw [hs]; exact hn, by rw [hp]; rfl, hb, fun b hb => by simp [nilS, Sl.v, Value.ownBlock] at hb⟩
set_option maxRecDepth 100000 in
set_option maxHeartbeats 8000000 in
theorem rflush_any (w : World) (s p : Sl) (o : Int) (v : DevD) (R : RDv w s p v) :
    Calls Try.prog 55 #[.agg (rdC s p o v.left v.dead)] w fun e w' => RPostE w s p v.flushed (.int .i64 v.flushE) e w' := by
  have B1 := Lib.hid ((Blk.new w 61 (rdC s p o v.left v.dead)).up (up_alloc _ (.cells (rdC nilS nilS 0 0 false) 61)))
  have z1 := Blk.new (w.alloc (.cells (rdC s p o v.left v.dead) 61)) 61 (rdC nilS nilS 0 0 false)
  rw [sz_alloc] at z1
  have Z1 := Lib.hid z1
  have U1 := Lib.hid ((up_alloc w (.cells (rdC s p o v.left v.dead) 61)).trans (up_alloc _ (.cells (rdC nilS nilS 0 0 false) 61)))
  clear z1
  have HR := Lib.hid R
  have FL := Lib.hid (show v.flushed = if v.powerB = true then { v.counted.spent with stable := applyW v.stable v.pend, pend := [] } else v.counted.spent from rfl)
  have FE := Lib.hid (show v.flushE = if v.powerB = true then 0 else 42 from rfl)
  have SS := Lib.hid (spent_same v)
  have CS := Lib.hid (counted_spent v)
  have SL := Lib.hid (spent_left R.left)
  obtain ⟨_, _, i2, _, _⟩ := rd_ix s p o v.left v.dead
  obtain ⟨o2, wo2⟩ : ∃ o2, wrap64 (o + 1) = o2 := ⟨_, rfl⟩
  have wo : IntKind.i64.wrap (o + 1) = o2 := (IntWalk.i64_left _).trans wo2
  clear R
  go_enter Try.func55, Try.ntmps55
  go_wp2_with (first
    | ((with_reducible refine wg_alloc 61 ?_); refine wpList_alloc_blk rfl 61 rfl (rdC nilS nilS 0 0 false) zero_rd ?_)
    | ((with_reducible refine wg_store 3 (.tmp 8) (.tmp 7) ?_); refine wl_setf rfl 3 (.tmp 8) (.tmp 7) rfl w.heap.size 2 rfl (.int .i64 o2) rfl rfl rfl 61 _ B1.out (by show 2 < 5; decide) (fun W => by kernel_rfl) ?_))
  intro w3 b3 g3
  have B3 := Lib.hid (show Blk w3 w.heap.size 61 (rdC s p o2 v.left v.dead) from b3)
  have Z3 := Lib.hid (Z1.out.grown g3 (by simp))
  have U3 := Lib.hid (Up.grown U1.out g3 (fun k hk => by cases hk; exact Nat.le_refl _))
  have PW := Lib.hid (power_any w3 s p o2 v (HR.out.up U3.out))
  clear b3 g3 B1 Z1 U1 i2 wo wo2
  go_wp2_with (first
    | ((with_reducible refine wg_load 61 (.tmp 1) ?_); refine wpList_load_blkG rfl 61 (.tmp 1) rfl w.heap.size rfl 61 _ B3.out _ Try.underlying61 rfl (info_rd _ _ _ _ _) ?_))
  refine PW.out.mono ?_
  rintro e w4 ⟨rfl, U4⟩
  have B4 := Lib.hid (B3.out.up U4)
  have Z4 := Lib.hid (Z3.out.up U4)
  have U34 := Lib.hid (U3.out.trans U4)
  clear PW U4 B3 Z3 U3
  go_wp2_with (first
    | ((with_reducible refine wg_store 61 (.tmp 1) (.tmp 12) ?_); refine wpList_store_blk rfl 61 (.tmp 1) (.tmp 12) rfl w.heap.size (rdC s p o2 v.spent.left v.spent.dead) rfl rfl 61 _ B4.out (info_rd _ _ _ _ _) rfl (rdC_one _ _ _ _ _) ?_))
  intro w5 b5 g5
  have B5 := Lib.hid b5
  have Z5 := Lib.hid (Z4.out.grown g5 (by simp))
  have U5 := Lib.hid (Up.grown U34.out g5 (fun k hk => by cases hk; exact Nat.le_refl _))
  clear b5 g5 B4 Z4 U34
  cases hp : v.powerB
  · have FV := Lib.hid (show v.flushed = v.counted.spent by rw [FL.out, hp]; rfl)
    have EV := Lib.hid (show v.flushE = 42 by rw [FE.out, hp]; rfl)
    clear hp
    go_wp2_with (first
      | ((with_reducible refine wg_load 61 (.tmp 1) ?_); refine wpList_load_blkG rfl 61 (.tmp 1) rfl w.heap.size rfl 61 _ B5.out _ Try.underlying61 rfl (info_rd _ _ _ _ _) ?_)
      | ((with_reducible refine wg_store 61 (.tmp 2) (.tmp 16) ?_); refine wpList_store_blk rfl 61 (.tmp 2) (.tmp 16) rfl (w.heap.size + 1) (rdC s p o2 v.spent.left v.spent.dead) rfl rfl 61 _ Z5.out (info_rd _ _ _ _ _) rfl (rdC_one _ _ _ _ _) ?_))
    intro w9 b9 g9
    have U9 := Up.grown U5.out g9 (fun k hk => by cases hk; omega)
    go_wp2_with fail
    (try simp only [Exit.inBlock, Exit.then])
    refine bodyPost_ret (v := .tuple #[.agg (rdC s p o2 v.spent.left v.spent.dead), .int .i64 42]) (results_blk rfl _ _ _ (w.heap.size + 1) 61 _ _ rfl rfl b9 _ Try.underlying61 rfl (info_rd _ _ _ _ _)) rfl ?_
    exact ⟨s, p, o2, by rw [FV.out, EV.out, CS.out.2.2.1, CS.out.2.2.2], by rw [FV.out]; exact (HR.out.up U9).same _ CS.out.1 CS.out.2.1 (by rw [CS.out.2.2.1]; exact SL.out), U9, Kept.refl _ _ _⟩
  · have FV := Lib.hid (show v.flushed = { v.counted.spent with stable := applyW v.stable v.pend, pend := [] } by rw [FL.out, hp]; rfl)
    have EV := Lib.hid (show v.flushE = 0 by rw [FE.out, hp]; rfl)
    have AP := apply_any w5 s p o2 v.spent ((HR.out.up U5.out).same _ SS.out.2.1 SS.out.1 SL.out) true (.slice none 0 0) [] (isNilB _)
    rw [SS.out.1, SS.out.2.1] at AP
    have AP := Lib.hid AP
    have HM := Lib.hid HR.out.max
    clear hp
    go_wp2_with (first
      | ((with_reducible refine wg_load 61 (.tmp 1) ?_); refine wpList_load_blkG rfl 61 (.tmp 1) rfl w.heap.size rfl 61 _ B5.out _ Try.underlying61 rfl (info_rd _ _ _ _ _) ?_))
    refine AP.out.mono ?_
    rintro e w6 ⟨s6, rfl, R6, U6, O6', N6⟩
    have O6 := fun b hb => (O6' b hb).1
    have OL := Lib.hid (fun b hb => (O6' b hb).2)
    clear O6'
    have Z6 := Lib.hid (Z5.out.up U6)
    have U56 := Lib.hid (U5.out.trans U6)
    have R6 := Lib.hid R6
    have LT := Lib.hid (show w.heap.size + 1 < w5.heap.size from Z5.out.lt)
    have N6 := Lib.hid N6
    clear AP U6 B5 Z5
    go_wp2_with (first
      | ((with_reducible refine wg_store 61 (.tmp 2) (.tmp 18) ?_); refine wpList_store_blk rfl 61 (.tmp 2) (.tmp 18) rfl (w.heap.size + 1) (rdC s6 nilS o2 v.spent.left v.spent.dead) rfl rfl 61 _ Z6.out (info_rd _ _ _ _ _) rfl (rdC_one _ _ _ _ _) ?_))
    intro w9 b9 g9
    have U9 := Up.grown U56.out g9 (fun k hk => by cases hk; omega)
    have R9 : IsRow scells w9 s6.v (applyW v.stable v.pend) := row_apart R6.out g9 O6 LT.out
    go_wp2_with fail
    (try simp only [Exit.inBlock, Exit.then])
    refine bodyPost_ret (v := .tuple #[.agg (rdC s6 nilS o2 v.spent.left v.spent.dead), .int .i64 0]) (results_blk rfl _ _ _ (w.heap.size + 1) 61 _ _ rfl rfl b9 _ Try.underlying61 rfl (info_rd _ _ _ _ _)) rfl ?_
    exact ⟨s6, nilS, o2, by rw [FV.out, EV.out, ← CS.out.2.2.1, ← CS.out.2.2.2], by rw [FV.out]; exact RDv.applied R9 rfl (by rw [applyW_length]; exact HM.out) rfl (by show -1 ≤ v.counted.spent.left ∧ v.counted.spent.left ≤ 9223372036854775807; rw [CS.out.2.2.1]; exact SL.out) (by rw [applyW_length]; exact N6.out) (fun b hb => Nat.lt_of_lt_of_le (OL.out b hb) g9.size), U9, fun b hb => .inr (by have h1 := O6 b (hb.resolve_right (by simp [nilS, Sl.v, Value.ownBlock])); have h2 := LT.out; omega)⟩
set_option maxRecDepth 100000 in
set_option maxHeartbeats 8000000 in
theorem rcrash_any (w : World) (s p : Sl) (o : Int) (v : DevD) (R : RDv w s p v) (vk : Value) (ks : List Bool) (hk : IsOnes boolCell w vk ks) :
    Calls Try.prog 28 #[.agg (rdC s p o v.left v.dead), vk] w fun e w' => RPost w s p (v.crashed ks) e w' := by
  have B1 := Lib.hid ((Blk.new w 61 (rdC s p o v.left v.dead)).up (up_alloc _ (.cells (rdC nilS nilS 0 0 false) 61)))
  have z1 := Blk.new (w.alloc (.cells (rdC s p o v.left v.dead) 61)) 61 (rdC nilS nilS 0 0 false)
  rw [sz_alloc] at z1
  have Z1 := Lib.hid z1
  have U1 := Lib.hid ((up_alloc w (.cells (rdC s p o v.left v.dead) 61)).trans (up_alloc _ (.cells (rdC nilS nilS 0 0 false) 61)))
  clear z1
  have AP := apply_any _ s p o v (R.up U1.out) false vk ks (hk.up U1.out)
  have AP := Lib.hid AP
  have HM := Lib.hid R.max
  have CL := Lib.hid (show (v.crashS ks).length = v.stable.length from applyW_length _ _)
  have LT := Lib.hid (show w.heap.size + 1 < ((w.alloc (.cells (rdC s p o v.left v.dead) 61)).alloc (.cells (rdC nilS nilS 0 0 false) 61)).heap.size by rw [sz_alloc, sz_alloc]; omega)
  clear R hk
  go_enter Try.func28, Try.ntmps28
  go_wp2_with (first
    | ((with_reducible refine wg_alloc 61 ?_); refine wpList_alloc_blk rfl 61 rfl (rdC nilS nilS 0 0 false) zero_rd ?_)
    | ((with_reducible refine wg_load 61 (.tmp 2) ?_); refine wpList_load_blkG rfl 61 (.tmp 2) rfl w.heap.size rfl 61 _ B1.out _ Try.underlying61 rfl (info_rd _ _ _ _ _) ?_))
  refine AP.out.mono ?_
  rintro e w6 ⟨s6, rfl, R6, U6, O6', N6⟩
  have O6 := fun b hb => (O6' b hb).1
  have OL := Lib.hid (fun b hb => (O6' b hb).2)
  clear O6'
  have B6 := Lib.hid (B1.out.up U6)
  have Z6 := Lib.hid (Z1.out.up U6)
  have U56 := Lib.hid (U1.out.trans U6)
  have R6 := Lib.hid R6
  have N6 := Lib.hid N6
  have O6 := Lib.hid (fun b hb => Nat.lt_of_lt_of_le LT.out (O6 b hb))
  clear AP U6 B1 Z1 U1 LT
  go_wp2_with (first
    | ((with_reducible refine wg_store 61 (.tmp 2) (.tmp 7) ?_); refine wpList_store_blk rfl 61 (.tmp 2) (.tmp 7) rfl w.heap.size (rdC s6 nilS o v.left v.dead) rfl rfl 61 _ B6.out (info_rd _ _ _ _ _) rfl (rdC_one _ _ _ _ _) ?_))
  intro w7 b7 g7
  have R7 := Lib.hid (row_apart R6.out g7 (n := w.heap.size + 1 + 1) (fun b hb => O6.out b hb) (by omega))
  have Z7 := Lib.hid (Z6.out.grown g7 (by simp))
  have U7 := Lib.hid (Up.grown U56.out g7 (fun k hk => by cases hk; exact Nat.le_refl _))
  have B7 := Lib.hid b7
  have G7 := Lib.hid g7
  clear b7 g7 B6 Z6 U56 R6
  go_wp2_with (first
    | ((with_reducible refine wg_store 3 (.tmp 8) (.const (.int .i64 (-1))) ?_); refine wl_setf rfl 3 (.tmp 8) (.const (.int .i64 (-1))) rfl w.heap.size 3 rfl (.int .i64 (-1)) rfl rfl rfl 61 _ B7.out (by show 3 < 5; decide) (fun W => by kernel_rfl) ?_))
  intro w8 b8 g8
  have R8 := Lib.hid (row_apart R7.out g8 (n := w.heap.size + 1 + 1) (fun b hb => O6.out b hb) (by omega))
  have Z8 := Lib.hid (Z7.out.grown g8 (by simp))
  have U8 := Lib.hid (Up.grown U7.out g8 (fun k hk => by cases hk; exact Nat.le_refl _))
  have B8 := Lib.hid (show Blk w8 w.heap.size 61 (rdC s6 nilS o (-1) v.dead) from b8)
  have G8 := Lib.hid g8
  clear b8 g8 B7 Z7 U7 R7
  go_wp2_with (first
    | ((with_reducible refine wg_store 4 (.tmp 9) (.const (.bool false)) ?_); refine wl_setf rfl 4 (.tmp 9) (.const (.bool false)) rfl w.heap.size 4 rfl (.bool false) rfl rfl rfl 61 _ B8.out (by show 4 < 5; decide) (fun W => by kernel_rfl) ?_))
  intro w5 b5 g5
  have R5 := Lib.hid (row_apart R8.out g5 (n := w.heap.size + 1 + 1) (fun b hb => O6.out b hb) (by omega))
  have Z5 := Lib.hid (Z8.out.grown g5 (by simp))
  have U5 := Lib.hid (Up.grown U8.out g5 (fun k hk => by cases hk; exact Nat.le_refl _))
  have B5 := Lib.hid (show Blk w5 w.heap.size 61 (rdC s6 nilS o (-1) false) from b5)
  have G5 := Lib.hid g5
  clear b5 g5 B8 Z8 U8 R8
  go_wp2_with (first
    | ((with_reducible refine wg_load 61 (.tmp 2) ?_); refine wpList_load_blkG rfl 61 (.tmp 2) rfl w.heap.size rfl 61 _ B5.out _ Try.underlying61 rfl (info_rd _ _ _ _ _) ?_)
    | ((with_reducible refine wg_store 61 (.tmp 4) (.tmp 10) ?_); refine wpList_store_blk rfl 61 (.tmp 4) (.tmp 10) rfl (w.heap.size + 1) (rdC s6 nilS o (-1) false) rfl rfl 61 _ Z5.out (info_rd _ _ _ _ _) rfl (rdC_one _ _ _ _ _) ?_))
  intro w9 b9 g9
  have U9 := Up.grown U5.out g9 (fun k hk => by cases hk; omega)
  have R9 : IsRow scells w9 s6.v (v.crashS ks) := row_apart R5.out g9 (n := w.heap.size + 1 + 1) (fun b hb => O6.out b hb) (by omega)
  go_wp2_with fail
  (try simp only [Exit.inBlock, Exit.then])
  refine bodyPost_ret (v := .agg (rdC s6 nilS o (-1) false)) (results_one rfl _ _ _ (w.heap.size + 1) 61 _ rfl b9 _ Try.underlying61 rfl (info_rd _ _ _ _ _)) rfl ?_
  exact ⟨s6, nilS, o, rfl, RDv.applied R9 rfl (by rw [CL.out]; exact HM.out) rfl (by show -1 ≤ (-1 : Int) ∧ (-1 : Int) ≤ _; omega) (by rw [CL.out]; exact N6.out) (fun b hb => Nat.lt_of_lt_of_le (OL.out b hb) (Nat.le_trans G7.out.size (Nat.le_trans G8.out.size (Nat.le_trans G5.out.size g9.size)))), U9, fun b hb => .inr (by have h1 := O6.out b (hb.resolve_right (by simp [nilS, Sl.v, Value.ownBlock])); omega)⟩
theorem built_rd (a : Option Addr) (n c : Nat) : Try.prog.built 61 [(0, .slice a n c), (3, .int .i64 (-1))] = some (rdC ⟨a, n, c⟩ nilS 0 (-1) false) := by kernel_rfl
theorem wpList_makeRN {P : Program} {ops : Array Oper} {rest : List Oper} {op : Oper} {a : Act} {w : World} {Q : Exit → Act → World → Prop} (hgd : op.guard = none) (t : TypeId) (x y : Operand) (ho : op.op = .makeSlice t x y) (e : TypeId) (z : Value) (k bytes : Nat) (ht : P.underlying t = some (.slice e)) (hinfo : (P.info? e).map (fun i => (i.zero, i.size, i.bytes)) = some (some z, k, bytes)) (c : Nat)
    (hc : bytes * c ≤ 281474976710656) (hm : c ≤ 9223372036854775807) (hx : a.eval x = .int .i64 (c : Int)) (hy : a.eval y = .int .i64 (c : Int)) (C : Array Value) (hC : madeCells z.cells (c * k) = C)
    (h : wpList P ops Q rest (a.put op.dst (.slice (some ⟨w.heap.size, 0, none⟩) c c)) (w.alloc (.cells C e))) : wpList P ops Q (op :: rest) a w :=
  wpList_plain hgd fun _ hK => wp_makeRN t x y ho e z k bytes ht hinfo c hc hm hx hy C hC (hK _ _ h)
set_option maxRecDepth 100000 in
set_option maxHeartbeats 8000000 in
theorem rnew_any (w : World) (n : Nat) (hn : n ≤ 1024) :
    Calls Try.prog 25 #[.int .i64 (n : Int)] w fun e w' => RPost w nilS nilS (newD n) e w' := by
  have b0 : ((n : Int) < 0) = False := by simp
  have b1 : ((1024 : Int) < (n : Int)) = False := by simp; omega
  have Z1 := Lib.hid ((Blk.new w 61 (rdC nilS nilS 0 0 false)).up (up_alloc _ (.cells (secsC (List.replicate n zSec)) 34)))
  have U1 := Lib.hid ((up_alloc w (.cells (rdC nilS nilS 0 0 false) 61)).trans (up_alloc _ (.cells (secsC (List.replicate n zSec)) 34)))
  have NB := Lib.hid (show w.heap.size + 1 < ((w.alloc (.cells (rdC nilS nilS 0 0 false) 61)).alloc (.cells (secsC (List.replicate n zSec)) 34)).heap.size by rw [sz_alloc, sz_alloc]; omega)
  have R1 := Lib.hid (IsRow.litAt (f := scells) (w.alloc (.cells (rdC nilS nilS 0 0 false) 61)) (w.heap.size + 1) (by rw [sz_alloc]) (secsC (List.replicate n zSec)) 34 (0, 0) (List.replicate n zSec) n (by simp) (by unfold maxLen; omega) (secsC_list _))
  go_enter Try.func25, Try.ntmps25
  go_wp2_with (first
    | ((with_reducible refine wg_alloc 61 ?_); refine wpList_alloc_blk rfl 61 rfl (rdC nilS nilS 0 0 false) zero_rd ?_)
    | (refine wpList_makeRN rfl 58 (.tmp 9) (.tmp 9) rfl 34 _ 128 128 Try.underlying58 info_secz n (by omega) (by omega) rfl rfl _ (made_secs n) ?_)
    | ((with_reducible refine wg_build 61 #[(0, .tmp 10), (3, .const (.int .i64 (-1)))] ?_); refine wl_build2 rfl 61 0 3 (.tmp 10) (.const (.int .i64 (-1))) rfl _ _ _ (built_rd (some ⟨w.heap.size + 1, 0, none⟩) n n) rfl rfl ?_)
    | ((with_reducible refine wg_store 61 (.tmp 2) (.tmp 11) ?_); refine wpList_store_blk rfl 61 (.tmp 2) (.tmp 11) rfl w.heap.size (rdC ⟨some ⟨w.heap.size + 1, 0, none⟩, n, n⟩ nilS 0 (-1) false) rfl rfl 61 _ Z1.out (info_rd _ _ _ _ _) rfl (rdC_one _ _ _ _ _) ?_))
  intro w9 b9 g9
  have U9 := Up.grown U1.out g9 (fun k hk => by cases hk; omega)
  have R9 : IsRow scells w9 (Sl.v ⟨some ⟨w.heap.size + 1, 0, none⟩, n, n⟩) (List.replicate n zSec) := row_apart R1.out g9 (n := w.heap.size + 1) (fun b hb => by have h1 : w.heap.size + 1 = b := (by simpa [Sl.v, Value.ownBlock] using hb); omega) (by omega)
  go_wp2_with fail
  (try simp only [Exit.inBlock, Exit.then])
  refine bodyPost_ret (v := .agg (rdC ⟨some ⟨w.heap.size + 1, 0, none⟩, n, n⟩ nilS 0 (-1) false)) (results_one rfl _ _ _ w.heap.size 61 _ rfl b9 _ Try.underlying61 rfl (info_rd _ _ _ _ _)) rfl ?_
  exact ⟨⟨some ⟨w.heap.size + 1, 0, none⟩, n, n⟩, nilS, 0, rfl, RDv.applied R9 rfl (by simp; omega) rfl (by show -1 ≤ (-1 : Int) ∧ (-1 : Int) ≤ _; omega) (by simp) (fun b hb => by have h1 : w.heap.size + 1 = b := (by simpa [Sl.v, Value.ownBlock] using hb); have h2 := NB.out; have h3 := g9.size; omega), U9, fun b hb => .inr (by
    rcases hb with hb | hb
    · have : w.heap.size + 1 = b := by simpa [Sl.v, Value.ownBlock] using hb
      omega
    · cases hb)⟩
theorem put_rdv {w : World} {s p : Sl} {v : DevD} {n : Nat} {sx : Sec} {qa : Option Addr} {qc : Nat} (R : RDv w s p v) (CS : v.counted.spent.stable = v.stable ∧ v.counted.spent.pend = v.pend ∧ v.counted.spent.left = v.spent.left ∧ v.counted.spent.dead = v.spent.dead)
    (SL : -1 ≤ v.spent.left ∧ v.spent.left ≤ 9223372036854775807) (hn : n < v.stable.length) (hp : v.pend.length ≤ 100000) (h : IsRow wcells w (.slice qa (v.pend.length + 1) qc) (v.pend ++ [(WrD.mk n sx)])) (hb : ∀ b, Value.ownBlock (.slice qa (v.pend.length + 1) qc) = some b → b < w.heap.size) :
    RDv w s ⟨qa, (v.pend.length + 1), qc⟩ (v.counted.spent.put n sx) := by
  have e : (v.counted.spent.put n sx).pend = v.pend ++ [(WrD.mk n sx)] := by show v.counted.spent.pend ++ _ = _; rw [CS.2.1]
  have e2 : (v.counted.spent.put n sx).stable = v.stable := CS.1
  refine ⟨by rw [e2]; exact R.st, by rw [e]; exact h, by rw [e2]; exact R.max, by rw [e]; simp; omega, fun x hx => ?_, by show -1 ≤ v.counted.spent.left ∧ v.counted.spent.left ≤ _; rw [CS.2.2.1]; exact SL, by rw [e2]; exact R.sn, by rw [e]; simp, R.sb, hb⟩
  rw [e2]
  rw [e] at hx
  rcases List.mem_append.1 hx with hx | hx
  · exact R.locs x hx
  · simp at hx; subst hx; exact hn
theorem built_rw (x : WrD) : Try.prog.built 121 [(0, .int .i64 (x.loc : Int)), (1, .agg (secC x.s.val))] = some (wrC x) := by
  obtain ⟨i, hi, hz0, _, _⟩ := info_parts info_rw3
  unfold Program.built
  rw [hi, Try.underlying121]
  simp only [hz0]
  rw [show (List.mapM (fun (f : Field) => (Try.prog.info? f.type).map fun i => (f.offset, i.size)) _ : Option (List (Nat × Nat))) = some [(0, 1), (1, 128)] from by kernel_rfl]
  have h1 : (secC x.s.val).size = 128 := by rw [secC_size]; exact x.s.property
  have h0 := wrC_size zWr
  simp only [Instr.fill, Value.cells]
  have hf := foldl_zip (secC x.s.val) ((wrC zWr).setIfInBounds 0 (.int .i64 (x.loc : Int))) 1 (by simp [h0, h1])
  simp only [Array.size_zipIdx, h1] at hf
  simp [h0, h1]
  rw [hf]
  apply Array.toList_inj.1
  simp only [List.toList_toArray, splice, Array.toList_setIfInBounds]
  have hl : (wrC zWr).toList.length = 129 := by simpa using h0
  have h2 : ((wrC zWr).toList.set 0 (.int .i64 (x.loc : Int))).take 1 = [.int .i64 (x.loc : Int)] := by
    cases hc : (wrC zWr).toList with
    | nil => rw [hc] at hl; simp at hl
    | cons y r => simp
  rw [h2, secC_scells, List.drop_of_length_le (by rw [List.length_set, hl, sw.len]; omega), List.append_nil]
  rfl
set_option maxRecDepth 100000 in
set_option maxHeartbeats 8000000 in
theorem rput_any (w : World) (s p : Sl) (o : Int) (v : DevD) (R : RDv w s p v) (i : Int) (sx : Sec) (hr : v.pend.length ≤ 100000) :
    Calls Try.prog 56 #[.agg (rdC s p o v.left v.dead), .int .i64 i, .agg (secC sx.val)] w fun e w' => RPostE w s p (v.written i sx) (.int .i64 (v.writeE i)) e w' := by
  have ux1 := up_alloc w (.cells (rdC s p o v.left v.dead) 61)
  have ux2 := up_alloc (w.alloc (.cells (rdC s p o v.left v.dead) 61)) (.cells (secC sx.val) 34)
  have ux3 := up_alloc ((w.alloc (.cells (rdC s p o v.left v.dead) 61)).alloc (.cells (secC sx.val) 34)) (.cells (rdC nilS nilS 0 0 false) 61)
  have B1 := Lib.hid ((Blk.new w 61 (rdC s p o v.left v.dead)).up (ux2.trans ux3))
  have s1 := (Blk.new (w.alloc (.cells (rdC s p o v.left v.dead) 61)) 34 (secC sx.val)).up ux3
  have z1 := Blk.new ((w.alloc (.cells (rdC s p o v.left v.dead) 61)).alloc (.cells (secC sx.val) 34)) 61 (rdC nilS nilS 0 0 false)
  rw [sz_alloc] at s1 z1
  rw [sz_alloc] at z1
  have S1 := Lib.hid s1
  have Z1 := Lib.hid z1
  have U1 := Lib.hid (ux1.trans (ux2.trans ux3))
  have HR := Lib.hid R
  have WV := Lib.hid (show v.written i sx = if v.hasB i = true then (if v.powerB = true then v.counted.spent.put i.toNat sx else v.counted.spent) else v.counted from rfl)
  have WE := Lib.hid (show v.writeE i = if v.hasB i = true then (if v.powerB = true then 0 else 42) else 41 from rfl)
  have SS := Lib.hid (spent_same v)
  have CS := Lib.hid (counted_spent v)
  have C0 := Lib.hid (counted_same v)
  have SL := Lib.hid (spent_left R.left)
  have HB := Lib.hid (hasB_iff v i)
  have HPR := Lib.hid hr
  obtain ⟨_, _, i2, _, _⟩ := rd_ix s p o v.left v.dead
  obtain ⟨o2, wo2⟩ : ∃ o2, wrap64 (o + 1) = o2 := ⟨_, rfl⟩
  have wo : IntKind.i64.wrap (o + 1) = o2 := (IntWalk.i64_left _).trans wo2
  clear R ux1 ux2 ux3 s1 z1 hr
  go_enter Try.func56, Try.ntmps56
  go_wp2_with (first
    | ((with_reducible refine wg_alloc 61 ?_); refine wpList_alloc_blk rfl 61 rfl (rdC nilS nilS 0 0 false) zero_rd ?_)
    | ((with_reducible refine wg_store 3 (.tmp 13) (.tmp 12) ?_); refine wl_setf rfl 3 (.tmp 13) (.tmp 12) rfl w.heap.size 2 rfl (.int .i64 o2) rfl rfl rfl 61 _ B1.out (by show 2 < 5; decide) (fun W => by kernel_rfl) ?_))
  intro w3 b3 g3
  have B3 := Lib.hid (show Blk w3 w.heap.size 61 (rdC s p o2 v.left v.dead) from b3)
  have S3 := Lib.hid (S1.out.grown g3 (by intro h; have := Option.some.inj h; omega))
  have Z3 := Lib.hid (Z1.out.grown g3 (by intro h; have := Option.some.inj h; omega))
  have U3 := Lib.hid (Up.grown U1.out g3 (fun k hk => by cases hk; exact Nat.le_refl _))
  have TH := Lib.hid (there_any w3 s p o2 v (HR.out.up U3.out) i)
  clear b3 g3 B1 S1 Z1 U1 i2 wo wo2
  go_wp2_with (first
    | ((with_reducible refine wg_load 61 (.tmp 3) ?_); refine wpList_load_blkG rfl 61 (.tmp 3) rfl w.heap.size rfl 61 _ B3.out _ Try.underlying61 rfl (info_rd _ _ _ _ _) ?_))
  refine TH.out.mono ?_
  rintro e w4 ⟨rfl, U4⟩
  have B4 := Lib.hid (B3.out.up U4)
  have S4 := Lib.hid (S3.out.up U4)
  have Z4 := Lib.hid (Z3.out.up U4)
  have U34 := Lib.hid (U3.out.trans U4)
  clear TH U4 B3 Z3 U3 S3
  cases hb : v.hasB i
  · have VV := Lib.hid (show v.written i sx = v.counted by rw [WV.out, hb]; rfl)
    have VE := Lib.hid (show v.writeE i = 41 by rw [WE.out, hb]; rfl)
    clear hb
    go_wp2_with (first
      | ((with_reducible refine wg_load 61 (.tmp 3) ?_); refine wpList_load_blkG rfl 61 (.tmp 3) rfl w.heap.size rfl 61 _ B4.out _ Try.underlying61 rfl (info_rd _ _ _ _ _) ?_)
      | ((with_reducible refine wg_store 61 (.tmp 6) (.tmp 18) ?_); refine wpList_store_blk rfl 61 (.tmp 6) (.tmp 18) rfl (w.heap.size + 1 + 1) (rdC s p o2 v.left v.dead) rfl rfl 61 _ Z4.out (info_rd _ _ _ _ _) rfl (rdC_one _ _ _ _ _) ?_))
    intro w9 b9 g9
    have U9 := Up.grown U34.out g9 (fun k hk => by cases hk; omega)
    go_wp2_with fail
    (try simp only [Exit.inBlock, Exit.then])
    refine bodyPost_ret (v := .tuple #[.agg (rdC s p o2 v.left v.dead), .int .i64 41]) (results_blk rfl _ _ _ (w.heap.size + 1 + 1) 61 _ _ rfl rfl b9 _ Try.underlying61 rfl (info_rd _ _ _ _ _)) rfl ?_
    exact ⟨s, p, o2, by rw [VV.out, VE.out, C0.out.2.2.2.1, C0.out.2.2.2.2], by rw [VV.out]; exact (HR.out.up U9).same _ C0.out.1 C0.out.2.2.1 (by rw [C0.out.2.2.2.2]; exact HR.out.left), U9, Kept.refl _ _ _⟩
  obtain ⟨h0, hlt⟩ := HB.out.1 hb
  obtain ⟨n, rfl⟩ := Int.eq_ofNat_of_zero_le h0
  have HN := Lib.hid (show n < v.stable.length by omega)
  have PW := Lib.hid (power_any w4 s p o2 v (HR.out.up U34.out))
  have HBT := Lib.hid hb
  clear hb h0 hlt
  go_wp2_with (first
    | ((with_reducible refine wg_load 61 (.tmp 3) ?_); refine wpList_load_blkG rfl 61 (.tmp 3) rfl w.heap.size rfl 61 _ B4.out _ Try.underlying61 rfl (info_rd _ _ _ _ _) ?_))
  refine PW.out.mono ?_
  rintro e w6 ⟨rfl, U6⟩
  have B6 := Lib.hid (B4.out.up U6)
  have S6 := Lib.hid (S4.out.up U6)
  have Z6 := Lib.hid (Z4.out.up U6)
  have U36 := Lib.hid (U34.out.trans U6)
  clear PW U6 B4 Z4 U34 S4
  go_wp2_with (first
    | ((with_reducible refine wg_store 61 (.tmp 3) (.tmp 22) ?_); refine wpList_store_blk rfl 61 (.tmp 3) (.tmp 22) rfl w.heap.size (rdC s p o2 v.spent.left v.spent.dead) rfl rfl 61 _ B6.out (info_rd _ _ _ _ _) rfl (rdC_one _ _ _ _ _) ?_))
  intro w5 b5 g5
  have B5 := Lib.hid b5
  have S5 := Lib.hid (S6.out.grown g5 (by intro h; have := Option.some.inj h; omega))
  have Z5 := Lib.hid (Z6.out.grown g5 (by intro h; have := Option.some.inj h; omega))
  have U5 := Lib.hid (Up.grown U36.out g5 (fun k hk => by cases hk; exact Nat.le_refl _))
  have LT5 := Lib.hid (show w.heap.size + 1 + 1 < w5.heap.size from Z5.out.lt)
  clear b5 g5 B6 Z6 S6 U36
  cases hp : v.powerB
  · have VV := Lib.hid (show v.written (n : Int) sx = v.counted.spent by rw [WV.out, HBT.out, hp]; rfl)
    have VE := Lib.hid (show v.writeE (n : Int) = 42 by rw [WE.out, HBT.out, hp]; rfl)
    clear hp
    go_wp2_with (first
      | ((with_reducible refine wg_load 61 (.tmp 3) ?_); refine wpList_load_blkG rfl 61 (.tmp 3) rfl w.heap.size rfl 61 _ B5.out _ Try.underlying61 rfl (info_rd _ _ _ _ _) ?_)
      | ((with_reducible refine wg_store 61 (.tmp 6) (.tmp 26) ?_); refine wpList_store_blk rfl 61 (.tmp 6) (.tmp 26) rfl (w.heap.size + 1 + 1) (rdC s p o2 v.spent.left v.spent.dead) rfl rfl 61 _ Z5.out (info_rd _ _ _ _ _) rfl (rdC_one _ _ _ _ _) ?_))
    intro w9 b9 g9
    have U9 := Up.grown U5.out g9 (fun k hk => by cases hk; omega)
    go_wp2_with fail
    (try simp only [Exit.inBlock, Exit.then])
    refine bodyPost_ret (v := .tuple #[.agg (rdC s p o2 v.spent.left v.spent.dead), .int .i64 42]) (results_blk rfl _ _ _ (w.heap.size + 1 + 1) 61 _ _ rfl rfl b9 _ Try.underlying61 rfl (info_rd _ _ _ _ _)) rfl ?_
    exact ⟨s, p, o2, by rw [VV.out, VE.out, CS.out.2.2.1, CS.out.2.2.2], by rw [VV.out]; exact (HR.out.up U9).same _ CS.out.1 CS.out.2.1 (by rw [CS.out.2.2.1]; exact SL.out), U9, Kept.refl _ _ _⟩
  have VV := Lib.hid (show v.written (n : Int) sx = v.counted.spent.put n sx by rw [WV.out, HBT.out, hp, if_pos rfl, if_pos rfl, Int.toNat_natCast])
  have VE := Lib.hid (show v.writeE (n : Int) = 0 by rw [WE.out, HBT.out, hp]; rfl)
  clear hp
  obtain ⟨_, c1, _, _, _⟩ := rd_at (B5.out.up (up_alloc w5 (.cells #[] 121)))
  have PE5 := Lib.hid (HR.out.up U5.out).pe
  go_wp2_with (first
    | (at_builtin; refine wpList_fresh_row ww rfl (.tmp 27) (.tmp 29) 59 rfl 121 (.agg (wrC zWr)) 136 Try.underlying59 info_rw3 (wrC_size _) w5.heap.size rfl rfl _ v.pend rfl PE5.out (by have := HPR.out; omega) ?_))
  intro v7 w7 own7 U7
  have B7 := Lib.hid (B5.out.up U7)
  have S7 := Lib.hid (S5.out.up U7)
  have Z7 := Lib.hid (Z5.out.up U7)
  have U57 := Lib.hid (U5.out.trans U7)
  have O7 := Lib.hid own7
  have LT7 := Lib.hid (show w5.heap.size ≤ w7.heap.size from U7.size)
  have BW := Lib.hid (built_rw (WrD.mk n sx))
  have UX := up_alloc w7 (.cells (wrC (WrD.mk n sx)) 121)
  have O8 := Lib.hid (O7.out.up UX)
  have R8 := Lib.hid (IsRow.litAt (f := wcells) w7 w7.heap.size rfl (wrC (WrD.mk n sx)) 121 (0, 0) [(WrD.mk n sx)] 1 rfl (by unfold maxLen; omega) (by simp [wrC]))
  have LB := Lib.hid (Nat.le_trans LT7.out UX.size)
  have B8 := Lib.hid (B7.out.up UX)
  have Z8 := Lib.hid (Z7.out.up UX)
  have U8 := Lib.hid (U57.out.trans UX)
  clear c1 own7 U7 PE5 B5 S5 Z5 UX
  go_wp2_with (first
    | ((with_reducible refine wg_load 34 (.tmp 5) ?_); refine wpList_load_blkG rfl 34 (.tmp 5) rfl (w.heap.size + 1) rfl 34 _ S7.out _ Try.underlying34 rfl (info_secW sx) ?_)
    | ((with_reducible refine wg_build 121 #[(0, .tmp 32), (1, .tmp 33)] ?_); refine wl_build2 rfl 121 0 1 (.tmp 32) (.tmp 33) rfl _ _ _ BW.out rfl rfl ?_)
    | ((with_reducible refine wg_slice 59 1 #[(0, .tmp 34)] ?_); refine wpList_buildSlice1 rfl 59 121 (.tmp 34) rfl _ 129 136 (wrC (WrD.mk n sx)) rfl Try.underlying59 info_rw3 (by omega) (by omega) (wrC_size _) ?_)
    | (at_builtin; refine wpList_append_row ww rfl (.tmp 31) (.tmp 35) 59 rfl w5.heap.size 121 (.agg (wrC zWr)) 136 Try.underlying59 info_rw3 (wrC_size _) _ v.pend rfl O8.out _ [(WrD.mk n sx)] rfl R8.out (by have := HPR.out; simp only [List.length_cons, List.length_nil]; omega) (by have := HPR.out; simp only [List.length_cons, List.length_nil]; omega) LB.out ?_))
  intro v9 wA own9 g9 b9
  have OA := Lib.hid own9
  have BA := Lib.hid (B8.out.grown g9 (fun hh => by have := (O8.out.block_lt _ hh).1; have := LT5.out; omega))
  have ZA := Lib.hid (Z8.out.grown g9 (fun hh => by have := (O8.out.block_lt _ hh).1; have := LT5.out; omega))
  have UA := Lib.hid (U8.out.below_trans b9 (by have := LT5.out; omega))
  obtain ⟨qa, qc, rfl⟩ := (OA.out.row ww).slice
  rw [show (v.pend ++ [WrD.mk n sx]).length = v.pend.length + 1 by simp] at OA ⊢
  have OB := Lib.hid (fun b (hb : Value.ownBlock (.slice qa (v.pend.length + 1) qc) = some b) => show w.heap.size + 1 + 1 < b by have := (OA.out.block_lt b hb).1; have := LT5.out; omega)
  have OC := Lib.hid (fun b (hb : Value.ownBlock (.slice qa (v.pend.length + 1) qc) = some b) => (OA.out.block_lt b hb).2)
  have RA := Lib.hid (OA.out.row ww)
  clear own9 g9 b9 O7 O8 R8 B7 Z7 B8 Z8 S7 U57 U8 LB OA
  go_wp2_with (first
    | ((with_reducible refine wg_store 59 (.tmp 37) (.tmp 36) ?_); refine wl_setf rfl 59 (.tmp 37) (.tmp 36) rfl w.heap.size 1 rfl (.slice qa (v.pend.length + 1) qc) rfl rfl rfl 61 _ BA.out (by show 1 < 5; decide) (fun W => by kernel_rfl) ?_))
  intro wB bB gB
  have BB := Lib.hid (show Blk wB w.heap.size 61 (rdC s ⟨qa, (v.pend.length + 1), qc⟩ o2 v.spent.left v.spent.dead) from bB)
  have ZB := Lib.hid (ZA.out.grown gB (by intro h; have := Option.some.inj h; omega))
  have UB := Lib.hid (Up.grown UA.out gB (fun k hk => by cases hk; exact Nat.le_refl _))
  have RB := Lib.hid (row_apart RA.out gB (n := w.heap.size + 1 + 1 + 1) (fun b hb => OB.out b hb) (by omega))
  have GB := Lib.hid gB
  clear bB gB BA ZA UA RA
  go_wp2_with (first
    | ((with_reducible refine wg_load 61 (.tmp 3) ?_); refine wpList_load_blkG rfl 61 (.tmp 3) rfl w.heap.size rfl 61 _ BB.out _ Try.underlying61 rfl (info_rd _ _ _ _ _) ?_)
    | ((with_reducible refine wg_store 61 (.tmp 6) (.tmp 38) ?_); refine wpList_store_blk rfl 61 (.tmp 6) (.tmp 38) rfl (w.heap.size + 1 + 1) (rdC s ⟨qa, (v.pend.length + 1), qc⟩ o2 v.spent.left v.spent.dead) rfl rfl 61 _ ZB.out (info_rd _ _ _ _ _) rfl (rdC_one _ _ _ _ _) ?_))
  intro w9 b9 g9
  have U9 := Up.grown UB.out g9 (fun k hk => by cases hk; omega)
  have R9 := row_apart RB.out g9 (n := w.heap.size + 1 + 1 + 1) (fun b hb => OB.out b hb) (by omega)
  have PUTR : ∀ {w9 : World}, Up w w9 → IsRow wcells w9 (.slice qa (v.pend.length + 1) qc) (v.pend ++ [(WrD.mk n sx)]) → (∀ b, Value.ownBlock (.slice qa (v.pend.length + 1) qc) = some b → b < w9.heap.size) → RDv w9 s ⟨qa, (v.pend.length + 1), qc⟩ (v.counted.spent.put n sx) := fun {w9} hu hr hbb => put_rdv (HR.out.up hu) CS.out SL.out HN.out HPR.out hr hbb
  go_wp2_with fail
  (try simp only [Exit.inBlock, Exit.then])
  refine bodyPost_ret (v := .tuple #[.agg (rdC s ⟨qa, (v.pend.length + 1), qc⟩ o2 v.spent.left v.spent.dead), .int .i64 0]) (results_blk rfl _ _ _ (w.heap.size + 1 + 1) 61 _ _ rfl rfl b9 _ Try.underlying61 rfl (info_rd _ _ _ _ _)) rfl ?_
  exact ⟨s, ⟨qa, (v.pend.length + 1), qc⟩, o2, by rw [VV.out, VE.out, ← CS.out.2.2.1, ← CS.out.2.2.2]; rfl, by rw [VV.out]; exact PUTR U9 R9 (fun b hb => Nat.lt_of_lt_of_le (OC.out b hb) (Nat.le_trans GB.out.size g9.size)), U9, fun b hb => hb.elim (fun h => .inl (.inl h)) (fun h => .inr (by have := OB.out b h; omega))⟩

end Go.Proofs.Ytgmdhedabmkcoaa
