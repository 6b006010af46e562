/- A record's copy: the walk. -/
import Derived.Test.YthbfhlphclgnaaaSetS
import Derived.Deep.WholeRow
set_option linter.unusedSimpArgs false
set_option linter.unusedVariables false
namespace Go.Proofs.Ythbfhlphclgnaaa
open Go.RowKit Go.Sort

theorem results_set {fn : Func} {p : Tmp} {ty : TypeId} (h : fn.results = #[.cell p ty]) (tmps : Array Value) (P : Program) (w : World) (g : Nat) (t : TypeId) (C : Array Value)
    (hp : tmps.getD p undef = .pointer (some ⟨g, 0, none⟩)) (hb : Blk w g t C) (d : TypeDesc) (hd : P.underlying ty = some d) (hr : d.isRow = true) (hi : (P.info? ty).map (·.size) = some C.size) :
    (results fn tmps).run P w = .ok (.agg C) w := by
  simp only [results, h]
  have := run_load_blk (P := P) (w := w) ty g t C hb d hd hr hi
  have hp2 : tmps[p]?.getD undef = .pointer (some ⟨g, 0, none⟩) := by rw [← hp]; simp [Array.getD_eq_getD_getElem?]
  simp [Sem.run_bind, Result.andThen, hp, hp2, asAddr, this]
theorem own_nex {w : World} {t e : TypeId} {base g : Nat} {C : Array Value} {α : Type} {f : α → List Value} {k : Nat} {vp : Value} {xs : List α} (hne : t ≠ e) (hb : Blk w g t C) (ho : OwnRow f k e w base vp xs) : vp.ownBlock ≠ some g := fun e0 => by
  obtain ⟨_, h2⟩ := ho
  rcases h2 with ⟨rfl, _⟩ | ⟨g', cap, cur, rfl, _, hh, _⟩
  · simp [Value.ownBlock] at e0
  · simp [Value.ownBlock] at e0
    subst e0
    have := hb.symm.trans hh
    simp at this
    exact hne this.2
def zSet : SetD := ⟨0, [], false, 0, 0, 0, 0, hole, []⟩
def zSetC : Array Value := setC zSet (.slice none 0 0)
theorem zero_set : ∀ W : World, (zeroValue 44).run Try.prog W = .ok (.agg zSetC) W :=
  (zero_of_info (P := Try.prog) (t := 44) (v := .agg zSetC) (n := 11) (by kernel_rfl)).1
theorem setC_put (x : SetD) (v v' : Value) : (setC x v).setIfInBounds 10 v' = setC x v' := rfl
theorem slice_one (a : Option Addr) (n c : Nat) : (Value.slice a n c).cells = #[.slice a n c] := rfl

set_option maxRecDepth 100000 in
set_option maxHeartbeats 4000000 in
theorem scopy_any (w : World) (x : SetD) (vd : Value) (hd : IsPtrs w vd x.dead) (hr : x.dead.length * 24 ≤ 140737488355328) :
    Calls Try.prog 17 #[.agg (setC x vd)] w fun e w' => ∃ v', e = .returned (.agg (setC x v')) ∧ OwnPtrs w' w.heap.size v' x.dead ∧ Up w w' := by
  have hln := hd.length_le
  obtain ⟨da, dc, rfl⟩ := hd.slice
  have HI := Lib.hid (info_setV x (.slice da x.dead.length dc))
  obtain ⟨w1, hw1⟩ : ∃ y, y = w.alloc (.cells (setC x (.slice da x.dead.length dc)) 44) := ⟨_, rfl⟩
  have upa := up_alloc w (.cells (setC x (.slice da x.dead.length dc)) 44)
  have upb := up_alloc (w.alloc (.cells (setC x (.slice da x.dead.length dc)) 44)) (.cells zSetC 44)
  have sza := sz_alloc w (.cells (setC x (.slice da x.dead.length dc)) 44)
  have B1 := Lib.hid ((Blk.new w 44 (setC x (.slice da x.dead.length dc))).up upb)
  have b2 := Blk.new (w.alloc (.cells (setC x (.slice da x.dead.length dc)) 44)) 44 zSetC
  rw [sza] at b2
  have B2 := Lib.hid b2
  have U1 := Lib.hid (upa.trans upb)
  have c10 := B1.out.setAt.c10
  have HD := Lib.hid (IsRow.up hd U1.out)
  have ON := Lib.hid (OwnRow.nil pcells 3 41 ((w.alloc (.cells (setC x (.slice da x.dead.length dc)) 44)).alloc (.cells zSetC 44)) w.heap.size)
  have hb1 := Lib.hid (show (([] : List PtrD).length + x.dead.length) * 24 ≤ 140737488355328 by simpa using hr)
  have hb2 := Lib.hid (show ([] : List PtrD).length + x.dead.length ≤ 9223372036854775807 by simpa using hln)
  have hb3 := Lib.hid U1.out.size
  clear hd upa upb sza b2 hw1 w1
  go_enter Try.func17, Try.ntmps17
  go_wp2_with (first
    | ((with_reducible refine wg_alloc 44 ?_); refine wpList_alloc_blk rfl 44 rfl zSetC zero_set ?_)
    | (at_builtin; refine wpList_append_row pw rfl (.const (.slice none 0 0)) (.tmp 4) 42 rfl w.heap.size 41 _ 24 Try.underlying42 info_ptr3 rfl (.slice none 0 0) [] rfl ON.out (.slice da x.dead.length dc) x.dead rfl HD.out hb1.out hb2.out hb3.out ?_))
  intro v' w3 hown hg hb
  obtain ⟨na, nc, rfl⟩ := (OwnRow.row hown pw).slice
  have b3 := B1.out.grown hg (by simp [Value.ownBlock])
  have d3 := B2.out.grown hg (by simp [Value.ownBlock])
  have up3 := U1.out.below_trans hb (Nat.le_refl _)
  have f10 := b3.free 10
  have c10' := b3.setAt.c10
  have G := grown_setCell b3 10 (.slice na x.dead.length nc)
  have b4 := b3.setCell 10 (.slice na x.dead.length nc)
  rw [setC_put] at b4
  have B4 := Lib.hid b4
  have D4 := Lib.hid (d3.grown G (fun e => by have := Option.some.inj e; omega))
  have O4 := Lib.hid (hown.kept G (.inr (own_nex (by decide) b3 hown)))
  have U4 := Lib.hid (up3.grown G (fun k hk => by cases hk; exact Nat.le_refl _))
  have HN := Lib.hid (info_setV x (.slice na x.dead.length nc))
  have H1 := Lib.hid (setC_one x na x.dead.length nc)
  clear hg hb hown b3 d3 up3 G b4 c10 B1 B2 U1 HD ON hb1 hb2 hb3 HI
  go_wp2_with (first
    | ((with_reducible refine wg_load 44 (.tmp 1) ?_); refine wpList_load_blkG rfl 44 (.tmp 1) rfl w.heap.size rfl 44 _ B4.out _ Try.underlying44 rfl HN.out ?_)
    | ((with_reducible refine wg_store 44 (.tmp 2) (.tmp 7) ?_); refine wpList_store_row rfl 44 (.tmp 2) (.tmp 7) rfl (w.heap.size + 1) (setC x (.slice na x.dead.length nc)) rfl rfl 44 _ D4.out HN.out rfl H1.out ?_))
  have G5 := grown_setRow (w3.setCell ⟨w.heap.size, 10, none⟩ (.slice na x.dead.length nc)) (w.heap.size + 1) (setC x (.slice na x.dead.length nc))
  have D5 := D4.out.set (setC x (.slice na x.dead.length nc))
  have O5 := O4.out.kept G5 (.inr (own_nex (by decide) D4.out O4.out))
  have U5 := U4.out.grown G5 (fun k hk => by cases hk; omega)
  (try simp only [Exit.inBlock, Exit.then])
  exact bodyPost_ret (v := .agg (setC x (.slice na x.dead.length nc))) (results_set rfl _ _ _ (w.heap.size + 1) 44 _ rfl D5 _ Try.underlying44 rfl HN.out) rfl ⟨_, rfl, O5, U5⟩
end Go.Proofs.Ythbfhlphclgnaaa
