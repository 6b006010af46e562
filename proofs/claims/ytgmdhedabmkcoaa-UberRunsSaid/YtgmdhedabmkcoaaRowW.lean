/- Append onto a row of the call's own, and where the new row lies: in the same block, or in a new one: so two rows that grow by turns stay apart. -/
import Derived.Test.YtgmdhedabmkcoaaRow
set_option linter.unusedSimpArgs false
namespace Go.Proofs.Ytgmdhedabmkcoaa
open Go.RowKit

/-- The new row's block is the old row's, or a new one. -/
def Whereto (w : World) (v v' : Value) : Prop := v'.ownBlock = v.ownBlock ∨ ∃ g, v'.ownBlock = some g ∧ w.heap.size ≤ g
/-- Two rows in different blocks. -/
def Apart (v u : Value) : Prop := v.ownBlock = none ∨ v.ownBlock ≠ u.ownBlock
theorem Apart.symm {v u : Value} (h : Apart v u) : Apart u v := by
  rcases h with h | h
  · by_cases hu : u.ownBlock = none
    · exact .inl hu
    · exact .inr (by rw [h]; exact hu)
  · exact .inr (fun e => h e.symm)
theorem Apart.grown {w : World} {v v' u : Value} (h : Apart u v) (hw : Whereto w v v') (hu : ∀ k, u.ownBlock = some k → k < w.heap.size) : Apart u v' := by
  rcases h with h | h
  · exact .inl h
  · rcases hw with hw | ⟨g, hw, hg⟩
    · exact .inr (by rw [hw]; exact h)
    · refine .inr (fun e => ?_)
      have := hu g (e.trans hw)
      omega

section
variable {α : Type} {P : Program}
theorem wp_append_rowW {f : α → List Value} {k : Nat} (hw : Wide f k) {w : World} {o : Oper} {a : Act} {K : Act → World → Prop} {Q : Exit → Act → World → Prop} (s x : Operand) (t : TypeId)
    (ho : o.op = .call { callee := .builtin .append, args := #[s, x], argTypes := #[t, t] })
    (base : Nat) (e : TypeId) (z : Value) (bytes : Nat) (ht : P.underlying t = some (.slice e)) (hinfo : (P.info? e).map (fun i => (i.zero, i.size, i.bytes)) = some (some z, k, bytes)) (hzs : z.cells.size = k)
    (v : Value) (xs : List α) (hs : a.eval s = v) (hown : OwnRow f k e w base v xs) (vx : Value) (ys : List α) (hx : a.eval x = vx) (hsrc : IsRow f w vx ys)
    (hbytes : (xs.length + ys.length) * bytes ≤ 140737488355328) (hmax : xs.length + ys.length ≤ 9223372036854775807) (hbase : base ≤ w.heap.size)
    (h : ∀ v' w', OwnRow f k e w' base v' (xs ++ ys) → w.grownBy w' v.ownBlock → Below base w w' → Whereto w v v' → K (a.put o.dst v') w') : o.wp P a w K Q := by
  obtain ⟨i, hi, hz0, hz1, hz2⟩ := info_parts hinfo
  have hmax' : xs.length + ys.length ≤ maxLen := by unfold maxLen; omega
  have key : ∀ (ad : Addr) (c : Nat), vx = .slice (some ad) ys.length c → (∀ j u, (ys.flatMap f)[j]? = some u → w.cell? (ad.add j) = some u) → o.wp P a w K Q := by
    intro ad c hvx hnews
    obtain ⟨v', w', hr, h1, h2, h3⟩ := run_append_own (P := P) w base t o.type e i z k bytes ht hi hz0 hz1 hz2 hzs hw.pos v xs.length (xs.flatMap f) hown ad ys.length c (ys.flatMap f) (hw.flat ys) hnews (hw.ones ys) hmax' hbytes hbase
    have hwhere : Whereto w v v' := by
      rcases hown.2 with ⟨rfl, h0⟩ | ⟨g, cap, cur, rfl, hbg, hg, hnc, hcm, hcs, htake⟩
      · have hx0 : xs = [] := List.length_eq_zero_iff.1 h0
        subst hx0
        obtain ⟨v2, w2, hr2, h12, h22, h32⟩ := run_append_own (P := P) w w.heap.size t o.type e i z k bytes ht hi hz0 hz1 hz2 hzs hw.pos (.slice none 0 0) 0 [] (World.ownsRow_nil w w.heap.size e k) ad ys.length c (ys.flatMap f) (hw.flat ys) hnews (hw.ones ys) (by simpa using hmax') (by simpa using hbytes) (Nat.le_refl _)
        have e1 := hr.symm.trans hr2
        simp only [Result.ok.injEq] at e1
        obtain ⟨rfl, rfl⟩ := e1
        rcases h12.2 with ⟨rfl, _⟩ | ⟨g, cap, cur, rfl, hbg, _⟩
        · exact .inl rfl
        · exact .inr ⟨g, rfl, hbg⟩
      · by_cases hroom : xs.length + ys.length ≤ cap
        · obtain ⟨w2, hr2, _⟩ := run_append_own_spare (P := P) w base t o.type e i k ht hi hz1 g xs.length cap (xs.flatMap f) hown ad ys.length c (ys.flatMap f) (hw.flat ys) hnews (hw.ones ys) hroom
          have e1 := hr.symm.trans hr2
          simp only [Result.ok.injEq] at e1
          obtain ⟨rfl, rfl⟩ := e1
          exact .inl rfl
        · have holds : ∀ j u, (xs.flatMap f)[j]? = some u → w.cell? ((⟨g, 0, none⟩ : Addr).add j) = some u := World.ownsRow.cells hown (g := g) rfl
          have hr2 := run_append_grow (P := P) w t o.type e i z ht hi hz0 ⟨g, 0, none⟩ xs.length cap (xs.flatMap f) (by rw [hz1]; exact hw.flat xs) holds ad ys.length c (ys.flatMap f) (by rw [hz1]; exact hw.flat ys) hnews (by omega) (by omega) (by rw [hz2]; exact growslice_fits (by omega) hbytes)
          have e1 := hr.symm.trans hr2
          simp only [Result.ok.injEq] at e1
          obtain ⟨rfl, rfl⟩ := e1
          exact .inr ⟨_, rfl, Nat.le_refl _⟩
    unfold Oper.wp
    simp [execOp, ho, resolve, invoke, builtin, hs, hx, hvx, hr, Result.andThen]
    refine h v' w' ?_ h2 (below_grown h2 hbase fun k hk => (hown.block_lt k hk).1) hwhere
    unfold OwnRow
    rw [List.length_append, List.flatMap_append]
    exact h1
  rcases hsrc with ⟨rfl, ad, cap, rfl, hc, hn⟩ | ⟨b, off, cap, rfl, h0, hl, hm, hc⟩
  · cases ad with
    | none =>
      obtain rfl := hn rfl
      have hrun := run_append_owned_none (P := P) (w := w) base t o.type e i k ht hi v xs.length (xs.flatMap f) hown
      unfold Oper.wp
      simp [execOp, ho, resolve, invoke, builtin, hs, hx, hrun, Result.andThen]
      exact h v w (by rw [List.append_nil]; exact hown) ⟨rfl, rfl, rfl, Nat.le_refl _, fun _ _ _ => rfl⟩ (Below.refl _ _) (.inl rfl)
    | some ad => exact key ad cap rfl (by simp)
  · refine key _ cap rfl fun j u hj => ?_
    rw [add_plain]
    exact hc j u hj
theorem wpList_append_rowW {f : α → List Value} {k : Nat} (hw : Wide f k) {w : World} {ops : Array Oper} {rest : List Oper} {o : Oper} {a : Act} {Q : Exit → Act → World → Prop} (hgd : o.guard = none) (s x : Operand) (t : TypeId)
    (ho : o.op = .call { callee := .builtin .append, args := #[s, x], argTypes := #[t, t] })
    (base : Nat) (e : TypeId) (z : Value) (bytes : Nat) (ht : P.underlying t = some (.slice e)) (hinfo : (P.info? e).map (fun i => (i.zero, i.size, i.bytes)) = some (some z, k, bytes)) (hzs : z.cells.size = k)
    (v : Value) (xs : List α) (hs : a.eval s = v) (hown : OwnRow f k e w base v xs) (vx : Value) (ys : List α) (hx : a.eval x = vx) (hsrc : IsRow f w vx ys)
    (hbytes : (xs.length + ys.length) * bytes ≤ 140737488355328) (hmax : xs.length + ys.length ≤ 9223372036854775807) (hbase : base ≤ w.heap.size)
    (h : ∀ v' w', OwnRow f k e w' base v' (xs ++ ys) → w.grownBy w' v.ownBlock → Below base w w' → Whereto w v v' → wpList P ops Q rest (a.put o.dst v') w') : wpList P ops Q (o :: rest) a w :=
  wpList_plain hgd fun _ hK => wp_append_rowW hw s x t ho base e z bytes ht hinfo hzs v xs hs hown vx ys hx hsrc hbytes hmax hbase fun v' w' h1 h2 h3 h4 => hK _ _ (h v' w' h1 h2 h3 h4)
end
end Go.Proofs.Ytgmdhedabmkcoaa
