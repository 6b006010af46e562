/- Records in a slice that came in. -/
import Derived.Test.YthbfhlphclgnaaaSetF
import Derived.SizedLaws
set_option linter.unusedSimpArgs false
set_option linter.unusedVariables false
namespace Go.Proofs.Ythbfhlphclgnaaa
open Go.RowKit Go.Sort

/-- rows_trod, and each element's data is one of those that came in. -/
theorem rows_trodW {α : Type} {f : α → List Value} {k : Nat} (hw : Wide f k) (Q : α → Prop) {H : Type} {enc : TypeId × Value → H} {P : Program} {W : World} {t e : TypeId} {v : Value} {d : DataW H} {ps : List MemPlace} {fuel : Nat}
    (ht : P.underlying t = some (.slice e)) (hc1 : P.cellsOf e = k)
    (hdec : ∀ n cs y, DataW.trod enc P W 0 (fun _ => true) true n e cs = some y → (∀ m ∈ y.1.weights P e, m ∈ d.weights P t) → ∃ x, cs = f x ∧ Q x)
    (hf : DataW.trod enc P W 0 (fun _ => true) true fuel t [v] = some (d, ps)) :
    ∃ l : List α, IsRow f W v l ∧ l.length ≤ dlen d ∧ (d = .nil ∨ ∃ x y, d = .slice x y) ∧ ∀ x ∈ l, Q x := by
  rcases DataW.trod_slice ht hf with ⟨h1, h2⟩ | ⟨a, len, cap, elems, rest, n, _, hcs, hx, _, hl, hm, hel, hget, hsp, _⟩
  · simp at h1
    subst h1
    simp only [Prod.mk.injEq] at h2
    exact ⟨[], IsRow.nil f W, by simp, .inl h2.1, by simp⟩
  · simp at hcs
    subst hcs
    simp only [Prod.mk.injEq] at hx
    obtain ⟨rfl, _⟩ := hx
    have hwt : ∀ y ∈ elems, ∀ m ∈ y.1.weights P e, m ∈ (DataW.slice (elems.map (·.1)) (rest.map (·.1))).weights P t := by
      intro y hy m hm
      simp only [DataW.weights, ht]
      refine List.mem_cons_of_mem _ (List.mem_append_left _ ?_)
      have : ∀ (ds : List (DataW H)), y.1 ∈ ds → m ∈ DataW.weightsAll P e ds := by
        intro ds
        induction ds with
        | nil => intro h; cases h
        | cons z r ih =>
          intro h
          simp only [DataW.weightsAll, List.mem_append]
          rcases List.mem_cons.1 h with h | h
          · exact .inl (h ▸ hm)
          · exact .inr (ih h)
      exact this _ (List.mem_map.2 ⟨y, hy, rfl⟩)
    have each : ∀ i, i < len → ∃ x, (∀ j u, (f x)[j]? = some u → W.cell? ((a.add (i * k)).add j) = some u) ∧ Q x := by
      intro i hi
      have h := hget i hi
      rw [hc1, List.getElem?_eq_getElem (by omega), Option.bind_eq_some_iff] at h
      obtain ⟨cs, hcs, hy⟩ := h
      obtain ⟨x, rfl, hq⟩ := hdec n cs _ hy (hwt _ (List.getElem_mem _))
      refine ⟨x, fun j u hj => ?_, hq⟩
      have hjl : j < k := by rw [← hw.len x]; exact (List.getElem?_eq_some_iff.1 hj).1
      have := (World.cells?_some hcs).2.2 j hjl
      rw [this]
      exact hj
    have all : ∀ m, m ≤ len → ∃ l : List α, l.length = m ∧ (∀ j u, (l.flatMap f)[j]? = some u → W.cell? (a.add j) = some u) ∧ ∀ x ∈ l, Q x := by
      intro m
      induction m with
      | zero => exact fun _ => ⟨[], rfl, fun j u h => by simp at h, by simp⟩
      | succ m ih =>
        intro hk
        obtain ⟨l, h1, h2, h3⟩ := ih (by omega)
        obtain ⟨x, hx, hq⟩ := each m (by omega)
        refine ⟨l ++ [x], by simp [h1], fun j u hj => ?_, fun y hy => ?_⟩
        · rw [List.flatMap_append] at hj
          by_cases hjl : j < (l.flatMap f).length
          · rw [List.getElem?_append_left hjl] at hj
            exact h2 j u hj
          · rw [List.getElem?_append_right (by omega)] at hj
            simp only [List.flatMap_cons, List.flatMap_nil, List.append_nil] at hj
            have := hx _ u hj
            rw [hw.flat, h1] at this hjl
            rw [add_add_at] at this
            rw [show m * k + (j - m * k) = j from by omega] at this
            exact this
        · rcases List.mem_append.1 hy with hy | hy
          · exact h3 y hy
          · simp at hy; subst hy; exact hq
    obtain ⟨l, h1, h2, h3⟩ := all len (Nat.le_refl _)
    refine ⟨l, ?_, by simp [dlen, h1, hel], .inr ⟨_, _, rfl⟩, h3⟩
    by_cases h0 : len = 0
    · subst h0
      have : l = [] := List.length_eq_zero_iff.1 h1
      subst this
      exact .inl ⟨rfl, _, cap, rfl, hm, fun h => by cases h⟩
    · have hpos : 0 < (l.flatMap f).length := by rw [hw.flat, h1]; exact Nat.mul_pos (by omega) hw.pos
      have hc0 := h2 0 _ (List.getElem?_eq_getElem hpos)
      obtain ⟨b, off, spot⟩ := a
      have hspot : spot = none := by simpa [Addr.add] using World.cell?_spot hc0
      subst hspot
      refine .inr ⟨b, off, cap, by rw [h1], by omega, by omega, hm, fun j u hj => ?_⟩
      have := h2 j u hj
      rw [add_plain] at this
      exact this
theorem open_sets {H : Type} {enc : TypeId × Value → H} {W : World} {base : Nat} {v : Value} {d : DataW H} {ps : List MemPlace}
    (hval : Value.okWide Try.prog W .any base 23 v) (hd : DataW.Trod enc Try.prog W 0 (fun _ => true) true 23 v d ps) (hwt : ∀ m ∈ d.weights Try.prog 23, m ≤ reachBytes) :
    ∃ l : List SetD, IsSets W v l ∧ (∀ x ∈ l, x.wf) ∧ ∀ x ∈ l, x.dead.length * 24 ≤ 140737488351232 := by
  obtain ⟨a0, len, cap, rfl⟩ := WideShapes.okWide_slice Try.underlying23 hval
  obtain ⟨fuel, hf⟩ := hd
  obtain ⟨ys, h1, _, _, h4⟩ := rows_trodW setw (fun y : SetV => IsPtrs W y.v y.d.dead ∧ y.d.wf ∧ y.d.dead.length * 24 ≤ 140737488351232) Try.underlying23 cells_s.1 (fun n cs y hy hm => by
    obtain ⟨z, hz, q1, q2, q3⟩ := open_setc hy
    exact ⟨z, hz, q1, q2, q3 (fun m h => hwt m (hm m h))⟩) hf
  refine ⟨ys.map (·.d), ⟨ys, rfl, h1, fun y hy => (h4 y hy).1⟩, fun x hx => ?_, fun x hx => ?_⟩
  · obtain ⟨y, hy, rfl⟩ := List.mem_map.1 hx
    exact (h4 y hy).2.1
  · obtain ⟨y, hy, rfl⟩ := List.mem_map.1 hx
    exact (h4 y hy).2.2

set_option maxRecDepth 100000 in
set_option maxHeartbeats 4000000 in
theorem entryBytes_walk (w : World) (next : Nat) (hn : next < 18446744073709551616) (v : Value) (l : List SetD) (hv : IsSets w v l) (hwf : ∀ x ∈ l, x.wf) (hr : ∀ x ∈ l, x.dead.length * 24 ≤ 140737488351232) :
    Calls Try.prog 4 #[.int .u64 (next : Int), v] w fun e w' => e = .returned (.bool true) ∧ Up w w' := by
  obtain ⟨la, lc, rfl⟩ := hv.slice
  have HV := Lib.hid hv
  have HWF := Lib.hid hwf
  have HR := Lib.hid hr
  have AL := Lib.hid (entryAlive_any w)
  clear hv hwf hr
  by_cases h40 : 40 < l.length
  · have b1 : ((40 : Int) < (l.length : Int)) = True := by simp; omega
    go_enter Try.func4, Try.ntmps4
    go_wp2_with fail
    refine AL.out.mono ?_
    rintro e w2 ⟨rfl, U2⟩
    go_wp2_with fail
    go_ret
    exact ⟨rfl, U2⟩
  have b1 : ((40 : Int) < (l.length : Int)) = False := by simp; omega
  go_enter Try.func4, Try.ntmps4
  go_wp2_with fail
  refine AL.out.mono ?_
  rintro e w2 ⟨rfl, U2⟩
  have U2 := Lib.hid U2
  go_wp2_with fail
  refine (rcopy_any w2 _ l (HV.out.up U2.out) (by omega) (fun x hx => by have := HR.out x hx; omega)).mono ?_
  rintro e w3 ⟨vc, rfl, OC, U3⟩
  obtain ⟨ca, cc, rfl⟩ := OC.sets.slice
  have OC := Lib.hid OC.sets
  have U3 := Lib.hid (U2.out.trans U3)
  go_wp2_with fail
  refine (setsBytes_any w3 next hn _ l OC.out HWF.out).mono ?_
  rintro e w4 hb
  have HB := Lib.hid hb
  obtain ⟨o, ho⟩ : ∃ y, y = setsO next l := ⟨_, rfl⟩
  have RBY := Lib.hid (fun W U => rsetsBytes_any W next hn (.slice la l.length lc) l (HV.out.up U) HWF.out)
  have SLW := Lib.hid (fun W U U' => sameList_any W (.slice ca l.length cc) (.slice la l.length lc) l l (OC.out.up U) (HV.out.up U'))
  rw [decide_eq_true rfl] at SLW
  rw [← ho] at HB RBY
  clear hb ho
  rcases HB.out with ⟨ho, rfl, U4⟩ | ⟨m, u, ho, rfl, O4, U4⟩
  · subst ho
    have U5 := Lib.hid (U3.out.trans U4)
    have U4 := Lib.hid U4
    clear HB
    go_wp2_with fail
    refine (RBY.out _ U5.out).mono ?_
    rintro e w5 (⟨_, rfl, U6⟩ | ⟨m, u, hbad, _⟩)
    rotate_left
    · cases hbad
    have U7 := Lib.hid (U5.out.trans U6)
    have U8 := Lib.hid (U4.out.trans U6)
    have C1 := toStr w5 _ [] (IsOnes.nil _ _)
    clear U6 U5
    go_wp2_with fail
    refine (SLW.out _ U8.out U7.out).mono ?_
    rintro e w6 ⟨rfl, U9⟩
    go_wp2_with fail
    go_ret
    exact ⟨rfl, U7.out.trans U9⟩
  · subst ho
    obtain ⟨ua, uc, rfl⟩ := O4.ones.slice
    have O4 := Lib.hid O4.ones
    have U5 := Lib.hid (U3.out.trans U4)
    have U4 := Lib.hid U4
    clear HB
    go_wp2_with fail
    refine (RBY.out _ U5.out).mono ?_
    rintro e w5 (⟨hbad, _⟩ | ⟨m', u', hsome, rfl, O5, U6⟩)
    · cases hbad
    obtain rfl := Option.some.inj hsome
    obtain ⟨ub, ud, rfl⟩ := O5.ones.slice
    have U7 := Lib.hid (U5.out.trans U6)
    have U8 := Lib.hid (U4.out.trans U6)
    have C1 := toStr w5 _ m (IsOnes.up O4.out U6)
    have C2 := toStr w5 _ m O5.ones
    generalize strOf m = sm at *
    clear O5 U6 hsome U5
    go_wp2_with fail
    refine (SLW.out _ U8.out U7.out).mono ?_
    rintro e w6 ⟨rfl, U9⟩
    go_wp2_with fail
    go_ret
    exact ⟨rfl, U7.out.trans U9⟩

end Go.Proofs.Ythbfhlphclgnaaa
