/- Acts (an uber to be committed, when the power goes, what is kept) in a slice that came in. -/
import Derived.Test.YtgmdhedabmkcoaaUbJ
import Derived.Test.YtgmdhedabmkcoaaDevK
import Derived.Test.YtgmdhedabmkcoaaRowO
import Derived.SizedLaws
set_option linter.unusedSimpArgs false
set_option linter.unusedVariables false
namespace Go.Proofs.Ytgmdhedabmkcoaa
open Go.RowKit Go.Sort

/-- rows_trod, and each element's data is one of those that came in. -/
theorem rows_trodW {α : Type} {f : α → List Value} {k : Nat} (hw : Wide f k) (Q : α → Prop) {H : Type} {enc : TypeId × Value → H} {P : Program} {W : World} {t e : TypeId} {v : Value} {d : DataW H} {ps : List MemPlace} {fuel : Nat}
    (ht : P.underlying t = some (.slice e)) (hc1 : P.cellsOf e = k)
    (hdec : ∀ n cs y, DataW.trod enc P W 0 (fun _ => true) true n e cs = some y → (∀ m ∈ y.1.weights P e, m ∈ d.weights P t) → ∃ x, cs = f x ∧ Q x)
    (hf : DataW.trod enc P W 0 (fun _ => true) true fuel t [v] = some (d, ps)) :
    ∃ l : List α, IsRow f W v l ∧ l.length ≤ dlen d ∧ (d = .nil ∨ ∃ x y, d = .slice x y) ∧ ∀ x ∈ l, Q x := by
  rcases DataW.trod_slice ht hf with ⟨h1, h2⟩ | ⟨a, len, cap, elems, rest, n, _, hcs, hx, _, hl, hm, hel, hget, hsp, _⟩
  · simp at h1
    subst h1
    simp only [Prod.mk.injEq] at h2
    exact ⟨[], IsRow.nil f W, by simp, .inl h2.1, by simp⟩
  · simp at hcs
    subst hcs
    simp only [Prod.mk.injEq] at hx
    obtain ⟨rfl, _⟩ := hx
    have hwt : ∀ y ∈ elems, ∀ m ∈ y.1.weights P e, m ∈ (DataW.slice (elems.map (·.1)) (rest.map (·.1))).weights P t := by
      intro y hy m hm
      simp only [DataW.weights, ht]
      refine List.mem_cons_of_mem _ (List.mem_append_left _ ?_)
      have : ∀ (ds : List (DataW H)), y.1 ∈ ds → m ∈ DataW.weightsAll P e ds := by
        intro ds
        induction ds with
        | nil => intro h; cases h
        | cons z r ih =>
          intro h
          simp only [DataW.weightsAll, List.mem_append]
          rcases List.mem_cons.1 h with h | h
          · exact .inl (h ▸ hm)
          · exact .inr (ih h)
      exact this _ (List.mem_map.2 ⟨y, hy, rfl⟩)
    have each : ∀ i, i < len → ∃ x, (∀ j u, (f x)[j]? = some u → W.cell? ((a.add (i * k)).add j) = some u) ∧ Q x := by
      intro i hi
      have h := hget i hi
      rw [hc1, List.getElem?_eq_getElem (by omega), Option.bind_eq_some_iff] at h
      obtain ⟨cs, hcs, hy⟩ := h
      obtain ⟨x, rfl, hq⟩ := hdec n cs _ hy (hwt _ (List.getElem_mem _))
      refine ⟨x, fun j u hj => ?_, hq⟩
      have hjl : j < k := by rw [← hw.len x]; exact (List.getElem?_eq_some_iff.1 hj).1
      have := (World.cells?_some hcs).2.2 j hjl
      rw [this]
      exact hj
    have all : ∀ m, m ≤ len → ∃ l : List α, l.length = m ∧ (∀ j u, (l.flatMap f)[j]? = some u → W.cell? (a.add j) = some u) ∧ ∀ x ∈ l, Q x := by
      intro m
      induction m with
      | zero => exact fun _ => ⟨[], rfl, fun j u h => by simp at h, by simp⟩
      | succ m ih =>
        intro hk
        obtain ⟨l, h1, h2, h3⟩ := ih (by omega)
        obtain ⟨x, hx, hq⟩ := each m (by omega)
        refine ⟨l ++ [x], by simp [h1], fun j u hj => ?_, fun y hy => ?_⟩
        · rw [List.flatMap_append] at hj
          by_cases hjl : j < (l.flatMap f).length
          · rw [List.getElem?_append_left hjl] at hj
            exact h2 j u hj
          · rw [List.getElem?_append_right (by omega)] at hj
            simp only [List.flatMap_cons, List.flatMap_nil, List.append_nil] at hj
            have := hx _ u hj
            rw [hw.flat, h1] at this hjl
            rw [add_add_at] at this
            rw [show m * k + (j - m * k) = j from by omega] at this
            exact this
        · rcases List.mem_append.1 hy with hy | hy
          · exact h3 y hy
          · simp at hy; subst hy; exact hq
    obtain ⟨l, h1, h2, h3⟩ := all len (Nat.le_refl _)
    refine ⟨l, ?_, by simp [dlen, h1, hel], .inr ⟨_, _, rfl⟩, h3⟩
    by_cases h0 : len = 0
    · subst h0
      have : l = [] := List.length_eq_zero_iff.1 h1
      subst this
      exact .inl ⟨rfl, _, cap, rfl, hm, fun h => by cases h⟩
    · have hpos : 0 < (l.flatMap f).length := by rw [hw.flat, h1]; exact Nat.mul_pos (by omega) hw.pos
      have hc0 := h2 0 _ (List.getElem?_eq_getElem hpos)
      obtain ⟨b, off, spot⟩ := a
      have hspot : spot = none := by simpa [Addr.add] using World.cell?_spot hc0
      subst hspot
      refine .inr ⟨b, off, cap, by rw [h1], by omega, by omega, hm, fun j u hj => ?_⟩
      have := h2 j u hj
      rw [add_plain] at this
      exact this
theorem weigh {H : Type} {P : Program} {ts : List TypeId} {ds : List (DataW H)} (h : (DataW.weightsEach P ts ds).all (· ≤ reachBytes) = true) {j : Nat} {t : TypeId} {d : DataW H} (ht : ts[j]? = some t) (hd : ds[j]? = some d) : ∀ m ∈ d.weights P t, m ≤ reachBytes := fun m hm => by
  have := List.all_eq_true.1 h _ (DataW.weights_mem_each ht hd m hm)
  simpa using this

structure UActD where
  u : UbD
  brk : Int
  ks : List Bool
structure UActV where
  d : UActD
  a : Option Addr
  n : Nat
  c : Nat
def uactC (y : UActV) : Array Value := #[.int .u64 (y.d.u.txg : Int), .int .u64 (y.d.u.stamp : Int), .int .i64 y.d.u.tab.loc, .int .u64 (y.d.u.tab.birth : Int), .int .u32 (y.d.u.tab.sum : Int), .int .i64 y.d.u.len, .int .i64 y.d.u.sec, .int .i64 y.d.brk, .slice y.a y.n y.c]
def uacells (y : UActV) : List Value := (uactC y).toList
theorem uactC_size (y : UActV) : (uactC y).size = 9 := rfl
theorem uactC_one (y : UActV) : (uactC y).all (·.oneCell') = true := by simp [uactC, Value.oneCell']
theorem uaw : Wide uacells 9 := ⟨by omega, fun _ => rfl, fun y v hv => by
  have := uactC_one y
  rw [Array.all_eq_true'] at this
  exact this v (by simpa [uacells] using hv)⟩
def zUAct : UActV := ⟨⟨zUb, 0, []⟩, none, 0, 0⟩
theorem info_uact (y : UActV) : (Try.prog.info? 49).map (·.size) = some (uactC y).size := by rw [uactC_size]; kernel_rfl
theorem zero_uact : ∀ W : World, (zeroValue 49).run Try.prog W = .ok (.agg (uactC zUAct)) W :=
  (zero_of_info (P := Try.prog) (t := 49) (v := .agg (uactC zUAct)) (n := 9) (by kernel_rfl)).1
theorem uact_at {w : World} {g : Nat} {t : TypeId} {y : UActV} (h : Blk w g t (uactC y)) :
    w.rangeAt g 0 (uC y.d.u).toList ∧ w.cell? ⟨g, 7, none⟩ = some (.int .i64 y.d.brk) ∧ w.cell? ⟨g, 8, none⟩ = some (.slice y.a y.n y.c) := by
  refine ⟨fun j v hj => ?_, by rw [h.cell]; rfl, by rw [h.cell]; rfl⟩
  rw [h.cell]
  match j, hj with
  | 0, hj => exact hj
  | 1, hj => exact hj
  | 2, hj => exact hj
  | 3, hj => exact hj
  | 4, hj => exact hj
  | 5, hj => exact hj
  | 6, hj => exact hj
  | (n + 7), hj => simp [uC] at hj
def UActD.wf (x : UActD) : Prop := x.u.wf ∧ (-9223372036854775808 ≤ x.brk ∧ x.brk ≤ 9223372036854775807) ∧ x.ks.length ≤ 140737488351232
/-- A slice of acts. -/
def IsUActs (w : World) (v : Value) (l : List UActD) : Prop := ∃ ys : List UActV, ys.map (·.d) = l ∧ IsRow uacells w v ys ∧ ∀ y ∈ ys, IsOnes boolCell w (.slice y.a y.n y.c) y.d.ks
theorem IsUActs.up {w w' : World} {v : Value} {l : List UActD} (h : IsUActs w v l) (hu : Up w w') : IsUActs w' v l := by
  obtain ⟨ys, h1, h2, h3⟩ := h
  exact ⟨ys, h1, IsRow.up h2 hu, fun y hy => (h3 y hy).up hu⟩
theorem IsUActs.slice {w : World} {v : Value} {l : List UActD} (h : IsUActs w v l) : ∃ a cap, v = .slice a l.length cap := by
  obtain ⟨ys, rfl, h2, _⟩ := h
  rw [List.length_map]
  exact h2.slice
theorem uacts_at {w : World} {a : Option Addr} {n cap : Nat} {l : List UActD} (h : IsUActs w (.slice a n cap) l) (h0 : 0 < l.length) :
    ∃ b off, a = some ⟨b, off, none⟩ ∧ b < w.heap.size ∧ ∀ i (hi : i < l.length), ∃ y : UActV, y.d = l[i] ∧ w.rangeAt b (off + i * 9) (uactC y).toList ∧ IsOnes boolCell w (.slice y.a y.n y.c) l[i].ks := by
  obtain ⟨ys, rfl, h2, h3⟩ := h
  rw [List.length_map] at h0
  obtain ⟨b, off, h4, h5, _, h6⟩ := IsRow.get h2 uaw h0
  refine ⟨b, off, h4, h5, fun i hi => ?_⟩
  rw [List.length_map] at hi
  refine ⟨ys[i], by rw [List.getElem_map], fun j v hj => ?_, ?_⟩
  · have := h6 i hi j v hj
    rw [show off + i * 9 + j = off + (i * 9 + j) by omega]
    exact this
  · rw [List.getElem_map]
    exact h3 _ (List.getElem_mem hi)
theorem cells_ua : Try.prog.cellsOf 49 = 9 ∧ Try.prog.cellsOf 27 = 7 ∧ Try.prog.cellsOf 3 = 1 ∧ Try.prog.cellsOf 47 = 1 ∧ Try.prog.cellsOf 4 = 1 ∧ Try.prog.bytesOf 4 = 1 := by
  refine ⟨?_, ?_, ?_, ?_, ?_, ?_⟩ <;> kernel_rfl
theorem dec_boolU {H : Type} {enc : TypeId × Value → H} {P : Program} {W : World} {e : TypeId} (he : P.underlying e = some .bool) :
    ∀ n c y, DataW.trod enc P W 0 (fun _ => true) true n e [c] = some y → ∃ x, c = boolCell x ∧ True := by
  intro n c y hy
  obtain ⟨b, hb, _⟩ := DataW.trod_bool he hy
  simp at hb
  exact ⟨b, hb, trivial⟩
set_option maxRecDepth 100000 in
theorem open_uact {H : Type} {enc : TypeId × Value → H} {W : World} {n0 : Nat} {cs : List Value} {x : DataW H × List MemPlace}
    (hf : DataW.trod enc Try.prog W 0 (fun _ => true) true n0 49 cs = some x) (hw : ∀ m ∈ x.1.weights Try.prog 49, m ≤ reachBytes) :
    ∃ y : UActV, cs = uacells y ∧ IsOnes boolCell W (.slice y.a y.n y.c) y.d.ks ∧ y.d.wf := by
  obtain ⟨k0, k1, k2, k3, k4, k5⟩ := cells_ua
  obtain ⟨xs, n, _, rfl, hl, hlen, hg⟩ := DataW.trod_struct Try.underlying49 hf
  rw [k0] at hl
  match cs, hl with
  | [c0, c1, c2, c3, c4, c5, c6, c7, c8], _ =>
  match xs, hlen with
  | [y0, y1, y2], _ =>
  have g0 := hg 0 _ rfl
  have g1 := hg 1 _ rfl
  have g2 := hg 2 _ rfl
  simp [k1, k2, k3] at g0 g1 g2
  obtain ⟨u, h0, w0⟩ := ub_trod g0
  obtain ⟨m1, h1, _, w1⟩ := DataW.trod_int Try.underlying3 g1
  obtain ⟨d2, p2⟩ := y2
  obtain ⟨l2, r2, s2, t2, _⟩ := ones_trod boolCell (fun _ => True) Try.underlying47 k4 (dec_boolU Try.underlying4) g2
  simp [ucells, uC] at h0
  simp at h1
  obtain ⟨rfl, rfl, rfl, rfl, rfl, rfl, rfl⟩ := h0
  subst h1
  have b1 : -9223372036854775808 ≤ m1 ∧ m1 ≤ 9223372036854775807 := by simpa [Lit.wf, IntKind.min, IntKind.max, IntKind.signed, IntKind.bits] using w1
  obtain ⟨pa, pc, rfl⟩ := r2.slice
  refine ⟨⟨⟨u, m1, l2⟩, pa, l2.length, pc⟩, rfl, r2, w0, b1, ?_⟩
  show l2.length ≤ _
  rcases t2 with rfl | ⟨ee, ss, rfl⟩
  · simp [dlen] at s2; simp [s2]
  · have hm := hw ((ee.length + ss.length) * 1) (by
      simp only [DataW.weights, Try.underlying49]
      exact DataW.weights_mem_each (j := 2) rfl rfl _ (by simp [DataW.weights, Try.underlying47, k5]))
    have s2' : l2.length ≤ ee.length + ss.length := s2
    unfold reachBytes at hm
    omega
set_option maxRecDepth 100000 in
theorem open_uacts {H : Type} {enc : TypeId × Value → H} {W : World} {base : Nat} {v : Value} {d : DataW H} {ps : List MemPlace}
    (hval : Value.okWide Try.prog W .any base 44 v) (hd : DataW.Trod enc Try.prog W 0 (fun _ => true) true 44 v d ps) (hwt : ∀ m ∈ d.weights Try.prog 44, m ≤ reachBytes) :
    ∃ l : List UActD, IsUActs W v l ∧ ∀ x ∈ l, x.wf := by
  obtain ⟨a0, len, cap, rfl⟩ := WideShapes.okWide_slice Try.underlying44 hval
  obtain ⟨fuel, hf⟩ := hd
  obtain ⟨ys, h1, _, _, h4⟩ := rows_trodW uaw (fun y : UActV => IsOnes boolCell W (.slice y.a y.n y.c) y.d.ks ∧ y.d.wf) Try.underlying44 cells_ua.1 (fun n cs y hy hm => by
    obtain ⟨z, hz, q1, q2⟩ := open_uact hy (fun m h => hwt m (hm m h))
    exact ⟨z, hz, q1, q2⟩) hf
  refine ⟨ys.map (·.d), ⟨ys, rfl, h1, fun y hy => (h4 y hy).1⟩, fun x hx => ?_⟩
  obtain ⟨y, hy, rfl⟩ := List.mem_map.1 hx
  exact (h4 y hy).2
end Go.Proofs.Ytgmdhedabmkcoaa
