/- Ubers in order: plain laws; slices.SortFunc at a row of ubers of the call's own. -/
import Derived.Test.YtgmdhedabmkcoaaUbF
import Derived.Test.YtgmdhedabmkcoaaLaid
import Derived.Shelf.SlSortCmp.NoneTotal
set_option linter.unusedSimpArgs false
set_option linter.unusedVariables false
namespace Go.Proofs.Ytgmdhedabmkcoaa
open Go.RowKit Go.Sort

instance : Inhabited UbD := ⟨zUb⟩
def insU (u : UbD) : List UbD → List UbD
  | [] => [u]
  | x :: l => if u.txg < x.txg then u :: x :: l else x :: insU u l
def sortU (l : List UbD) : List UbD := l.foldl (fun out u => insU u out) []
theorem insU_perm (u : UbD) : ∀ l, (insU u l).Perm (u :: l)
  | [] => List.Perm.refl _
  | x :: l => by
    rw [insU]
    split
    · exact List.Perm.refl _
    · exact ((insU_perm u l).cons x).trans (List.Perm.swap _ _ _)
theorem fold_perm : ∀ (l out : List UbD), (l.foldl (fun out u => insU u out) out).Perm (out ++ l)
  | [], out => by simp
  | u :: l, out => by
    rw [List.foldl_cons]
    refine (fold_perm l (insU u out)).trans ?_
    refine ((insU_perm u out).append_right l).trans ?_
    rw [List.cons_append]
    exact List.perm_middle.symm
theorem sortU_perm (l : List UbD) : (sortU l).Perm l := by
  have := fold_perm l []
  rw [List.nil_append] at this
  exact this
def Asc (l : List UbD) : Prop := l.Pairwise (fun a b => a.txg < b.txg)
theorem insU_asc (u : UbD) : ∀ l : List UbD, Asc l → (∀ x ∈ l, x.txg ≠ u.txg) → Asc (insU u l)
  | [], _, _ => by unfold Asc insU; simp
  | x :: l, h, hn => by
    unfold Asc at *
    rw [insU]
    have hx := List.pairwise_cons.1 h
    split
    · rename_i hlt
      refine List.pairwise_cons.2 ⟨fun y hy => ?_, h⟩
      rcases List.mem_cons.1 hy with rfl | hy
      · exact hlt
      · exact Nat.lt_trans hlt (hx.1 y hy)
    · rename_i hlt
      have hne := hn x List.mem_cons_self
      refine List.pairwise_cons.2 ⟨fun y hy => ?_, insU_asc u l hx.2 (fun z hz => hn z (List.mem_cons_of_mem _ hz))⟩
      rcases List.mem_cons.1 ((insU_perm u l).mem_iff.1 hy) with rfl | hy
      · omega
      · exact hx.1 y hy
def Dist (l : List UbD) : Prop := l.Pairwise (fun a b => a.txg ≠ b.txg)
theorem fold_asc : ∀ (l out : List UbD), Asc out → Dist l → (∀ x ∈ out, ∀ y ∈ l, x.txg ≠ y.txg) → Asc (l.foldl (fun out u => insU u out) out)
  | [], out, h, _, _ => h
  | u :: l, out, h, hd, hx => by
    rw [List.foldl_cons]
    have hd' := List.pairwise_cons.1 hd
    refine fold_asc l (insU u out) (insU_asc u out h (fun x hxx => hx x hxx u List.mem_cons_self)) hd'.2 (fun x hxx y hy => ?_)
    rcases List.mem_cons.1 ((insU_perm u out).mem_iff.1 hxx) with rfl | hxx
    · exact hd'.1 y hy
    · exact hx x hxx y (List.mem_cons_of_mem _ hy)
theorem sortU_asc {l : List UbD} (h : Dist l) : Asc (sortU l) := fold_asc l [] List.Pairwise.nil h (fun x hx => by cases hx)
theorem dist_eq : ∀ {l : List UbD}, Dist l → ∀ a ∈ l, ∀ b ∈ l, a.txg = b.txg → a = b
  | [], _, a, ha, _, _, _ => by cases ha
  | x :: l, h, a, ha, b, hb, e => by
    have hx := List.pairwise_cons.1 h
    rcases List.mem_cons.1 ha with h1 | h1
    · rcases List.mem_cons.1 hb with h2 | h2
      · rw [h1, h2]
      · subst h1; exact absurd e (hx.1 b h2)
    · rcases List.mem_cons.1 hb with h2 | h2
      · subst h2; exact absurd e.symm (hx.1 a h1)
      · exact dist_eq hx.2 a h1 b h2 e
theorem sortU_uniq {l m : List UbD} (h : Dist l) (hp : m.Perm l) (hs : m.Pairwise (fun a b => ¬ b.txg < a.txg)) : m = sortU l := by
  refine List.Perm.eq_of_pairwise (le := fun a b => a.txg ≤ b.txg) (fun a b ha hb h1 h2 => ?_) (hs.imp (fun h => by omega)) ((sortU_asc h).imp (fun h => Nat.le_of_lt h)) (hp.trans (sortU_perm l).symm)
  exact dist_eq h a (hp.mem_iff.1 ha) b ((sortU_perm l).mem_iff.1 hb) (Nat.le_antisymm h1 h2)

theorem lt_cmpU (u v : UbD) : ltOf cmpU u v = decide (u.txg < v.txg) := by
  unfold ltOf cmpU
  by_cases h1 : u.txg < v.txg
  · simp [h1]
  · by_cases h2 : v.txg < u.txg <;> simp [h1, h2]
theorem swo_cmpU : SWO (ltOf cmpU) where
  irrefl x := by rw [lt_cmpU]; simp
  trans x y z h1 h2 := by rw [lt_cmpU] at *; simp at *; omega
  ntrans x y z h1 h2 := by rw [lt_cmpU] at *; simp at *; omega
theorem cmpLaysU (blk off size : Nat) (w : World) : CmpLays Try.prog 53 #[] ucells 7 cmpU blk off size w := fun m os dk _ x y => by
  show Calls Try.prog 53 #[.agg (uC x), .agg (uC y)] _ _
  exact (closure_any _ x y).mono fun e w' h => ⟨h.1, 0, #[.cells (uC x) 27] ++ #[.cells (uC y) 27], h.2.trans (by rw [alloc_eq_grow, alloc_eq_grow, grow_grow]; rfl)⟩
theorem IsRow.holdsU {w : World} {g : Nat} {l : List UbD} (hc : ∀ i (hi : i < l.length) j u, (ucells l[i])[j]? = some u → w.cell? ⟨g, 0 + (i * 7 + j), none⟩ = some u) (hf : ∀ i : Nat, w.frozen? ⟨g, i, none⟩ = false) : HoldsK ucells 7 w g 0 l.toArray := by
  intro j hj
  rw [size_flatK] at hj
  refine ⟨?_, by have := hf (0 + j); simpa using this⟩
  have hi : j / 7 < l.length := by simp at hj; omega
  have h7 : j % 7 < 7 := Nat.mod_lt _ (by omega)
  have hlen : (ucells l[j / 7]).length = 7 := rfl
  have hb7 : j % 7 < (ucells l[j / 7]).length := by rw [hlen]; exact h7
  have := hc (j / 7) hi (j % 7) (ucells l[j / 7])[j % 7] (List.getElem?_eq_getElem hb7)
  rw [get_flatK _ _ _ _ (by simpa using hj)]
  have e : 0 + (j / 7 * 7 + j % 7) = 0 + j := by omega
  rw [e] at this
  rw [this]
  have h1 : l.toArray[j / 7]! = l[j / 7] := by simp [hi]
  rw [h1]
  show _ = some ((ucells l[j / 7])[j % 7]!)
  rw [getElem!_pos (ucells l[j / 7]) (j % 7) hb7]
theorem IsRow.ofHoldsU {w : World} {g cap : Nat} {d : Array UbD} (h : HoldsK ucells 7 w g 0 d) (h0 : 0 < d.size) (hc : d.size ≤ cap) (hm : cap ≤ maxLen) : IsRow ucells w (.slice (some ⟨g, 0, none⟩) d.size cap) d.toList := by
  refine .inr ⟨g, 0, cap, by simp, by simpa using h0, by simpa using hc, hm, fun j u hj => ?_⟩
  have hlt : j < d.size * 7 := by
    have := (List.getElem?_eq_some_iff.1 hj).1
    rw [uw.flat] at this
    simpa using this
  have h7 : j % 7 < 7 := Nat.mod_lt _ (by omega)
  have hi : j / 7 < d.toList.length := by simp; omega
  have hat := uw.at d.toList (j / 7) hi (j % 7) h7
  rw [show j / 7 * 7 + j % 7 = j by omega, hj] at hat
  have hc2 := (h.cell (i := j / 7) (c := j % 7) (by simpa using hi) h7).1
  rw [show 0 + j / 7 * 7 + j % 7 = 0 + j by omega] at hc2
  rw [hc2]
  have hb7 : j % 7 < (ucells d.toList[j / 7]).length := by rw [uw.len]; exact h7
  rw [List.getElem?_eq_getElem hb7] at hat
  have h1 : d[j / 7]! = d.toList[j / 7] := by
    have : j / 7 < d.size := by simpa using hi
    simp [this]
  rw [h1, getElem!_pos (ucells d.toList[j / 7]) (j % 7) hb7]
  exact hat.symm
set_option maxRecDepth 100000 in
theorem sort_own (w : World) (base : Nat) (v : Value) (l : List UbD) (h : OwnRow ucells 7 27 w base v l) (hl : l.length ≤ 1000) :
    Calls Try.prog 52 #[v, .func (.func 53) #[] #[]] w fun e w' => e = .returned (.tuple #[]) ∧ ∃ l', l'.Perm l ∧ l'.Pairwise (fun a b => ¬ b.txg < a.txg) ∧ IsRow ucells w' v l' ∧ Touch (fun b => v.ownBlock = some b) w w' := by
  by_cases h0 : l = []
  · subst h0
    have hr := OwnRow.row h uw
    obtain ⟨a, cap, hv⟩ := hr.slice
    rw [List.length_nil] at hv
    subst hv
    have hcon := AnyF.slices_SortFunc_none sortUb a cap (.func (.func 53) #[] #[]) w
    change Calls Try.prog 52 _ _ _ at hcon
    refine hcon.mono fun e w' hh => ?_
    obtain ⟨he, rfl⟩ := hh
    exact ⟨he, [], List.Perm.refl _, List.Pairwise.nil, hr, Touch.refl _ _⟩
  · have hr := OwnRow.row h uw
    have hpos : 0 < l.length := List.length_pos_iff.2 h0
    have hbl := h.block_lt
    obtain ⟨_, h2⟩ := id h
    rcases h2 with ⟨_, hz⟩ | ⟨g, cap, cur, rfl, hge, hheap, hn, hm, hcs, hts⟩
    · omega
    have hfz := fun i => World.ownsRow.frozenAt h i
    obtain ⟨b, off, hb, hlt, hcap, hc⟩ := IsRow.get hr uw hpos
    simp only [Option.some.injEq, Addr.mk.injEq, and_true] at hb
    obtain ⟨rfl, rfl⟩ := hb
    have hH := IsRow.holdsU hc hfz
    have eg : ∀ args w, (callFunc 53 args).run Try.prog w = .ok (.enter 53 args) w := enters_of Try.func53 (by kernel_rfl) rfl
    have hcon := AnyQ.slices_SortFunc sortUb 7 (fun w => by kernel_rfl) (fun w => by kernel_rfl) ucells uw.len uw.one cmpU swo_cmpU 53 #[] g 0 cap l.toArray w eg (cmpLaysU g 0 l.toArray.size w) hH hlt (by simp; omega)
    change Calls Try.prog 52 _ _ _ at hcon
    rw [show l.toArray.size = l.length by simp] at hcon
    refine hcon.mono fun e w' hh => ?_
    obtain ⟨he, d', n, os, hp, hs, hw⟩ := hh
    have hsz : d'.size = l.length := by rw [hp.1]; simp
    refine ⟨he, d'.toList, ?_, ?_, ?_, ?_⟩
    · have h3 := hp.2.2
      rw [Array.extract_eq_self_of_le (by rw [hsz]; exact Nat.le_refl _), Array.extract_eq_self_of_le (by simp)] at h3
      exact h3
    · rw [List.pairwise_iff_getElem]
      intro i j hi hj hij
      have h3 := hs i j (Nat.zero_le _) hij (by simpa [hsz] using hj)
      have hi' : i < d'.size := by simpa using hi
      have hj' : j < d'.size := by simpa using hj
      rw [lt_cmpU, getElem!_pos d' i hi', getElem!_pos d' j hj'] at h3
      simpa using h3
    · have hH2 : HoldsK ucells 7 (sortWorldK ucells 7 w g 0 n d' os) g 0 d' := by
        unfold sortWorldK
        refine holdsK_grow ucells 7 _ os g 0 d' ?_ (holdsK_putRowK ucells 7 (Sort.ahead w n) g 0 l.toArray d' (holdsK_ahead ucells 7 w n g 0 _ hH) (by rw [hsz]; simp))
        unfold putRowK putRow mapBlock Sort.ahead
        simpa using hlt
      rw [hw]
      have := IsRow.ofHoldsU hH2 (by omega) (by rw [hsz]; exact hn) hm
      rw [hsz] at this
      exact this
    · rw [hw]
      unfold sortWorldK putRowK putRow mapBlock Sort.ahead grow
      refine ⟨rfl, rfl, rfl, by simp, fun k hk hF => ?_⟩
      have hne : g ≠ k := fun e => hF (by rw [← e]; rfl)
      simp only
      rw [Array.getElem?_append_left (by simpa using hk), Array.getElem?_modify, if_neg hne]
end Go.Proofs.Ytgmdhedabmkcoaa
