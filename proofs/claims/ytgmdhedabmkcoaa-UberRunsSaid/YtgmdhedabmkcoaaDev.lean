/- A device in memory: what it holds; what a call may touch; laws for wide copies and for a write's value. -/
import Derived.Test.YtgmdhedabmkcoaaSec
import Derived.Test.YtgmdhedabmkcoaaRowW
import Derived.StillTail
set_option linter.unusedSimpArgs false
set_option linter.unusedVariables false
namespace Go.Proofs.Ytgmdhedabmkcoaa
open Go.RowKit

/-- A sector's bytes. -/
abbrev Sec := { s : List UInt8 // s.length = 128 }
def zSec : Sec := ⟨zeroS, rfl⟩
def scells (s : Sec) : List Value := s.val.map byteCell
theorem sw : Wide scells 128 := ⟨by omega, fun s => by unfold scells; rw [List.length_map, s.property], fun s u hu => by
  obtain ⟨y, _, rfl⟩ := List.mem_map.1 hu; rfl⟩
theorem secC_scells (s : Sec) : (secC s.val).toList = scells s := secC_list s.val
/-- A write that is pending. -/
structure WrD where
  loc : Nat
  s : Sec
def wcells (x : WrD) : List Value := .int .i64 (x.loc : Int) :: scells x.s
theorem ww : Wide wcells 129 := ⟨by omega, fun x => by unfold wcells; rw [List.length_cons, sw.len], fun x u hu => by
  rcases List.mem_cons.1 hu with rfl | hu
  · rfl
  · exact sw.one x.s u hu⟩
/-- What a device holds. -/
structure DevD where
  stable : List Sec
  newest : List Sec
  pend : List WrD
  ops : Nat
  left : Int
  dead : Bool
/-- Where it lies. -/
structure Hnd where
  d : Nat
  g1 : Nat
  g2 : Nat
  vp : Value
def secsC (l : List Sec) : Array Value := (l.flatMap scells).toArray
theorem secsC_size (l : List Sec) : (secsC l).size = l.length * 128 := by simp [secsC, sw.flat]
theorem secsC_list (l : List Sec) : (secsC l).toList = l.flatMap scells := by simp [secsC]
def devC (h : Hnd) (v : DevD) : Array Value := #[.slice (some ⟨h.g1, 0, none⟩) v.stable.length v.stable.length, .slice (some ⟨h.g2, 0, none⟩) v.stable.length v.stable.length, h.vp, .int .i64 (v.ops : Int), .int .i64 v.left, .bool v.dead]
structure Dv (w : World) (h : Hnd) (v : DevD) : Prop where
  dev : Blk w h.d 74 (devC h v)
  b1 : Blk w h.g1 34 (secsC v.stable)
  b2 : Blk w h.g2 34 (secsC v.newest)
  len : v.newest.length = v.stable.length
  max : v.stable.length ≤ 1024
  ne : h.g1 ≠ h.g2
  pend : OwnRow wcells 129 101 w 0 h.vp v.pend
  locs : ∀ x ∈ v.pend, x.loc < v.stable.length
  ops : v.ops ≤ 4611686018427387903
  left : -1 ≤ v.left ∧ v.left ≤ 9223372036854775807
/-- The blocks that are a device's own. -/
def Foot (h : Hnd) (b : Nat) : Prop := b = h.d ∨ b = h.g1 ∨ b = h.g2 ∨ h.vp.ownBlock = some b
/-- But for the blocks of F all that was there is as it was. -/
structure Touch (F : Nat → Prop) (w w' : World) : Prop where
  os : w'.os = w.os
  tape : w'.tape = w.tape
  output : w'.output = w.output
  size : w.heap.size ≤ w'.heap.size
  block : ∀ k, k < w.heap.size → ¬ F k → w'.heap[k]? = w.heap[k]?
theorem Touch.refl (F : Nat → Prop) (w : World) : Touch F w w := ⟨rfl, rfl, rfl, Nat.le_refl _, fun _ _ _ => rfl⟩
theorem Touch.trans {F F' : Nat → Prop} {a b c : World} (h : Touch F a b) (k : Touch F' b c) (hf : ∀ n, F' n → n < a.heap.size → F n) : Touch F a c :=
  ⟨by rw [k.os, h.os], by rw [k.tape, h.tape], by rw [k.output, h.output], Nat.le_trans h.size k.size, fun n hn hF => by
    rw [k.block n (Nat.lt_of_lt_of_le hn h.size) (fun hh => hF (hf n hh hn)), h.block n hn hF]⟩
theorem Touch.of_up {F : Nat → Prop} {w w' : World} (h : Up w w') : Touch F w w' := ⟨h.os, h.tape, h.output, h.size, fun k hk _ => Below.block h k hk⟩
theorem Touch.of_grown {F : Nat → Prop} {w w' : World} {row : Option Nat} (h : w.grownBy w' row) (hf : ∀ k, row = some k → F k) : Touch F w w' := ⟨h.os, h.tape, h.output, h.size, fun k hk hF => h.block k hk (fun e => hF (hf k e.symm))⟩
theorem Touch.mono {F F' : Nat → Prop} {w w' : World} (h : Touch F w w') (hf : ∀ n, F n → F' n) : Touch F' w w' := ⟨h.os, h.tape, h.output, h.size, fun k hk hF => h.block k hk (fun hh => hF (hf k hh))⟩
/-- Where only new blocks are touched, all that was there is as it was. -/
theorem Touch.up {F : Nat → Prop} {w0 w w' : World} (h : Touch F w w') (hu : Up w0 w) (hf : ∀ n, F n → w0.heap.size ≤ n) : Up w0 w' :=
  ⟨by rw [h.os, hu.os], by rw [h.tape, hu.tape], by rw [h.output, hu.output], Nat.le_trans hu.size h.size, fun k hk => by
    rw [h.block k (Nat.lt_of_lt_of_le hk hu.size) (fun hh => by have := hf k hh; omega)]; exact Below.block hu k hk⟩
theorem Blk.touch {w w' : World} {g : Nat} {t : TypeId} {C : Array Value} {F : Nat → Prop} (h : Blk w g t C) (ht : Touch F w w') (hf : ¬ F g) : Blk w' g t C := by
  unfold Blk; rw [ht.block g h.lt hf]; exact h
theorem cell_touch {w w' : World} {F : Nat → Prop} {b o : Nat} {v : Value} (h : w.cell? ⟨b, o, none⟩ = some v) (ht : Touch F w w') (hf : ¬ F b) : w'.cell? ⟨b, o, none⟩ = some v := by
  rw [World.cell?_of_block (ht.block b (World.block_lt_of_cell? w _ h) hf)]; exact h
section
variable {w w' : World} {h : Hnd} {v : DevD}
theorem Dv.foot_lt (D : Dv w h v) (b : Nat) (hb : Foot h b) : b < w.heap.size := by
  rcases hb with rfl | rfl | rfl | hb
  · exact D.dev.lt
  · exact D.b1.lt
  · exact D.b2.lt
  · exact (D.pend.block_lt b hb).2
theorem Dv.dev_ne1 (D : Dv w h v) : h.d ≠ h.g1 := fun e => by
  have h1 := D.dev
  rw [e] at h1
  have := h1.symm.trans D.b1
  simp at this
theorem Dv.dev_ne2 (D : Dv w h v) : h.d ≠ h.g2 := fun e => by
  have h1 := D.dev
  rw [e] at h1
  have := h1.symm.trans D.b2
  simp at this
/-- The pending writes lie in a block of another type. -/
theorem own_ne {t e : TypeId} {base g : Nat} {C : Array Value} {α : Type} {f : α → List Value} {k : Nat} {vp : Value} {xs : List α} (hne : t ≠ e) (hb : Blk w g t C) (ho : OwnRow f k e w base vp xs) : vp.ownBlock ≠ some g := fun e0 => by
  obtain ⟨_, h2⟩ := ho
  rcases h2 with ⟨rfl, _⟩ | ⟨g', cap, cur, rfl, _, hh, _⟩
  · simp [Value.ownBlock] at e0
  · simp [Value.ownBlock] at e0
    subst e0
    have := hb.symm.trans hh
    simp at this
    exact hne this.2
theorem Dv.up (D : Dv w h v) (hu : Up w w') : Dv w' h v := ⟨D.dev.up hu, D.b1.up hu, D.b2.up hu, D.len, D.max, D.ne, D.pend.up hu, D.locs, D.ops, D.left⟩
theorem OwnRow.touch {α : Type} {f : α → List Value} {k : Nat} {e : TypeId} {base : Nat} {vp : Value} {xs : List α} (ho : OwnRow f k e w base vp xs) {F : Nat → Prop} (ht : Touch F w w') (hf : ∀ b, vp.ownBlock = some b → ¬ F b) : OwnRow f k e w' base vp xs := by
  obtain ⟨h1, h2⟩ := ho
  refine ⟨h1, ?_⟩
  rcases h2 with h2 | ⟨g, cap, cur, hv, hg, hh, r⟩
  · exact .inl h2
  · have hlt : g < w.heap.size := (Array.getElem?_eq_some_iff.1 hh).1
    exact .inr ⟨g, cap, cur, hv, hg, by rw [ht.block g hlt (hf g (by rw [hv]; rfl))]; exact hh, r⟩
/-- A device stays while others are touched. -/
theorem Dv.touch (D : Dv w h v) {F : Nat → Prop} (ht : Touch F w w') (hf : ∀ b, Foot h b → ¬ F b) : Dv w' h v :=
  ⟨D.dev.touch ht (hf _ (.inl rfl)), D.b1.touch ht (hf _ (.inr (.inl rfl))), D.b2.touch ht (hf _ (.inr (.inr (.inl rfl)))), D.len, D.max, D.ne, D.pend.touch ht (fun b hb => hf b (.inr (.inr (.inr hb)))), D.locs, D.ops, D.left⟩
theorem Dv.cells (D : Dv w h v) : w.cell? ⟨h.d, 0, none⟩ = some (.slice (some ⟨h.g1, 0, none⟩) v.stable.length v.stable.length) ∧ w.cell? ⟨h.d, 1, none⟩ = some (.slice (some ⟨h.g2, 0, none⟩) v.stable.length v.stable.length) ∧ w.cell? ⟨h.d, 2, none⟩ = some h.vp ∧
    w.cell? ⟨h.d, 3, none⟩ = some (.int .i64 (v.ops : Int)) ∧ w.cell? ⟨h.d, 4, none⟩ = some (.int .i64 v.left) ∧ w.cell? ⟨h.d, 5, none⟩ = some (.bool v.dead) := by
  refine ⟨?_, ?_, ?_, ?_, ?_, ?_⟩ <;> (rw [D.dev.cell]; rfl)
end
/-- A device that a call has turned: where it lies now; what else may have been touched. -/
def Turned (w : World) (h : Hnd) (v' : DevD) (w' : World) : Prop := ∃ vp, Dv w' { h with vp := vp } v' ∧ Touch (Foot h) w w' ∧ ∀ b, vp.ownBlock = some b → h.vp.ownBlock = some b ∨ w.heap.size ≤ b
theorem Turned.same {w w' : World} {h : Hnd} {v' : DevD} (D : Dv w' h v') (ht : Touch (Foot h) w w') : Turned w h v' w' := ⟨h.vp, D, ht, fun b hb => .inl hb⟩
theorem Turned.foot {w w' : World} {h : Hnd} {vp : Value} (hw : ∀ b, vp.ownBlock = some b → h.vp.ownBlock = some b ∨ w.heap.size ≤ b) (b : Nat) (hb : Foot { h with vp := vp } b) : Foot h b ∨ w.heap.size ≤ b := by
  rcases hb with hb | hb | hb | hb
  · exact .inl (.inl hb)
  · exact .inl (.inr (.inl hb))
  · exact .inl (.inr (.inr (.inl hb)))
  · rcases hw b hb with h | h
    · exact .inl (.inr (.inr (.inr h)))
    · exact .inr h

/-! A write's value. -/
theorem foldl_sets : ∀ (l : List Value) (k off : Nat) (cs : Array Value), off + k + l.length ≤ cs.size → ((l.zipIdx k).foldl (fun (cs : Array Value) p => cs.setIfInBounds (off + p.2) p.1) cs).toList = cs.toList.take (off + k) ++ (l ++ cs.toList.drop (off + k + l.length))
  | [], k, off, cs, _ => by simp
  | v :: l, k, off, cs, hc => by
    simp only [List.length_cons] at hc
    rw [List.zipIdx_cons, List.foldl_cons]
    have ih := foldl_sets l (k + 1) off (cs.setIfInBounds (off + k) v) (by simp; omega)
    rw [ih, Array.toList_setIfInBounds]
    have h1 : (cs.toList.set (off + k) v).take (off + (k + 1)) = cs.toList.take (off + k) ++ [v] := by
      rw [show off + (k + 1) = off + k + 1 by omega, List.take_succ_eq_append_getElem (by simp; omega), List.getElem_set_self, List.take_set_of_le (Nat.le_refl _)]
    have h2 : (cs.toList.set (off + k) v).drop (off + (k + 1) + l.length) = cs.toList.drop (off + k + (v :: l).length) := by
      rw [List.drop_set_of_lt (by omega)]
      congr 1
      simp
      omega
    rw [h1, h2]
    simp
def zWr : WrD := ⟨0, zSec⟩
def wrC (x : WrD) : Array Value := (wcells x).toArray
theorem wrC_size (x : WrD) : (wrC x).size = 129 := by unfold wrC; rw [List.size_toArray]; exact ww.len x
theorem wrC_one (x : WrD) : (wrC x).all (·.oneCell') = true := all_oneCell_toArray (ww.one x)
theorem info_wr : (Try.prog.info? 101).map (fun i => (i.zero, i.size, i.bytes)) = some (some (.agg (wrC zWr)), 129, 136) := by kernel_rfl
theorem foldl_zip (V cs : Array Value) (off : Nat) (h : off + V.size ≤ cs.size) : V.zipIdx.foldl (fun (cs : Array Value) (p : Value × Nat) => cs.setIfInBounds (off + p.2) p.1) cs = (splice cs.toList off V.toList).toArray := by
  apply Array.toList_inj.1
  rw [← Array.foldl_toList, Array.toList_zipIdx, foldl_sets V.toList 0 off cs (by simpa using h)]
  simp [splice]
theorem built_wr (x : WrD) : Try.prog.built 101 [(0, .int .i64 (x.loc : Int)), (1, .agg (secC x.s.val))] = some (wrC x) := by
  obtain ⟨i, hi, hz0, _, _⟩ := info_parts info_wr
  unfold Program.built
  rw [hi, Try.underlying101]
  simp only [hz0]
  rw [show (List.mapM (fun (f : Field) => (Try.prog.info? f.type).map fun i => (f.offset, i.size)) _ : Option (List (Nat × Nat))) = some [(0, 1), (1, 128)] from by kernel_rfl]
  have h1 : (secC x.s.val).size = 128 := by rw [secC_size]; exact x.s.property
  have h0 := wrC_size zWr
  simp only [Instr.fill, Value.cells]
  have hf := foldl_zip (secC x.s.val) ((wrC zWr).setIfInBounds 0 (.int .i64 (x.loc : Int))) 1 (by simp [h0, h1])
  simp only [Array.size_zipIdx, h1] at hf
  simp [h0, h1]
  rw [hf]
  apply Array.toList_inj.1
  simp only [List.toList_toArray, splice, Array.toList_setIfInBounds]
  have hl : (wrC zWr).toList.length = 129 := by simpa using h0
  have h2 : ((wrC zWr).toList.set 0 (.int .i64 (x.loc : Int))).take 1 = [.int .i64 (x.loc : Int)] := by
    cases hc : (wrC zWr).toList with
    | nil => rw [hc] at hl; simp at hl
    | cons y r => simp
  rw [h2, secC_scells, List.drop_of_length_le (by rw [List.length_set, hl, sw.len]; omega), List.append_nil]
  rfl
end Go.Proofs.Ytgmdhedabmkcoaa
