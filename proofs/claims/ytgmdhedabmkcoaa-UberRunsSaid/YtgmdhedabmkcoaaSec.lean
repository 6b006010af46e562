/- Sectors: values, what they hold. -/
import Derived.Test.YtgmdhedabmkcoaaArr
import Derived.Deep.WholeRow
set_option linter.unusedSimpArgs false
namespace Go.Proofs.Ytgmdhedabmkcoaa
open Go.RowKit

def secC (s : List UInt8) : Array Value := (s.map byteCell).toArray
def zeroS : List UInt8 := List.replicate 128 0
theorem secC_size (s : List UInt8) : (secC s).size = s.length := by simp [secC]
theorem secC_list (s : List UInt8) : (secC s).toList = s.map byteCell := by simp [secC]
theorem secC_one (s : List UInt8) : (secC s).all (·.oneCell') = true := all_oneCell_toArray (fun v hv => by
  obtain ⟨y, _, rfl⟩ := List.mem_map.1 hv; rfl)
theorem info_sec : (Try.prog.info? 34).map (·.size) = some 128 := by kernel_rfl
theorem zero_sec : ∀ W : World, (zeroValue 34).run Try.prog W = .ok (.agg (secC zeroS)) W :=
  (zero_of_info (P := Try.prog) (t := 34) (v := .agg (secC zeroS)) (n := 128) (by kernel_rfl)).1
theorem built_sec : Try.prog.built 34 [] = some (secC zeroS) := by kernel_rfl
theorem sec_eq (s t : List UInt8) (hs : s.length = 128) (ht : t.length = 128) (W : World) : (Op.equalIn 10000 34 (.agg (secC s)) (.agg (secC t))).run Try.prog W = .ok (decide (s = t)) W := by
  have := run_equalIn_bytes (P := Try.prog) W 9998 34 5 128 Try.underlying34 Try.underlying5 (fun w => by kernel_rfl) s t hs ht
  have e : (s == t) = decide (s = t) := by rw [Bool.eq_iff_iff]; simp
  rw [e] at this
  exact this

/-- A result that lies in a variable, and one beside it. -/
theorem results_blk {fn : Func} {p u : Tmp} {ty : TypeId} (h : fn.results = #[.cell p ty, .tmp u]) (tmps : Array Value) (P : Program) (w : World) (g : Nat) (t : TypeId) (C : Array Value) (x : Value)
    (hp : tmps.getD p undef = .pointer (some ⟨g, 0, none⟩)) (hu : tmps.getD u undef = x) (hb : Blk w g t C) (d : TypeDesc) (hd : P.underlying ty = some d) (hr : d.isRow = true) (hi : (P.info? ty).map (·.size) = some C.size) :
    (results fn tmps).run P w = .ok (.tuple #[.agg C, x]) w := by
  rw [results_cell_tmp h, hp, hu]
  simp [asAddr, Result.andThen, run_load_blk (P := P) ty g t C hb d hd hr hi]
/-- A piece of a sector that lies in a variable. -/
theorem slice_sec (g lo hi : Nat) (x y : Int) (hx : x = (lo : Int)) (hy : y = (hi : Int)) (h1 : lo ≤ hi) (h2 : hi ≤ 128) (h3 : lo < 128) (W : World) :
    (Instr.sliceAt 34 (.pointer (some ⟨g, 0, none⟩)) (some (.int .i64 x)) (some (.int .i64 y)) none).run Try.prog W = .ok (.slice (some ⟨g, lo, none⟩) (hi - lo) (128 - lo)) W := by
  have hal : Try.prog.arrayLen 34 = 128 := by kernel_rfl
  have hs : (sizeOf (Try.prog.elem 34)).run Try.prog W = .ok 1 W := by kernel_rfl
  rw [run_sliceAt_array_lh W 34 ⟨g, 0, none⟩ (by kernel_rfl) .i64 .i64 x y (by omega) (by omega) (by rw [hal]; omega), hs, hal]
  subst hx hy
  simp only [Result.andThen_ok, slicedAt, Int.toNat_natCast]
  rw [if_neg (by omega), add_plain]
  simp
/-- The first k bytes of b, zeros behind. -/
def secTo (b : List UInt8) (k : Nat) : List UInt8 := b.take k ++ List.replicate (128 - k) 0
theorem secTo_length (b : List UInt8) (hb : b.length = 128) (k : Nat) (hk : k ≤ 128) : (secTo b k).length = 128 := by
  unfold secTo; rw [List.length_append, List.length_take, List.length_replicate]; omega
theorem secTo_step (b : List UInt8) (hb : b.length = 128) (k : Nat) (hk : k < b.length) : (secC (secTo b k)).setIfInBounds k (byteCell b[k]) = secC (secTo b (k + 1)) := by
  apply Array.toList_inj.1
  rw [Array.toList_setIfInBounds, secC_list, secC_list, ← List.map_set]
  congr 1
  unfold secTo
  have h1 : (b.take k).length = k := by rw [List.length_take]; omega
  rw [List.set_append_right _ _ (by omega), h1, Nat.sub_self, List.take_succ_eq_append_getElem hk]
  rw [show 128 - k = (128 - (k + 1)) + 1 by omega, List.replicate_succ, List.set_cons_zero, List.append_assoc]
  rfl
theorem secTo_end (b : List UInt8) (hb : b.length = 128) : secTo b 128 = b := by
  unfold secTo; rw [List.take_of_length_le (by omega)]; simp
theorem sec_cell {w : World} {g : Nat} {t : TypeId} {s : List UInt8} (h : Blk w g t (secC s)) (k : Nat) (hk : k < s.length) : w.cell? ⟨g, k, none⟩ = some (byteCell s[k]) := by
  rw [h.cell]; simp [secC, hk]
end Go.Proofs.Ytgmdhedabmkcoaa
