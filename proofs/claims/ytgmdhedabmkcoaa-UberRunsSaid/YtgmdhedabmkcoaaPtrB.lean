/- Pointers as bytes: the walks of both sides. -/
import Derived.Test.YtgmdhedabmkcoaaPtr
import Derived.Test.YtgmdhedabmkcoaaFieldW2
import Derived.Deep.RegionHeld3
set_option linter.unusedSimpArgs false
namespace Go.Proofs.Ytgmdhedabmkcoaa
open Go.RowKit

/-- A cell of a new block. -/
theorem cell_new (w : World) (cs : Array Value) (t : TypeId) (fr : Nat × Nat) (i : Nat) (v : Value) (h : cs[i]? = some v) : (w.alloc (.cells cs t fr)).cell? ⟨w.heap.size, i, none⟩ = some v := by
  have hh : (w.alloc (.cells cs t fr)).heap[w.heap.size]? = some (.cells cs t fr) := by
    show (w.heap.push _)[w.heap.size]? = _
    simp
  unfold World.cell?
  rw [hh]
  exact h
/-- A row that was made behind another stays while that grows. -/
theorem Own.kept_late {α β : Type} {f : α → Value} {f' : β → Value} {e e' : TypeId} {w w' w0 : World} {base base' : Nat} {v v' : Value} {xs : List α} {ys : List β} (h : Own f e w base v xs) (h2 : Own f' e' w0 base' v' ys)
    (hb : w0.heap.size ≤ base) (hg : w.grownBy w' v'.ownBlock) : Own f e w' base v xs := by
  refine World.ownsRow.kept h hg ?_
  cases ho : v.ownBlock with
  | none => exact .inl rfl
  | some k =>
    right
    intro heq
    have h3 := (h.block_lt k ho).1
    have h4 := (h2.block_lt k heq.symm).2
    omega
theorem wrap_u64_nat (n : Nat) (h : n < 18446744073709551616) : IntKind.u64.wrap (n : Int) = (n : Int) := by
  simp [IntKind.wrap, IntKind.bits, IntKind.signed]
  omega
def ptrWs : List Int := [4, 8, 4]
def ptrNs (p : PtrD) : List Nat := [p.loc.toNat, p.birth, p.sum]
def ptrBytes (p : PtrD) : List UInt8 := putBytes ptrWs (ptrNs p)

theorem good_nat {l : Int} {b s : Nat} (h : goodB ⟨l, b, s⟩ = true) : ∃ n : Nat, l = n ∧ n < 1024 := by
  rw [goodB_iff] at h
  exact ⟨l.toNat, by omega, by omega⟩
theorem okPut_ptr (n b s : Nat) (h1 : n < 1024) (h2 : b < 18446744073709551616) (h3 : s < 4294967296) : okPut ptrWs [n, b, s] := by
  refine ⟨rfl, ?_, ?_⟩
  · intro x hx
    simp [ptrWs] at hx
    omega
  · simp [ptrWs, fits]
    omega

theorem widths_any (w : World) : Calls Try.prog 61 #[] w fun e w' => e = .returned (.slice (some ⟨w.heap.size, 0, none⟩) 3 3) ∧ w' = w.alloc (.cells #[.int .i64 4, .int .i64 8, .int .i64 4] 3 (0, 0)) := by
  go_enter Try.func61, Try.ntmps61
  go_wp2_with fail
  go_ret
  exact ⟨rfl, rfl⟩

theorem lit_then {α : Type} {f : α → Value} (w : World) (B : Obj) (cs : Array Value) (t : TypeId) (fr : Nat × Nat) (l : List α) (n b : Nat) (hb : b = w.heap.size) (hn : n = l.length) (hm : n ≤ maxLen) (hcs : cs.toList = l.map f) :
    IsOnes f ((w.alloc (.cells cs t fr)).alloc B).drew (.slice (some ⟨b, 0, none⟩) n n) l := (IsOnes.litAt w b hb cs t fr l n hn hm hcs).up ((up_alloc _ _).drew)
theorem then_lit {α : Type} {f : α → Value} (w : World) (B : Obj) (cs : Array Value) (t : TypeId) (fr : Nat × Nat) (l : List α) (n b : Nat) (hb : b = (w.alloc B).heap.size) (hn : n = l.length) (hm : n ≤ maxLen) (hcs : cs.toList = l.map f) :
    IsOnes f ((w.alloc B).alloc (.cells cs t fr)).drew (.slice (some ⟨b, 0, none⟩) n n) l := (IsOnes.litAt _ b hb cs t fr l n hn hm hcs).up ((Up.refl _).drew)
theorem three_le : 3 ≤ maxLen := by unfold maxLen; omega
theorem keep_of {w1 w' : World} {a b c : Addr} {x y z : Value} (h0 : w1.cell? a = some x) (h1 : w1.cell? b = some y) (h2 : w1.cell? c = some z) (h : Up w1 w') : Up w1 w' ∧ w'.cell? a = some x ∧ w'.cell? b = some y ∧ w'.cell? c = some z :=
  ⟨h, h.cell h0, h.cell h1, h.cell h2⟩
def PBytes (p : PtrD) (w : World) (e : Ending) (w' : World) : Prop :=
  (goodB p = true ∧ ∃ v, e = .returned (.tuple #[v, .int .i64 0]) ∧ Own byteCell 5 w' w.heap.size v (ptrBytes p) ∧ Up w w') ∨
  (goodB p = false ∧ e = .returned (.tuple #[.slice none 0 0, .int .i64 51]) ∧ Up w w')

set_option maxHeartbeats 1000000 in
theorem refBytes_any (w : World) (p : PtrD) (hp : p.wf) :
    Calls Try.prog 38 #[ptrV p] w fun e w' => PBytes p w e w' := by
  obtain ⟨l, b, s⟩ := p
  obtain ⟨h1, h2, h3⟩ := hp
  simp only at h1 h2 h3
  have HR := Lib.hid (fun w0 => refRight_any w0 ⟨l, b, s⟩)
  unfold ptrV at *
  by_cases hg : goodB ⟨l, b, s⟩ = true
  case neg =>
    have hgf : goodB ⟨l, b, s⟩ = false := by simpa using hg
    rw [hgf] at HR
    have Hg := Lib.hid hgf
    clear hg hgf
    go_enter Try.func38, Try.ntmps38
    go_wp2_with fail
    refine (HR.out _).mono ?_
    rintro e w1 ⟨rfl, up1⟩
    go_wp2_with fail
    go_ret2
    exact .inr ⟨Hg.out, rfl, (up_alloc _ _).trans up1⟩
  obtain ⟨n, rfl, hn⟩ := good_nat hg
  rw [hg] at HR
  have Hg := Lib.hid hg
  clear hg
  have z1 : (n / 256 ^ 4 == 0) = true := by simp; omega
  have z2 : (b / 256 ^ 8 == 0) = true := by simp; omega
  have z3 : (s / 256 ^ 4 == 0) = true := by simp; omega
  go_enter Try.func38, Try.ntmps38
  go_wp2_with fail
  refine (HR.out _).mono ?_
  rintro e w1 ⟨rfl, up1⟩
  have c0 : w1.cell? ⟨w.heap.size, 0, none⟩ = some (.int .i64 n) := up1.cell (cell_new w _ _ _ 0 _ rfl)
  have c1 : w1.cell? ⟨w.heap.size, 1, none⟩ = some (.int .u64 b) := up1.cell (cell_new w _ _ _ 1 _ rfl)
  have c2 : w1.cell? ⟨w.heap.size, 2, none⟩ = some (.int .u32 s) := up1.cell (cell_new w _ _ _ 2 _ rfl)
  go_wp2_with fail
  refine (number_any _ n (by omega) 4 (by omega)).mono ?_
  rintro e w2 ⟨va, rfl, hva, up2⟩
  rw [z1]
  have c1' := up2.cell c1
  have c2' := up2.cell c2
  go_wp2_with fail
  refine (number_any _ b (by omega) 8 (by omega)).mono ?_
  rintro e w3 ⟨vb, rfl, hvb, up3⟩
  rw [z2]
  have c2'' := up3.cell c2'
  go_wp2_with fail
  refine (number_any _ s (by omega) 4 (by omega)).mono ?_
  rintro e w4 ⟨vc, rfl, hvc, up4⟩
  rw [z3]
  have ha := ((hva.up up3).up up4)
  have hb := hvb.up up4
  have la := numBytes_length 4 n
  have lb := numBytes_length 8 b
  have lc := numBytes_length 4 s
  have e0 : ptrBytes ⟨n, b, s⟩ = numBytes n 4 ++ (numBytes b 8 ++ numBytes s 4) := by simp [ptrBytes, ptrWs, ptrNs, putBytes]
  have E0 := Lib.hid e0
  clear e0
  generalize hx : numBytes n 4 = xa at *
  generalize hy : numBytes b 8 = xb at *
  generalize hz : numBytes s 4 = xc at *
  clear hx hy hz
  obtain ⟨a2, p2, rfl⟩ := hb.ones.slice
  obtain ⟨a3, p3, rfl⟩ := hvc.ones.slice
  have hup := (up_alloc w _).trans (up1.trans (up2.trans (up3.trans up4)))
  have s1 := ((up_alloc w _).trans up1).size
  have s4 := (up2.trans (up3.trans up4)).size
  rw [lb] at hb hvb ⊢
  rw [lc] at hvc ⊢
  have La := Lib.hid la
  have Lb := Lib.hid lb
  have Lc := Lib.hid lc
  clear la lb lc
  go_wp2_with (at_builtin; refine wpList_append_ones byteCell byteCell_one rfl (.tmp 33) (.tmp 34) 76 rfl w.heap.size 5 (.int .u8 0) 1 Try.underlying76 info_u8 rfl _ _ rfl (ha.mono s1) (.slice a2 8 p2) xb rfl hb.ones (by have := La.out; have := Lb.out; omega) (by have := La.out; have := Lb.out; omega) (by omega) ?_)
  intro v' w5 hown5 hg5 hb5
  have hc5 := (hvc.kept_late hva up3.size hg5).ones
  go_wp2_with (at_builtin; refine wpList_append_ones byteCell byteCell_one rfl (.tmp 35) (.tmp 36) 76 rfl w.heap.size 5 (.int .u8 0) 1 Try.underlying76 info_u8 rfl _ _ rfl hown5 (.slice a3 4 p3) xc rfl hc5 (by have := La.out; have := Lb.out; have := Lc.out; simp; omega) (by have := La.out; have := Lb.out; have := Lc.out; simp; omega) (by have := hb5.size; omega) ?_)
  intro v'' w6 hown6 _ hb6
  go_wp2_with fail
  go_ret2
  exact .inl ⟨Hg.out, _, rfl, by rw [E0.out]; exact hown6, (hup.below_trans hb5 (Nat.le_refl _)).below_trans hb6 (Nat.le_refl _)⟩

set_option maxHeartbeats 4000000 in
theorem bytes_any (w : World) (p : PtrD) (hp : p.wf) :
    Calls Try.prog 35 #[ptrV p] w fun e w' => PBytes p w e w' := by
  obtain ⟨l, b, s⟩ := p
  obtain ⟨h1, h2, h3⟩ := hp
  simp only at h1 h2 h3
  have HR := Lib.hid (fun w0 => right_any w0 ⟨l, b, s⟩)
  unfold ptrV at *
  by_cases hg : goodB ⟨l, b, s⟩ = true
  case neg =>
    have hgf : goodB ⟨l, b, s⟩ = false := by simpa using hg
    rw [hgf] at HR
    have Hg := Lib.hid hgf
    clear hg hgf
    go_enter Try.func35, Try.ntmps35
    go_wp2_with fail
    refine (HR.out _).mono ?_
    rintro e w1 ⟨rfl, up1⟩
    go_wp2_with fail
    go_ret2
    exact .inr ⟨Hg.out, rfl, (up_alloc _ _).trans up1⟩
  obtain ⟨n, rfl, hn⟩ := good_nat hg
  rw [hg] at HR
  have Hg := Lib.hid hg
  clear hg
  go_enter Try.func35, Try.ntmps35
  go_wp2_with fail
  refine (HR.out _).mono ?_
  rintro e w1 ⟨rfl, up1⟩
  have c0 : w1.cell? ⟨w.heap.size, 0, none⟩ = some (.int .i64 n) := up1.cell (cell_new w _ _ _ 0 _ rfl)
  have c1 : w1.cell? ⟨w.heap.size, 1, none⟩ = some (.int .u64 b) := up1.cell (cell_new w _ _ _ 1 _ rfl)
  have c2 : w1.cell? ⟨w.heap.size, 2, none⟩ = some (.int .u32 s) := up1.cell (cell_new w _ _ _ 2 _ rfl)
  have hup := (up_alloc w _).trans up1
  have s1 := up1.size
  have Hp := Lib.hid (okPut_ptr n b s hn h2 h3)
  go_wp2_with fail
  have wn := wrap_u64_nat n (by omega)
  have ws := wrap_u64_nat s (by omega)
  have hi := hup
  go_region_held3 (fun w' => Up w1 w' ∧ w'.cell? ⟨w.heap.size, 0, none⟩ = some (.int .i64 n) ∧ w'.cell? ⟨w.heap.size, 1, none⟩ = some (.int .u64 b) ∧ w'.cell? ⟨w.heap.size, 2, none⟩ = some (.int .u32 s))
    ((refine keep_of c0 c1 c2 ?_
      first
        | (refine Up.trans ?_ up4; (repeat (first | exact Up.refl _ | apply Up.alloc | apply Up.drew)); done)
        | ((repeat (first | exact Up.refl _ | apply Up.alloc | apply Up.drew)); done)))
    ((first
      | (go_at_call 61
         refine (widths_any _).mono ?_
         rintro e w2 ⟨rfl, rfl⟩)
      | (go_at_call 34
         refine (put_any _ _ ptrWs (by first
             | exact lit_then w1 _ #[.int .i64 4, .int .i64 8, .int .i64 4] 3 _ ptrWs 3 _ rfl rfl three_le rfl
             | exact then_lit w1 _ #[.int .i64 4, .int .i64 8, .int .i64 4] 3 _ ptrWs 3 _ rfl rfl three_le rfl
             | exact then_lit w1 _ #[.int .i64 4, .int .i64 8, .int .i64 4] 3 _ ptrWs 3 _ (World.size_alloc _ _).symm rfl three_le rfl)
           (by simp [ptrWs]) _ [n, b, s] (by first
             | exact lit_then w1 _ #[.int .u64 n, .int .u64 b, .int .u64 s] 22 _ [n, b, s] 3 _ rfl rfl three_le rfl
             | exact then_lit w1 _ #[.int .u64 n, .int .u64 b, .int .u64 s] 22 _ [n, b, s] 3 _ rfl rfl three_le rfl
             | exact then_lit w1 _ #[.int .u64 n, .int .u64 b, .int .u64 s] 22 _ [n, b, s] 3 _ (World.size_alloc _ _).symm rfl three_le rfl)
           (by simp; omega)).mono ?_
         rintro e w4 (⟨_, vv, rfl, hvv, up4⟩ | ⟨hno, _⟩)
         case inr => exact absurd Hp.out hno)))
  all_goals
    have k1 := ((up_alloc w1 _).alloc _).drew.trans up4
    have k2 := hvv.mono (Nat.le_trans hup.size ((up_alloc w1 _).alloc _).drew.size)
    clear hvv up4
    go_wp2_with fail
    go_ret2
    exact .inl ⟨Hg.out, _, rfl, k2, hup.trans k1⟩
end Go.Proofs.Ytgmdhedabmkcoaa
