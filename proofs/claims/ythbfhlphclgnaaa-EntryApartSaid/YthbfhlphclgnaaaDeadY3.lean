/- The list of bytes: dead.Read: the walk. -/
import Derived.Test.YthbfhlphclgnaaaDeadY
set_option linter.unusedSimpArgs false
namespace Go.Proofs.Ythbfhlphclgnaaa
open Go.RowKit Go.Sort

def ReadPost (o : Option (List PtrD)) (w : World) (e : Ending) (w' : World) : Prop :=
  (o = none ∧ e = .returned (.tuple #[.slice none 0 0, .int .i64 131]) ∧ Up w w') ∨ ∃ m u, o = some m ∧ e = .returned (.tuple #[u, .int .i64 0]) ∧ IsPtrs w' u m ∧ Up w w'
/-- .. with a result of the call's own. -/
def ReadPostO (o : Option (List PtrD)) (w : World) (e : Ending) (w' : World) : Prop :=
  (o = none ∧ e = .returned (.tuple #[.slice none 0 0, .int .i64 131]) ∧ Up w w') ∨ ∃ m u, o = some m ∧ e = .returned (.tuple #[u, .int .i64 0]) ∧ OwnPtrs w' w.heap.size u m ∧ Up w w'
theorem ReadPostO.post {o : Option (List PtrD)} {w : World} {e : Ending} {w' : World} (h : ReadPostO o w e w') : ReadPost o w e w' := by
  rcases h with h | ⟨m, u, h1, h2, h3, h4⟩
  · exact .inl h
  · exact .inr ⟨m, u, h1, h2, OwnRow.row h3 pw, h4⟩
theorem piece_take (b : List UInt8) (k : Nat) : (b.drop (16 * k)).take 16 = pieceB b k := rfl
theorem piece_drop (b : List UInt8) (k : Nat) : (b.drop (16 * k)).drop 16 = b.drop (16 * (k + 1)) := by rw [List.drop_drop, Nat.mul_succ]

set_option maxHeartbeats 8000000 in
theorem lreadO_any (w : World) (v : Value) (b : List UInt8) (hv : IsBytes w v b) :
    Calls Try.prog 51 #[v] w fun e w' => ReadPostO (readL b) w e w' := by
  have hlen := hv.length_le
  obtain ⟨a, cap, rfl⟩ := hv.slice
  by_cases h16 : b.length % 16 = 0
  case neg =>
    have HN := Lib.hid (show readL b = none from if_neg (fun h => h16 h.1))
    have t1 : ((b.length : Int) % 16 != 0) = true := by simp; omega
    clear h16
    go_enter Try.func51, Try.ntmps51
    go_wp2_with fail
    go_ret2
    exact .inl ⟨HN.out, rfl, Up.refl _⟩
  have t1 : ((b.length : Int) % 16 != 0) = false := by simp; omega
  by_cases h4 : b.length ≤ 64000
  case neg =>
    have HN := Lib.hid (show readL b = none from if_neg (fun h => h4 h.2))
    have t2 : decide ((64000 : Int) < (b.length : Int)) = true := by simp; omega
    have t3 : decide (64000 < b.length) = true := by simp; omega
    clear h4 h16
    go_enter Try.func51, Try.ntmps51
    go_wp2_with fail
    go_ret2
    exact .inl ⟨HN.out, rfl, Up.refl _⟩
  have t2 : decide ((64000 : Int) < (b.length : Int)) = false := by simp; omega
  have t3 : decide (64000 < b.length) = false := by simp; omega
  obtain ⟨T, hT⟩ : ∃ T, T = b.length / 16 := ⟨_, rfl⟩
  have HN := Lib.hid (show readL b = rightO (readTo b T) by rw [hT]; exact if_pos ⟨h16, h4⟩)
  have MK : ∀ W : World, (Instr.makeSlice 42 (.int .i64 0) (.int .i64 (T : Int))).run Try.prog W = _ := fun W => run_makeR0 (P := Try.prog) 42 41 _ 3 24 Try.underlying42 info_ptr T (by omega) (by omega) W
  have RM := Lib.hid (fun W (B : Nat) (hB : B ≤ W.heap.size) => OwnRow.room pcells 3 41 W (.agg #[.int .i64 0, .int .u64 0, .int .u32 0]) B T hB (by omega))
  generalize madeCells (Value.agg #[.int .i64 0, .int .u64 0, .int .u32 0]).cells (T * 3) = zr at *
  have wt : (b.length : Int) / 16 = (T : Int) := by omega
  have hb16 : b.length = 16 * T := by omega
  have HB16 := Lib.hid hb16
  have HV := Lib.hid hv
  obtain ⟨n0, hn0⟩ : ∃ n, n = b.length := ⟨_, rfl⟩
  rw [← hn0] at t1 t2 t3 wt ⊢
  have hv0 := hv
  rw [← hn0] at hv0
  have HV0 := Lib.hid hv0
  have hN0 := Lib.hid hn0
  have hn63 : n0 ≤ 64000 := by omega
  have hT63 : T ≤ 4000 := by omega
  clear hv hv0 hT h16 hb16 hn0 HV h4 hlen
  go_enter Try.func51, Try.ntmps51
  go_wp2_with fail
  have own0 := RM.out w w.heap.size (Nat.le_refl _)
  obtain ⟨g, hg⟩ : ∃ g, g = w.heap.size := ⟨_, rfl⟩
  have HG := Lib.hid hg
  go_loopw [0, 4] (fun s u wr => ∃ (k n ka : Nat) (pa : Option Addr) (out : List PtrD), s = .slice pa n ka ∧ IsBytes w (.slice pa n ka) (b.drop (16 * k)) ∧ n + 16 * k = n0 ∧ readTo b k = some out ∧
      u = .slice (some ⟨g, 0, none⟩) k T ∧ OwnPtrs wr w.heap.size (.slice (some ⟨g, 0, none⟩) k T) out ∧ Up w wr) (fun s _ _ => lenV s)
  case atStart => exact ⟨0, n0, cap, a, [], rfl, HV0.out, rfl, rfl, by rw [hg], by rw [hg]; exact own0, up_alloc _ _⟩
  case round =>
    obtain ⟨k, n, ka, pa, out, rfl, hs, hsum, hrd, rfl, hown, upr⟩ := hrel
    clear own0 MK wt hg t1 t2 t3
    have hkn : k ≤ T := by have := HB16.out; have := hN0.out; omega
    have HRD := Lib.hid hrd
    have HO := Lib.hid hown
    have HS := Lib.hid hs
    have hdl : n = (b.drop (16 * k)).length := by rw [List.length_drop]; have := hN0.out; omega
    have HDL := Lib.hid hdl
    have HOL := Lib.hid (readTo_length hrd)
    clear hrd hown hs hdl
    by_cases h0 : 0 < n
    · have h16 : 16 ≤ n := by have := HB16.out; have := hN0.out; omega
      have hkT : k < T := by have := HB16.out; have := hN0.out; omega
      have hcap : n ≤ ka := by
        rcases HS.out with ⟨_, _, _, hx, _, _⟩ | ⟨_, _, _, hx, _, h1, _⟩
        · simp at hx; omega
        · simp at hx; have := HDL.out; omega
      obtain ⟨n', hn'⟩ : ∃ x, x = n - 16 := ⟨_, rfl⟩
      obtain ⟨v1, hv1⟩ : ∃ x, x = pieceOf pa 0 16 ka := ⟨_, rfl⟩
      obtain ⟨pa', hpa⟩ : ∃ p : Option Addr, p = (if ka = 16 then pa else pa.map (·.add (16 * 1))) := ⟨_, rfl⟩
      obtain ⟨ka', hka⟩ : ∃ x, x = ka - 16 := ⟨_, rfl⟩
      have PT : ∀ W, (Instr.slice 29 (.slice pa n ka) none (some (.int .i64 16)) none).run Try.prog W = .ok v1 W := fun W => by
        rw [hv1]; exact run_piece_to (P := Try.prog) 29 bytes_elem bytes_size pa n ka 16 (by omega) W
      have PF : ∀ W, (Instr.slice 29 (.slice pa n ka) (some (.int .i64 16)) none none).run Try.prog W = .ok (.slice pa' n' ka') W := fun W => by
        have := run_piece_from (P := Try.prog) 29 bytes_elem bytes_size pa n ka 16 (by omega) W
        rw [hpa, hn', hka]
        exact this
      have V1 := Lib.hid (show IsBytes w v1 (pieceB b k) by
        have := IsOnes.piece HS.out (lo := 0) (hi := 16) (by omega) (by rw [← HDL.out]; omega)
        rw [hv1]
        simpa [pieceB] using this)
      have V2 := Lib.hid (show IsBytes w (.slice pa' n' ka') (b.drop (16 * (k + 1))) by
        have := IsOnes.piece HS.out (lo := 16) (hi := n) (by omega) (by rw [← HDL.out]; omega)
        rw [hpa, hn', hka, ← piece_drop]
        rw [List.take_of_length_le (by rw [← HDL.out]; exact Nat.le_refl _)] at this
        exact this)
      have HNN := Lib.hid (show n' + 16 = n by omega)
      have t3 : decide ((0 : Int) < (n : Int)) = true := by simp; omega
      have t4 : decide (0 < n) = true := by simp; omega
      have RD := Lib.hid (fun W (up : Up w W) => read_any W v1 (pieceB b k) (V1.out.up up))
      have NX := Lib.hid (readTo_step HRD.out)
      clear hpa hn' hv1 hka V1
      unfold PRead at RD
      go_wp2_with fail
      refine (RD.out _ upr).mono ?_
      rintro e w2 (⟨p, hp, rfl, up2⟩ | ⟨hp, rfl, up2⟩)
      case inr =>
        have HF := Lib.hid (show readL b = none by
          rw [HN.out, readTo_none b (k + 1) (by rw [NX.out, hp]; rfl) T (by omega)]; rfl)
        clear hp
        unfold ptrV hole
        go_wp2_with fail
        go_ret2
        exact .inl ⟨HF.out, rfl, (upr.trans up2).trans (up_alloc _ _)⟩
      case inl =>
        have HF := Lib.hid (show readTo b (k + 1) = some (out ++ [p]) by rw [NX.out, hp]; rfl)
        clear hp
        obtain ⟨pl, pb, ps⟩ := p
        unfold ptrV
        simp only
        have up3 := (upr.trans up2).trans (up_alloc w2 (.cells #[.int .i64 pl, .int .u64 (pb : Int), .int .u32 (ps : Int)] 41))
        have o3 := (HO.out.up up2).up (up_alloc w2 (.cells #[.int .i64 pl, .int .u64 (pb : Int), .int .u32 (ps : Int)] 41))
        have y0 : (w2.alloc (.cells #[.int .i64 pl, .int .u64 pb, .int .u32 ps] 41)).cell? ⟨w2.heap.size, 0, none⟩ = some (.int .i64 pl) := cell_new w2 _ _ _ 0 _ rfl
        have y1 : (w2.alloc (.cells #[.int .i64 pl, .int .u64 pb, .int .u32 ps] 41)).cell? ⟨w2.heap.size, 1, none⟩ = some (.int .u64 pb) := cell_new w2 _ _ _ 1 _ rfl
        have y2 : (w2.alloc (.cells #[.int .i64 pl, .int .u64 pb, .int .u32 ps] 41)).cell? ⟨w2.heap.size, 2, none⟩ = some (.int .u32 ps) := cell_new w2 _ _ _ 2 _ rfl
        go_wp2_with (at_builtin; refine wpList_append_room pw rfl (.tmp 33) (.tmp 35) 42 rfl w.heap.size 41 (.agg #[.int .i64 0, .int .u64 0, .int .u32 0]) 24 Try.underlying42 info_ptr g T k out HOL.out.symm rfl (o3.up (up_alloc _ _)) (.slice (some ⟨w2.heap.size + 1, 0, none⟩) 1 1) [⟨pl, pb, ps⟩] rfl (one_lit _ _ (World.size_alloc _ _).symm pl pb ps) (k + 1) (by rw [HOL.out]; rfl) (by omega) (Nat.le_trans up3.size (up_alloc _ _).size) ?_)
        intro w5 hown5 _ hb5
        go_wp2_with fail
        go_roundw
        case rel => exact ⟨k + 1, n', ka', pa', out ++ [⟨pl, pb, ps⟩], rfl, V2.out, by have := HNN.out; omega, HF.out, rfl, hown5, (up3.alloc _).below_trans hb5 (Nat.le_refl _)⟩
        case measure => have := HNN.out; show n' < n; omega
    · have hkT : k = T := by have := HB16.out; have := hN0.out; omega
      subst hkT
      have t3 : decide ((0 : Int) < (n : Int)) = false := by simp; omega
      have t4 : decide (0 < n) = false := by simp; omega
      have HF := Lib.hid (show readL b = rightO (some out) by rw [HN.out, HRD.out])
      have IO := Lib.hid (OwnRow.row HO.out pw)
      have LR := Lib.hid (fun W u (h : IsPtrs W u out) => lright_any W u out h)
      cases hR : rightB out
      all_goals
        rw [hR] at LR
        simp only [rightO, hR] at HF
        clear hR
        go_wp2_with fail
        refine (LR.out _ _ IO.out).mono ?_
        rintro e w3 ⟨rfl, up3⟩
        go_wp2_with fail
        go_ret2
      · exact .inl ⟨HF.out, rfl, upr.trans up3⟩
      · exact .inr ⟨out, _, HF.out, rfl, OwnRow.up HO.out up3, upr.trans up3⟩
theorem lread_any (w : World) (v : Value) (b : List UInt8) (hv : IsBytes w v b) :
    Calls Try.prog 51 #[v] w fun e w' => ReadPost (readL b) w e w' := (lreadO_any w v b hv).mono fun _ _ h => h.post
end Go.Proofs.Ythbfhlphclgnaaa
