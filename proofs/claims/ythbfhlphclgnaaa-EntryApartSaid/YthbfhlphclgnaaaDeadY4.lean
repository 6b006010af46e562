/- The list of bytes: the document's walk. -/
import Derived.Test.YthbfhlphclgnaaaDeadY3
import Derived.Test.YthbfhlphclgnaaaDeadR
set_option linter.unusedSimpArgs false
namespace Go.Proofs.Ythbfhlphclgnaaa
open Go.RowKit Go.Sort

set_option maxHeartbeats 8000000 in
theorem rreadO_any (w : World) (v : Value) (b : List UInt8) (hv : IsBytes w v b) :
    Calls Try.prog 38 #[v] w fun e w' => ReadPostO (readL b) w e w' := by
  have hlen := hv.length_le
  obtain ⟨a, cap, rfl⟩ := hv.slice
  by_cases h16 : b.length % 16 = 0
  case neg =>
    have HN := Lib.hid (show readL b = none from if_neg (fun h => h16 h.1))
    have t1 : ((b.length : Int) % 16 != 0) = true := by simp; omega
    clear h16
    go_enter Try.func38, Try.ntmps38
    go_wp2_with fail
    go_ret2
    exact .inl ⟨HN.out, rfl, Up.refl _⟩
  have t1 : ((b.length : Int) % 16 != 0) = false := by simp; omega
  by_cases h4 : b.length ≤ 64000
  case neg =>
    have HN := Lib.hid (show readL b = none from if_neg (fun h => h4 h.2))
    have t2 : decide ((64000 : Int) < (b.length : Int)) = true := by simp; omega
    have t3 : decide (64000 < b.length) = true := by simp; omega
    clear h4 h16
    go_enter Try.func38, Try.ntmps38
    go_wp2_with fail
    go_ret2
    exact .inl ⟨HN.out, rfl, Up.refl _⟩
  have t2 : decide ((64000 : Int) < (b.length : Int)) = false := by simp; omega
  have t3 : decide (64000 < b.length) = false := by simp; omega
  obtain ⟨T, hT⟩ : ∃ T, T = b.length / 16 := ⟨_, rfl⟩
  have HN := Lib.hid (show readL b = rightO (readTo b T) by rw [hT]; exact if_pos ⟨h16, h4⟩)
  have hb16 : b.length = 16 * T := by omega
  have HB16 := Lib.hid hb16
  obtain ⟨n0, hn0⟩ : ∃ n, n = b.length := ⟨_, rfl⟩
  rw [← hn0] at t1 t2 t3 ⊢
  have hv0 := hv
  rw [← hn0] at hv0
  have HV0 := Lib.hid hv0
  have hN0 := Lib.hid hn0
  have hn63 : n0 ≤ 64000 := by omega
  have hT63 : T ≤ 4000 := by omega
  have hcap : n0 ≤ cap := by
    rcases hv0 with ⟨_, _, _, hx, _, _⟩ | ⟨_, _, _, hx, _, h1, _⟩
    · simp at hx; omega
    · simp at hx; omega
  clear hv hv0 hT h16 hb16 hn0 h4 hlen
  go_enter Try.func38, Try.ntmps38
  go_wp2_with fail
  have own0 : OwnPtrs (w.alloc (.cells #[] 41)) w.heap.size (.slice (some ⟨w.heap.size, 0, none⟩) 0 0) [] := OwnRow.made pcells 3 41 w w.heap.size (Nat.le_refl _)
  go_loopw [4, 5] (fun u i wr => ∃ (k lo : Nat) (out : List PtrD), i = .int .i64 lo ∧ lo = 16 * k ∧ lo ≤ n0 ∧ readTo b k = some out ∧ OwnPtrs wr w.heap.size u out ∧ Up w wr) (fun _ i _ => n0 - (intOf i).toNat)
  case atStart => exact ⟨0, 0, [], rfl, rfl, Nat.zero_le _, rfl, own0, up_alloc _ _⟩
  case round =>
    obtain ⟨k, lo, out, rfl, hlo, hle, hrd, hown, upr⟩ := hrel
    clear own0 t1 t2 t3
    have HRD := Lib.hid hrd
    have HO := Lib.hid hown
    have HOL := Lib.hid (readTo_length hrd)
    have HLO := Lib.hid hlo
    clear hrd hown hlo
    by_cases h0 : lo < n0
    · have h16 : lo + 16 ≤ n0 := by have := HB16.out; have := hN0.out; have := HLO.out; omega
      have hkT : k < T := by have := HB16.out; have := hN0.out; have := HLO.out; omega
      obtain ⟨v1, hv1⟩ : ∃ x, x = pieceOf a lo (lo + 16) cap := ⟨_, rfl⟩
      have PT : ∀ W, (Instr.slice 29 (.slice a n0 cap) (some (.int .i64 (lo : Int))) (some (.int .i64 ((lo : Int) + 16))) none).run Try.prog W = .ok v1 W := fun W => by
        rw [hv1]; exact run_piece (P := Try.prog) 29 bytes_elem bytes_size a n0 cap lo (lo + 16) (by omega) (by omega) W
      have V1 := Lib.hid (show IsBytes w v1 (pieceB b k) by
        have := IsOnes.piece HV0.out (lo := lo) (hi := lo + 16) (by omega) (by rw [← hN0.out]; omega)
        rw [hv1]
        rw [HLO.out] at this ⊢
        unfold pieceB
        rw [List.drop_take, show 16 * k + 16 - 16 * k = 16 by omega] at this
        exact this)
      have NX := Lib.hid (readTo_step HRD.out)
      have t3 : ((lo : Int) < (n0 : Int)) = True := by simp; omega
      have hvr := V1.out.up upr
      have PL16 : (pieceB b k).length ≤ 16 := by unfold pieceB; rw [List.length_take]; omega
      clear hv1
      go_wp2_with (at_builtin; refine wpList_fresh_ones byteCell byteCell_one rfl (.tmp 25) (.tmp 30) 29 rfl 5 (.int .u8 0) 1 Try.underlying29 info_u8 rfl rfl v1 (pieceB b k) rfl hvr (by omega) ?_)
      intro v2 w1 ho1 up1
      have RD := Lib.hid (refRead_any w1 v2 (pieceB b k) ho1.ones)
      unfold PRead at RD
      clear PT hvr ho1 PL16
      go_wp2_with fail
      refine RD.out.mono ?_
      rintro e w2 (⟨p, hp, rfl, up2⟩ | ⟨hp, rfl, up2⟩)
      case inr =>
        have HF := Lib.hid (show readL b = none by
          rw [HN.out, readTo_none b (k + 1) (by rw [NX.out, hp]; rfl) T (by omega)]; rfl)
        clear hp
        unfold ptrV hole
        go_wp2_with fail
        go_ret2
        exact .inl ⟨HF.out, rfl, ((upr.trans up1).trans up2).trans (up_alloc _ _)⟩
      case inl =>
        have HF := Lib.hid (show readTo b (k + 1) = some (out ++ [p]) by rw [NX.out, hp]; rfl)
        clear hp
        obtain ⟨pl, pb, ps⟩ := p
        unfold ptrV
        simp only
        have up3 := ((upr.trans up1).trans up2).trans (up_alloc w2 (.cells #[.int .i64 pl, .int .u64 (pb : Int), .int .u32 (ps : Int)] 41))
        have o3 := (HO.out.up (up1.trans up2)).up (up_alloc w2 (.cells #[.int .i64 pl, .int .u64 (pb : Int), .int .u32 (ps : Int)] 41))
        have y0 : (w2.alloc (.cells #[.int .i64 pl, .int .u64 pb, .int .u32 ps] 41)).cell? ⟨w2.heap.size, 0, none⟩ = some (.int .i64 pl) := cell_new w2 _ _ _ 0 _ rfl
        have y1 : (w2.alloc (.cells #[.int .i64 pl, .int .u64 pb, .int .u32 ps] 41)).cell? ⟨w2.heap.size, 1, none⟩ = some (.int .u64 pb) := cell_new w2 _ _ _ 1 _ rfl
        have y2 : (w2.alloc (.cells #[.int .i64 pl, .int .u64 pb, .int .u32 ps] 41)).cell? ⟨w2.heap.size, 2, none⟩ = some (.int .u32 ps) := cell_new w2 _ _ _ 2 _ rfl
        have hol := HOL.out
        have HK := Lib.hid (show out.length + 1 ≤ 4001 by omega)
        clear hol
        go_wp2_with (at_builtin; refine wpList_append_row pw rfl (.tmp 37) (.tmp 39) 42 rfl w.heap.size 41 (.agg #[.int .i64 0, .int .u64 0, .int .u32 0]) 24 Try.underlying42 info_ptr rfl _ out rfl (o3.up (up_alloc _ _)) (.slice (some ⟨w2.heap.size + 1, 0, none⟩) 1 1) [⟨pl, pb, ps⟩] rfl (one_lit _ _ (World.size_alloc _ _).symm pl pb ps) (by have := HK.out; simp; omega) (by have := HK.out; simp; omega) (Nat.le_trans up3.size (up_alloc _ _).size) ?_)
        intro v' w5 hown5 _ hb5
        go_wp2_with fail
        go_roundw
        case rel => exact ⟨k + 1, lo + 16, out ++ [⟨pl, pb, ps⟩], by go_num, by have := HLO.out; omega, h16, HF.out, hown5, (up3.alloc _).below_trans hb5 (Nat.le_refl _)⟩
        case measure => simp [intOf]; omega
    · have hkT : k = T := by have := HB16.out; have := hN0.out; have := HLO.out; omega
      subst hkT
      have t3 : ((lo : Int) < (n0 : Int)) = False := by simp; omega
      have HF := Lib.hid (show readL b = rightO (some out) by rw [HN.out, HRD.out])
      have IO := Lib.hid (OwnRow.row HO.out pw)
      have LR := Lib.hid (fun W u (h : IsPtrs W u out) => rright_any W u out h)
      cases hR : rightB out
      all_goals
        rw [hR] at LR
        simp only [rightO, hR] at HF
        clear hR
        go_wp2_with fail
        refine (LR.out _ _ IO.out).mono ?_
        rintro e w3 ⟨rfl, up3⟩
        go_wp2_with fail
        go_ret2
      · exact .inl ⟨HF.out, rfl, upr.trans up3⟩
      · exact .inr ⟨out, _, HF.out, rfl, OwnRow.up HO.out up3, upr.trans up3⟩
theorem rread_any (w : World) (v : Value) (b : List UInt8) (hv : IsBytes w v b) :
    Calls Try.prog 38 #[v] w fun e w' => ReadPost (readL b) w e w' := (rreadO_any w v b hv).mono fun _ _ h => h.post
end Go.Proofs.Ythbfhlphclgnaaa
